/- The four functions that lz.Decode hands to walk, as contracts over what the player holds. -/
import Derived.Test.YtnomebkdhjigjaaLb
import Derived.Test.YtnomebkdhjigjaaLu
namespace Go.Proofs.Ytnomebkdhjigjaa.W
open Go.RowKit Go.Proofs.YtnomebkdhjigjaaW.PrintWords Go.Proofs.YtnomebkdhjigjaaW.PrintLast Go.Proofs.YtnomebkdhjigjaaW.PrintMore
set_option linter.unusedVariables false
set_option linter.unusedSimpArgs false
structure DInv (w0 w : World) (g gp gl : Nat) (all : List Int) (va : Value) (bg most last : Int) : Prop where
  B : Below w0.heap.size w0 w
  hg : w0.heap.size ≤ g
  hl : w0.heap.size ≤ gl
  p : Pl w w0.heap.size g all va bg most
  c : w.heap[gp]? = some (.cells #[.pointer (some ⟨g, 0, none⟩)] 101 (0, 0))
  l : w.heap[gl]? = some (.cells #[.int .i64 last] 3 (0, 0))
  b0 : 0 ≤ bg ∧ bg ≤ 65535
  b1 : bg ≤ (all.length : Int)
  m0 : 0 ≤ most ∧ most ≤ 4194304
  sz : (all.length : Int) - bg ≤ most
theorem DInv.len {w0 w : World} {g gp gl : Nat} {all : List Int} {va : Value} {bg most last : Int} (h : DInv w0 w g gp gl all va bg most last) : all.length ≤ 4259839 := by
  have a := h.b0
  have b := h.m0
  have c := h.sz
  omega
/-- Whatever leaves these blocks alone. -/
theorem DInv.fr {w0 w w' : World} {g gp gl : Nat} {all : List Int} {va : Value} {bg most last : Int} {ok : Nat → Prop} (h : DInv w0 w g gp gl all va bg most last) (f : Fr w w' ok) (h0 : ∀ i, i < w0.heap.size → ok i) (h1 : ok g) (h2 : ok gp) (h3 : ok gl) (h4 : ∀ i, some i = va.ownBlock → ok i) :
    DInv w0 w' g gp gl all va bg most last :=
  ⟨h.B.trans (f.below (fun i hi => ⟨Nat.lt_of_lt_of_le hi h.B.size, h0 i hi⟩)), h.hg, h.hl, h.p.fr f h1 h4, f.heap h.c h2, f.heap h.l h3, h.b0, h.b1, h.m0, h.sz⟩
theorem DInv.keep {w0 w w' : World} {g gp gl : Nat} {all : List Int} {va : Value} {bg most last : Int} (h : DInv w0 w g gp gl all va bg most last) (f : Fr w w' (fun _ => True)) : DInv w0 w' g gp gl all va bg most last :=
  h.fr f (fun _ _ => trivial) trivial trivial trivial (fun _ _ => trivial)
theorem DInv.upd {w0 w w' : World} {g gp gl : Nat} {all all' : List Int} {va va' : Value} {bg most last : Int} (h : DInv w0 w g gp gl all va bg most last) (p : Pl w' w0.heap.size g all' va' bg most) (f : Fr w w' (fun i => i ≠ g ∧ some i ≠ va.ownBlock)) (hb : bg ≤ (all'.length : Int)) (hs : (all'.length : Int) - bg ≤ most) :
    DInv w0 w' g gp gl all' va' bg most last :=
  ⟨h.B.trans (f.below (fun i hi => ⟨Nat.lt_of_lt_of_le hi h.B.size, by have := h.hg; omega, fun e => by have := (own_ge h.p.o i e).1; omega⟩)), h.hg, h.hl, p,
    f.heap h.c ⟨blk_ne h.c h.p.d (by decide), own_ne h.p.o h.c (by decide)⟩, f.heap h.l ⟨blk_ne h.l h.p.d (by decide), own_ne h.p.o h.l (by decide)⟩, h.b0, hb, h.m0, hs⟩
theorem DInv.set {w0 w : World} {g gp gl : Nat} {all : List Int} {va : Value} {bg most last : Int} (h : DInv w0 w g gp gl all va bg most last) (z : Int) : DInv w0 (w.setCell ⟨gl, 0, none⟩ (.int .i64 z)) g gp gl all va bg most z := by
  have f : Fr w (w.setCell ⟨gl, 0, none⟩ (.int .i64 z)) (fun i => i ≠ gl) := Fr.set ⟨gl, 0, none⟩ _
  exact ⟨h.B.trans (f.below (fun i hi => ⟨Nat.lt_of_lt_of_le hi h.B.size, by have := h.hl; omega⟩)), h.hg, h.hl, h.p.fr f (blk_ne h.p.d h.l (by decide)) (fun i hi e => by subst e; exact own_ne h.p.o h.l (by decide) hi),
    f.heap h.c (blk_ne h.c h.l (by decide)), blk_set h.l 0 _, h.b0, h.b1, h.m0, h.sz⟩
theorem run_calls (w0 : World) (g gp gl : Nat) (all : List Int) (va : Value) (bg most last n k : Int) (w : World) (h : DInv w0 w g gp gl all va bg most last) :
    Calls Try.prog 77 #[.int .i64 n, .int .i64 k, .pointer (some ⟨gp, 0, none⟩)] w fun e w' => e = .returned (.int .i64 (roomE all bg most n)) ∧ ∃ k, w' = w.drewN k := by
  have a := h.b0
  have b := h.m0
  have HC := Aside0.mk (room_calls g w0.heap.size all va bg most n w h.p ⟨a.1, by omega⟩ ⟨b.1, by omega⟩ (by have := h.len; omega))
  have xc : w.cell? ⟨gp, 0, none⟩ = some (.pointer (some ⟨g, 0, none⟩)) := cell_of_one h.c
  rw [show (if n > most - ((all.length : Int) - bg) then (32 : Int) else 0) = roomE all bg most n from rfl] at HC
  generalize roomE all bg most n = E at HC ⊢
  clear h a b
  go_enter Try.func77, Try.ntmps77
  go_wp2_with (first | (go_at_call 71; refine HC.out.mono ?_; rintro e w1 ⟨rfl, k1, rfl⟩))
  go_ret
  exact ⟨rfl, _, rfl⟩
set_option maxHeartbeats 1000000 in
theorem match_calls (w0 : World) (g gp gl : Nat) (all : List Int) (va : Value) (bg most last n k : Int) (w : World) (h : DInv w0 w g gp gl all va bg most last) :
    Calls Try.prog 79 #[.int .i64 n, .int .i64 k, .pointer (some ⟨gl, 0, none⟩), .pointer (some ⟨gp, 0, none⟩)] w fun e w' => e = .returned (.int .i64 (if n > (all.length : Int) then 30 else 0)) ∧ DInv w0 w' g gp gl all va bg most n ∧ Fr w w' (fun i => i ≠ gl) := by
  have hs := h.set n
  have HC := Aside0.mk (reaches_calls g w0.heap.size all va bg most n _ hs.p)
  have xc : (w.setCell ⟨gl, 0, none⟩ (.int .i64 n)).cell? ⟨gp, 0, none⟩ = some (.pointer (some ⟨g, 0, none⟩)) := cell_of_one hs.c
  have xl : w.cell? ⟨gl, 0, none⟩ = some (.int .i64 last) := cell_of_one h.l
  have zl : w.frozen? ⟨gl, 0, none⟩ = false := blk_frozen h.l 0
  have HS := Aside0.mk hs
  have HF := Aside0.mk (Fr.set (w := w) ⟨gl, 0, none⟩ (.int .i64 n))
  generalize (if n > (all.length : Int) then (30 : Int) else 0) = E at HC ⊢
  clear h hs
  go_enter Try.func79, Try.ntmps79
  go_wp2_with (first | (go_at_call 72; refine HC.out.mono ?_; rintro e w1 ⟨rfl, e1⟩; subst e1))
  go_ret
  exact ⟨rfl, HS.out, HF.out⟩
set_option maxHeartbeats 1000000 in
theorem length_calls (w0 : World) (g gp gl : Nat) (all : List Int) (va : Value) (bg most k : Int) (last n : Nat) (w : World) (h : DInv w0 w g gp gl all va bg most last) (h1 : 1 ≤ last) (h2 : last ≤ all.length) :
    Calls Try.prog 80 #[.int .i64 n, .int .i64 k, .pointer (some ⟨gp, 0, none⟩), .pointer (some ⟨gl, 0, none⟩)] w fun e w' => e = .returned (.int .i64 (roomE all bg most n)) ∧
      ∃ va', DInv w0 w' g gp gl (if roomE all bg most n = 0 then copied last n all else all) va' bg most last ∧ Fr w w' (fun i => i ≠ g ∧ some i ≠ va.ownBlock) := by
  have a := h.b0
  have b := h.m0
  have HC := Aside0.mk (room_calls g w0.heap.size all va bg most n w h.p ⟨a.1, by omega⟩ ⟨b.1, by omega⟩ (by have := h.len; omega))
  have xc : w.cell? ⟨gp, 0, none⟩ = some (.pointer (some ⟨g, 0, none⟩)) := cell_of_one h.c
  have xl : w.cell? ⟨gl, 0, none⟩ = some (.int .i64 last) := cell_of_one h.l
  have HI := Aside0.mk h
  have hE : (if (n : Int) > most - ((all.length : Int) - bg) then (32 : Int) else 0) = roomE all bg most n := rfl
  by_cases hr : (n : Int) > most - ((all.length : Int) - bg)
  · have e1 : roomE all bg most n = 32 := if_pos hr
    rw [hE] at HC
    rw [e1] at HC ⊢
    rw [if_neg (by decide)]
    clear h hr e1 hE
    go_enter Try.func80, Try.ntmps80
    go_wp2_with (first | (go_at_call 71; refine HC.out.mono ?_; rintro e w1 ⟨rfl, k1, rfl⟩))
    go_ret
    exact ⟨rfl, va, HI.out.keep (Fr.drewN _ _), Fr.drewN _ _⟩
  · have e1 : roomE all bg most n = 0 := if_neg hr
    rw [hE] at HC
    rw [e1] at HC ⊢
    rw [if_pos rfl]
    have hn : (n : Int) ≤ most - ((all.length : Int) - bg) := by omega
    have hlen := h.len
    have hb1 := h.b1
    have HN := Aside0.mk (show bg ≤ ((copied last n all).length : Int) ∧ ((copied last n all).length : Int) - bg ≤ most by rw [copied_len]; omega)
    have HK := Aside0.mk (show ∀ m, Calls Try.prog 73 #[.pointer (some ⟨g, 0, none⟩), .int .i64 last, .int .i64 n] (w.drewN m) _ from fun m => copies_calls g w0.heap.size last n all va bg most (w.drewN m) (h.keep (Fr.drewN m _)).p h.B.size h1 h2 (by omega))
    clear h hr e1 hE hn hlen hb1
    go_enter Try.func80, Try.ntmps80
    go_wp2_with (first | (go_at_call 71; refine HC.out.mono ?_; rintro e w1 ⟨rfl, k1, rfl⟩) | (go_at_call 73; refine (HK.out _).mono ?_; rintro e w2 ⟨rfl, va', hp, hm, hf⟩; have HP := Aside0.mk hp; have HF := Aside0.mk hf; clear hp hm hf))
    go_ret
    exact ⟨rfl, va', (HI.out.keep (Fr.drewN _ _)).upd HP.out HF.out HN.out.1 HN.out.2, (Fr.drewN _ _).then HF.out⟩
set_option maxHeartbeats 2000000 in
set_option maxRecDepth 100000 in
theorem seen_calls (w0 : World) (g gp gl : Nat) (all xs : List Int) (va : Value) (bg most last : Int) (A : Option Addr) (c : Nat) (w : World) (h : DInv w0 w g gp gl all va bg most last) (hr : ReadsInt w .u8 A xs.length xs) (hx : (xs.length : Int) ≤ most - ((all.length : Int) - bg)) :
    Calls Try.prog 78 #[.slice A xs.length c, .pointer (some ⟨gp, 0, none⟩)] w fun e w' => e = .returned (.tuple #[]) ∧ ∃ va', DInv w0 w' g gp gl (all ++ xs) va' bg most last ∧ Fr w w' (fun i => i ≠ g ∧ some i ≠ va.ownBlock) := by
  have a := h.b0
  have b := h.m0
  have b1 := h.b1
  have hlen := h.len
  obtain ⟨Av, cv, rfl, hrv, hcv⟩ := own_reads' h.p.o
  have HI := Aside0.mk h
  have HR := Aside0.mk hr
  have HN := Aside0.mk (show bg ≤ ((all ++ xs).length : Int) ∧ ((all ++ xs).length : Int) - bg ≤ most by rw [List.length_append]; omega)
  have hcap : (all.length + xs.length) * 1 ≤ 140737488355328 := by omega
  clear h hr hrv hcv a b b1 hx
  go_enter Try.func78, Try.ntmps78
  go_upto_region 0 with fail
  have HId := Aside0.mk (HI.out.keep (Fr.drew _))
  have HRd := Aside0.mk (show ReadsInt w.drew .u8 A xs.length xs from HR.out)
  have HFd := Aside0.mk (Fr.drew (w := w) (fun i => i ≠ g ∧ some i ≠ (Value.slice Av all.length cv).ownBlock))
  have xc : w.drew.cell? ⟨gp, 0, none⟩ = some (.pointer (some ⟨g, 0, none⟩)) := cell_of_one HId.out.c
  have xg := (HId.out.p.d.at 0 _ rfl).1
  have zg := blk_frozen HId.out.p.d 0
  refine start_ (n := 10) (S := fun w' => w'.cell? ⟨gp, 0, none⟩ = some (.pointer (some ⟨g, 0, none⟩)) ∧ w'.cell? ⟨g, 0, none⟩ = some (.slice Av all.length cv)) (ds := [9]) #[false, false, false, false, false, false, false, false, false, false] (by kernel_rfl) rfl rfl ⟨xc, xg⟩ (fun hHeld => ?_)
  generalize w.drew = wd at HId HRd HFd xc xg zg hHeld ⊢
  refine pure_ (i := 5) (N := some 8) (v := ?_) (a' := ?_) #[false, false, false, false, false, true, false, false, false, false] rfl rfl (by kernel_rfl) (fun _ _ _ h => h) (Or.inl ⟨by rfl, ?_⟩) ?_ ?_
  rotate_left
  · intro w'
    go_simp
    with_reducible rfl
  rotate_left
  · simp only [Act.put, List.setIfInBounds_toArray, List.set_cons_zero, List.set_cons_succ, i64_w, i32_w]
    rfl
  refine take_ (i := 0) (N := some 3) (v := ?_) (a' := ?_) #[true, false, false, false, false, true, false, false, false, false] rfl rfl (by kernel_rfl) (fun _ _ _ h => h) (Or.inl ⟨by rfl, ?_⟩) hHeld ?_ ?_
  rotate_left
  · rintro w' ⟨s0, s1⟩
    go_simp
    with_reducible rfl
  rotate_left
  · simp only [Act.put, List.setIfInBounds_toArray, List.set_cons_zero, List.set_cons_succ, i64_w, i32_w]
    rfl
  refine take_ (i := 1) (N := some 4) (v := ?_) (a' := ?_) #[true, true, false, false, false, true, false, false, false, false] rfl rfl (by kernel_rfl) (fun _ _ _ h => h) (Or.inl ⟨by rfl, ?_⟩) hHeld ?_ ?_
  rotate_left
  · rintro w' ⟨s0, s1⟩
    go_simp
    with_reducible rfl
  rotate_left
  · simp only [Act.put, List.setIfInBounds_toArray, List.set_cons_zero, List.set_cons_succ, i64_w, i32_w]
    rfl
  refine pure_ (i := 2) (N := some 5) (v := ?_) (a' := ?_) #[true, true, true, false, false, true, false, false, false, false] rfl rfl (by kernel_rfl) (fun _ _ _ h => h) (Or.inl ⟨by rfl, ?_⟩) ?_ ?_
  rotate_left
  · intro w'
    go_simp
    with_reducible rfl
  rotate_left
  · simp only [Act.put, List.setIfInBounds_toArray, List.set_cons_zero, List.set_cons_succ, i64_w, i32_w]
    rfl
  refine pure_ (i := 3) (N := some 6) (v := ?_) (a' := ?_) #[true, true, true, true, false, true, false, false, false, false] rfl rfl (by kernel_rfl) (fun _ _ _ h => h) (Or.inl ⟨by rfl, ?_⟩) ?_ ?_
  rotate_left
  · intro w'
    go_simp
    with_reducible rfl
  rotate_left
  · simp only [Act.put, List.setIfInBounds_toArray, List.set_cons_zero, List.set_cons_succ, i64_w, i32_w]
    rfl
  refine take_ (i := 4) (N := some 7) (v := ?_) (a' := ?_) #[true, true, true, true, true, true, false, false, false, false] rfl rfl (by kernel_rfl) (fun _ _ _ h => h) (Or.inl ⟨by rfl, ?_⟩) hHeld ?_ ?_
  rotate_left
  · rintro w' ⟨s0, s1⟩
    go_simp
    with_reducible rfl
  rotate_left
  · simp only [Act.put, List.setIfInBounds_toArray, List.set_cons_zero, List.set_cons_succ, i64_w, i32_w]
    rfl
  refine one_ (i := 6) (N := some 9) #[true, true, true, true, true, true, true, false, false, false] rfl rfl (by kernel_rfl) (by decide) (fun K hK => ?_)
  refine app_step (w0 := wd) w0.heap.size (by rfl) (.tmp 7) (.tmp 8) 22 5 .u8 1 rfl Try.underlying22 info5 (by decide) _ all xs A xs.length c rfl rfl HId.out.p.o HRd.out (Below.refl _ _) HId.out.B.size hcap ?_
  intro v4 w4 hO hBl hG hA
  obtain ⟨L4, eL4⟩ : ∃ L4, L4 = all ++ xs := ⟨_, rfl⟩
  rw [← eL4] at hO
  have HL4 := Aside0.mk eL4
  clear eL4
  obtain ⟨A4, c4, rfl, hr4, hc4⟩ := own_reads' hO
  have HO4 := Aside0.mk hO
  have HD4 := Aside0.mk (show IsP w4 g _ bg most from blk_grown HId.out.p.d hG (own_ne HId.out.p.o HId.out.p.d (by decide)))
  have HG4 := Aside0.mk hG
  have x4 := (HD4.out.at 0 _ rfl).1
  have z4 := blk_frozen HD4.out 0
  have y4 : w4.cell? ⟨gp, 0, none⟩ = some (.pointer (some ⟨g, 0, none⟩)) := cell_of_one (blk_grown HId.out.c hG (own_ne HId.out.p.o HId.out.c (by decide)))
  clear hO hBl hG hA hr4 hc4
  refine hK.out _ _ ⟨y4, x4⟩ (fun hHeld => ?_)
  clear hK K
  refine norm_ (a' := ?_) ?_ ?_
  rotate_left
  · show Act.put _ (some 9) _ = _
    simp only [Act.put, List.setIfInBounds_toArray, List.set_cons_zero, List.set_cons_succ, i64_w, i32_w]
    rfl
  refine pure_ (i := 7) (N := some 10) (v := ?_) (a' := ?_) #[true, true, true, true, true, true, true, true, false, false] rfl rfl (by kernel_rfl) (fun _ _ _ h => h) (Or.inl ⟨by rfl, ?_⟩) ?_ ?_
  rotate_left
  · intro w'
    go_simp
    with_reducible rfl
  rotate_left
  · simp only [Act.put, List.setIfInBounds_toArray, List.set_cons_zero, List.set_cons_succ, i64_w, i32_w]
    rfl
  refine pure_ (i := 8) (N := some 11) (v := ?_) (a' := ?_) #[true, true, true, true, true, true, true, true, true, false] rfl rfl (by kernel_rfl) (fun _ _ _ h => h) (Or.inl ⟨by rfl, ?_⟩) ?_ ?_
  rotate_left
  · intro w'
    go_simp
    with_reducible rfl
  rotate_left
  · simp only [Act.put, List.setIfInBounds_toArray, List.set_cons_zero, List.set_cons_succ, i64_w, i32_w]
    rfl
  refine last_ (i := 9) (N := none) #[true, true, true, true, true, true, true, true, true, true] rfl rfl (by kernel_rfl) (by decide) (fun K hK => ?_)
  refine skip_ (w1 := ?_) (by rfl) rfl ?_ ?_
  rotate_left
  · go_simp
    rfl
  refine hK.out _ _ ?_
  clear hK K
  refine done_ (by kernel_rfl) ?_
  go_end0
  have hG4 : wd.grownBy w4 (Value.slice Av all.length cv).ownBlock := HG4.out
  have f2 : Fr wd (w4.setCell ⟨g, 0, none⟩ (.slice A4 L4.length c4)) (fun i => i ≠ g ∧ some i ≠ (Value.slice Av all.length cv).ownBlock) :=
    ((Fr.of_grown hG4).mono (ok' := fun i => i ≠ g ∧ some i ≠ (Value.slice Av all.length cv).ownBlock) (fun _ _ h => h.2)).then' (Fr.set ⟨g, 0, none⟩ _) (fun i _ h => h.1)
  rw [← HL4.out] at HN ⊢
  exact ⟨rfl, .slice A4 L4.length c4, HId.out.upd ⟨blk_set HD4.out 0 _, own_setCell (p := ⟨g, 0, none⟩) HO4.out (own_ne HO4.out (show w4.heap[g]? = some (.cells _ 105 (0, 0)) from HD4.out) (by decide)) _⟩ f2 HN.out.1 HN.out.2, HFd.out.then f2⟩
end Go.Proofs.Ytnomebkdhjigjaa.W
