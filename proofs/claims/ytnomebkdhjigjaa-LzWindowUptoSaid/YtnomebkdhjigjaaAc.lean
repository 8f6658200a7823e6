/- Texts of mine made one: Lc, Ld, Le, Lf, Lv. -/
import Derived.Test.YtnomebkdhjigjaaAb
import Derived.Laws.BitsAllLaws
import Derived.Test.YtnomebkdhjigjaaAa
/- The four functions that lz.Decode hands to walk, as contracts over what the player holds. -/
namespace Go.Proofs.Ytnomebkdhjigjaa.W
open Go.RowKit Go.Proofs.YtnomebkdhjigjaaW.PrintWords Go.Proofs.YtnomebkdhjigjaaW.PrintLast Go.Proofs.YtnomebkdhjigjaaW.PrintMore
set_option linter.unusedVariables false
set_option linter.unusedSimpArgs false
structure DInv (w0 w : World) (g gp gl : Nat) (all : List Int) (va : Value) (bg most last : Int) : Prop where
  B : Below w0.heap.size w0 w
  hg : w0.heap.size ≤ g
  hl : w0.heap.size ≤ gl
  p : Pl w w0.heap.size g all va bg most
  c : w.heap[gp]? = some (.cells #[.pointer (some ⟨g, 0, none⟩)] 101 (0, 0))
  l : w.heap[gl]? = some (.cells #[.int .i64 last] 3 (0, 0))
  b0 : 0 ≤ bg ∧ bg ≤ 65535
  b1 : bg ≤ (all.length : Int)
  m0 : 0 ≤ most ∧ most ≤ 4194304
  sz : (all.length : Int) - bg ≤ most
theorem DInv.len {w0 w : World} {g gp gl : Nat} {all : List Int} {va : Value} {bg most last : Int} (h : DInv w0 w g gp gl all va bg most last) : all.length ≤ 4259839 := by
  have a := h.b0
  have b := h.m0
  have c := h.sz
  omega
/-- Whatever leaves these blocks alone. -/
theorem DInv.fr {w0 w w' : World} {g gp gl : Nat} {all : List Int} {va : Value} {bg most last : Int} {ok : Nat → Prop} (h : DInv w0 w g gp gl all va bg most last) (f : Fr w w' ok) (h0 : ∀ i, i < w0.heap.size → ok i) (h1 : ok g) (h2 : ok gp) (h3 : ok gl) (h4 : ∀ i, some i = va.ownBlock → ok i) :
    DInv w0 w' g gp gl all va bg most last :=
  ⟨h.B.trans (f.below (fun i hi => ⟨Nat.lt_of_lt_of_le hi h.B.size, h0 i hi⟩)), h.hg, h.hl, h.p.fr f h1 h4, f.heap h.c h2, f.heap h.l h3, h.b0, h.b1, h.m0, h.sz⟩
theorem DInv.keep {w0 w w' : World} {g gp gl : Nat} {all : List Int} {va : Value} {bg most last : Int} (h : DInv w0 w g gp gl all va bg most last) (f : Fr w w' (fun _ => True)) : DInv w0 w' g gp gl all va bg most last :=
  h.fr f (fun _ _ => trivial) trivial trivial trivial (fun _ _ => trivial)
theorem DInv.upd {w0 w w' : World} {g gp gl : Nat} {all all' : List Int} {va va' : Value} {bg most last : Int} (h : DInv w0 w g gp gl all va bg most last) (p : Pl w' w0.heap.size g all' va' bg most) (f : Fr w w' (fun i => i ≠ g ∧ some i ≠ va.ownBlock)) (hb : bg ≤ (all'.length : Int)) (hs : (all'.length : Int) - bg ≤ most) :
    DInv w0 w' g gp gl all' va' bg most last :=
  ⟨h.B.trans (f.below (fun i hi => ⟨Nat.lt_of_lt_of_le hi h.B.size, by have := h.hg; omega, fun e => by have := (own_ge h.p.o i e).1; omega⟩)), h.hg, h.hl, p,
    f.heap h.c ⟨blk_ne h.c h.p.d (by decide), own_ne h.p.o h.c (by decide)⟩, f.heap h.l ⟨blk_ne h.l h.p.d (by decide), own_ne h.p.o h.l (by decide)⟩, h.b0, hb, h.m0, hs⟩
theorem DInv.set {w0 w : World} {g gp gl : Nat} {all : List Int} {va : Value} {bg most last : Int} (h : DInv w0 w g gp gl all va bg most last) (z : Int) : DInv w0 (w.setCell ⟨gl, 0, none⟩ (.int .i64 z)) g gp gl all va bg most z := by
  have f : Fr w (w.setCell ⟨gl, 0, none⟩ (.int .i64 z)) (fun i => i ≠ gl) := Fr.set ⟨gl, 0, none⟩ _
  exact ⟨h.B.trans (f.below (fun i hi => ⟨Nat.lt_of_lt_of_le hi h.B.size, by have := h.hl; omega⟩)), h.hg, h.hl, h.p.fr f (blk_ne h.p.d h.l (by decide)) (fun i hi e => by subst e; exact own_ne h.p.o h.l (by decide) hi),
    f.heap h.c (blk_ne h.c h.l (by decide)), blk_set h.l 0 _, h.b0, h.b1, h.m0, h.sz⟩
theorem run_calls (w0 : World) (g gp gl : Nat) (all : List Int) (va : Value) (bg most last n k : Int) (w : World) (h : DInv w0 w g gp gl all va bg most last) :
    Calls Try.prog 77 #[.int .i64 n, .int .i64 k, .pointer (some ⟨gp, 0, none⟩)] w fun e w' => e = .returned (.int .i64 (roomE all bg most n)) ∧ ∃ k, w' = w.drewN k := by
  have a := h.b0
  have b := h.m0
  have HC := Aside0.mk (room_calls g w0.heap.size all va bg most n w h.p ⟨a.1, by omega⟩ ⟨b.1, by omega⟩ (by have := h.len; omega))
  have xc : w.cell? ⟨gp, 0, none⟩ = some (.pointer (some ⟨g, 0, none⟩)) := cell_of_one h.c
  rw [show (if n > most - ((all.length : Int) - bg) then (32 : Int) else 0) = roomE all bg most n from rfl] at HC
  generalize roomE all bg most n = E at HC ⊢
  clear h a b
  go_enter Try.func77, Try.ntmps77
  go_wp2_with (first | (go_at_call 71; refine HC.out.mono ?_; rintro e w1 ⟨rfl, k1, rfl⟩))
  go_ret
  exact ⟨rfl, _, rfl⟩
set_option maxHeartbeats 1000000 in
theorem match_calls (w0 : World) (g gp gl : Nat) (all : List Int) (va : Value) (bg most last n k : Int) (w : World) (h : DInv w0 w g gp gl all va bg most last) :
    Calls Try.prog 79 #[.int .i64 n, .int .i64 k, .pointer (some ⟨gl, 0, none⟩), .pointer (some ⟨gp, 0, none⟩)] w fun e w' => e = .returned (.int .i64 (if n > (all.length : Int) then 30 else 0)) ∧ DInv w0 w' g gp gl all va bg most n ∧ Fr w w' (fun i => i ≠ gl) := by
  have hs := h.set n
  have HC := Aside0.mk (reaches_calls g w0.heap.size all va bg most n _ hs.p)
  have xc : (w.setCell ⟨gl, 0, none⟩ (.int .i64 n)).cell? ⟨gp, 0, none⟩ = some (.pointer (some ⟨g, 0, none⟩)) := cell_of_one hs.c
  have xl : w.cell? ⟨gl, 0, none⟩ = some (.int .i64 last) := cell_of_one h.l
  have zl : w.frozen? ⟨gl, 0, none⟩ = false := blk_frozen h.l 0
  have HS := Aside0.mk hs
  have HF := Aside0.mk (Fr.set (w := w) ⟨gl, 0, none⟩ (.int .i64 n))
  generalize (if n > (all.length : Int) then (30 : Int) else 0) = E at HC ⊢
  clear h hs
  go_enter Try.func79, Try.ntmps79
  go_wp2_with (first | (go_at_call 72; refine HC.out.mono ?_; rintro e w1 ⟨rfl, e1⟩; subst e1))
  go_ret
  exact ⟨rfl, HS.out, HF.out⟩
set_option maxHeartbeats 1000000 in
theorem length_calls (w0 : World) (g gp gl : Nat) (all : List Int) (va : Value) (bg most k : Int) (last n : Nat) (w : World) (h : DInv w0 w g gp gl all va bg most last) (h1 : 1 ≤ last) (h2 : last ≤ all.length) :
    Calls Try.prog 80 #[.int .i64 n, .int .i64 k, .pointer (some ⟨gp, 0, none⟩), .pointer (some ⟨gl, 0, none⟩)] w fun e w' => e = .returned (.int .i64 (roomE all bg most n)) ∧
      ∃ va', DInv w0 w' g gp gl (if roomE all bg most n = 0 then copied last n all else all) va' bg most last ∧ Fr w w' (fun i => i ≠ g ∧ some i ≠ va.ownBlock) := by
  have a := h.b0
  have b := h.m0
  have HC := Aside0.mk (room_calls g w0.heap.size all va bg most n w h.p ⟨a.1, by omega⟩ ⟨b.1, by omega⟩ (by have := h.len; omega))
  have xc : w.cell? ⟨gp, 0, none⟩ = some (.pointer (some ⟨g, 0, none⟩)) := cell_of_one h.c
  have xl : w.cell? ⟨gl, 0, none⟩ = some (.int .i64 last) := cell_of_one h.l
  have HI := Aside0.mk h
  have hE : (if (n : Int) > most - ((all.length : Int) - bg) then (32 : Int) else 0) = roomE all bg most n := rfl
  by_cases hr : (n : Int) > most - ((all.length : Int) - bg)
  · have e1 : roomE all bg most n = 32 := if_pos hr
    rw [hE] at HC
    rw [e1] at HC ⊢
    rw [if_neg (by decide)]
    clear h hr e1 hE
    go_enter Try.func80, Try.ntmps80
    go_wp2_with (first | (go_at_call 71; refine HC.out.mono ?_; rintro e w1 ⟨rfl, k1, rfl⟩))
    go_ret
    exact ⟨rfl, va, HI.out.keep (Fr.drewN _ _), Fr.drewN _ _⟩
  · have e1 : roomE all bg most n = 0 := if_neg hr
    rw [hE] at HC
    rw [e1] at HC ⊢
    rw [if_pos rfl]
    have hn : (n : Int) ≤ most - ((all.length : Int) - bg) := by omega
    have hlen := h.len
    have hb1 := h.b1
    have HN := Aside0.mk (show bg ≤ ((copied last n all).length : Int) ∧ ((copied last n all).length : Int) - bg ≤ most by rw [copied_len]; omega)
    have HK := Aside0.mk (show ∀ m, Calls Try.prog 73 #[.pointer (some ⟨g, 0, none⟩), .int .i64 last, .int .i64 n] (w.drewN m) _ from fun m => copies_calls g w0.heap.size last n all va bg most (w.drewN m) (h.keep (Fr.drewN m _)).p h.B.size h1 h2 (by omega))
    clear h hr e1 hE hn hlen hb1
    go_enter Try.func80, Try.ntmps80
    go_wp2_with (first | (go_at_call 71; refine HC.out.mono ?_; rintro e w1 ⟨rfl, k1, rfl⟩) | (go_at_call 73; refine (HK.out _).mono ?_; rintro e w2 ⟨rfl, va', hp, hm, hf⟩; have HP := Aside0.mk hp; have HF := Aside0.mk hf; clear hp hm hf))
    go_ret
    exact ⟨rfl, va', (HI.out.keep (Fr.drewN _ _)).upd HP.out HF.out HN.out.1 HN.out.2, (Fr.drewN _ _).then HF.out⟩
set_option maxHeartbeats 2000000 in
set_option maxRecDepth 100000 in
theorem seen_calls (w0 : World) (g gp gl : Nat) (all xs : List Int) (va : Value) (bg most last : Int) (A : Option Addr) (c : Nat) (w : World) (h : DInv w0 w g gp gl all va bg most last) (hr : ReadsInt w .u8 A xs.length xs) (hx : (xs.length : Int) ≤ most - ((all.length : Int) - bg)) :
    Calls Try.prog 78 #[.slice A xs.length c, .pointer (some ⟨gp, 0, none⟩)] w fun e w' => e = .returned (.tuple #[]) ∧ ∃ va', DInv w0 w' g gp gl (all ++ xs) va' bg most last ∧ Fr w w' (fun i => i ≠ g ∧ some i ≠ va.ownBlock) := by
  have a := h.b0
  have b := h.m0
  have b1 := h.b1
  have hlen := h.len
  obtain ⟨Av, cv, rfl, hrv, hcv⟩ := own_reads' h.p.o
  have HI := Aside0.mk h
  have HR := Aside0.mk hr
  have HN := Aside0.mk (show bg ≤ ((all ++ xs).length : Int) ∧ ((all ++ xs).length : Int) - bg ≤ most by rw [List.length_append]; omega)
  have hcap : (all.length + xs.length) * 1 ≤ 140737488355328 := by omega
  clear h hr hrv hcv a b b1 hx
  go_enter Try.func78, Try.ntmps78
  go_upto_region 0 with fail
  have HId := Aside0.mk (HI.out.keep (Fr.drew _))
  have HRd := Aside0.mk (show ReadsInt w.drew .u8 A xs.length xs from HR.out)
  have HFd := Aside0.mk (Fr.drew (w := w) (fun i => i ≠ g ∧ some i ≠ (Value.slice Av all.length cv).ownBlock))
  have xc : w.drew.cell? ⟨gp, 0, none⟩ = some (.pointer (some ⟨g, 0, none⟩)) := cell_of_one HId.out.c
  have xg := (HId.out.p.d.at 0 _ rfl).1
  have zg := blk_frozen HId.out.p.d 0
  refine start_ (n := 10) (S := fun w' => w'.cell? ⟨gp, 0, none⟩ = some (.pointer (some ⟨g, 0, none⟩)) ∧ w'.cell? ⟨g, 0, none⟩ = some (.slice Av all.length cv)) (ds := [9]) #[false, false, false, false, false, false, false, false, false, false] (by kernel_rfl) rfl rfl ⟨xc, xg⟩ (fun hHeld => ?_)
  generalize w.drew = wd at HId HRd HFd xc xg zg hHeld ⊢
  refine pure_ (i := 5) (N := some 8) (v := ?_) (a' := ?_) #[false, false, false, false, false, true, false, false, false, false] rfl rfl (by kernel_rfl) (fun _ _ _ h => h) (Or.inl ⟨by rfl, ?_⟩) ?_ ?_
  rotate_left
  · intro w'
    go_simp
    with_reducible rfl
  rotate_left
  · simp only [Act.put, List.setIfInBounds_toArray, List.set_cons_zero, List.set_cons_succ, i64_w, i32_w]
    rfl
  refine take_ (i := 0) (N := some 3) (v := ?_) (a' := ?_) #[true, false, false, false, false, true, false, false, false, false] rfl rfl (by kernel_rfl) (fun _ _ _ h => h) (Or.inl ⟨by rfl, ?_⟩) hHeld ?_ ?_
  rotate_left
  · rintro w' ⟨s0, s1⟩
    go_simp
    with_reducible rfl
  rotate_left
  · simp only [Act.put, List.setIfInBounds_toArray, List.set_cons_zero, List.set_cons_succ, i64_w, i32_w]
    rfl
  refine take_ (i := 1) (N := some 4) (v := ?_) (a' := ?_) #[true, true, false, false, false, true, false, false, false, false] rfl rfl (by kernel_rfl) (fun _ _ _ h => h) (Or.inl ⟨by rfl, ?_⟩) hHeld ?_ ?_
  rotate_left
  · rintro w' ⟨s0, s1⟩
    go_simp
    with_reducible rfl
  rotate_left
  · simp only [Act.put, List.setIfInBounds_toArray, List.set_cons_zero, List.set_cons_succ, i64_w, i32_w]
    rfl
  refine pure_ (i := 2) (N := some 5) (v := ?_) (a' := ?_) #[true, true, true, false, false, true, false, false, false, false] rfl rfl (by kernel_rfl) (fun _ _ _ h => h) (Or.inl ⟨by rfl, ?_⟩) ?_ ?_
  rotate_left
  · intro w'
    go_simp
    with_reducible rfl
  rotate_left
  · simp only [Act.put, List.setIfInBounds_toArray, List.set_cons_zero, List.set_cons_succ, i64_w, i32_w]
    rfl
  refine pure_ (i := 3) (N := some 6) (v := ?_) (a' := ?_) #[true, true, true, true, false, true, false, false, false, false] rfl rfl (by kernel_rfl) (fun _ _ _ h => h) (Or.inl ⟨by rfl, ?_⟩) ?_ ?_
  rotate_left
  · intro w'
    go_simp
    with_reducible rfl
  rotate_left
  · simp only [Act.put, List.setIfInBounds_toArray, List.set_cons_zero, List.set_cons_succ, i64_w, i32_w]
    rfl
  refine take_ (i := 4) (N := some 7) (v := ?_) (a' := ?_) #[true, true, true, true, true, true, false, false, false, false] rfl rfl (by kernel_rfl) (fun _ _ _ h => h) (Or.inl ⟨by rfl, ?_⟩) hHeld ?_ ?_
  rotate_left
  · rintro w' ⟨s0, s1⟩
    go_simp
    with_reducible rfl
  rotate_left
  · simp only [Act.put, List.setIfInBounds_toArray, List.set_cons_zero, List.set_cons_succ, i64_w, i32_w]
    rfl
  refine one_ (i := 6) (N := some 9) #[true, true, true, true, true, true, true, false, false, false] rfl rfl (by kernel_rfl) (by decide) (fun K hK => ?_)
  refine app_step (w0 := wd) w0.heap.size (by rfl) (.tmp 7) (.tmp 8) 22 5 .u8 1 rfl Try.underlying22 info5 (by decide) _ all xs A xs.length c rfl rfl HId.out.p.o HRd.out (Below.refl _ _) HId.out.B.size hcap ?_
  intro v4 w4 hO hBl hG hA
  obtain ⟨L4, eL4⟩ : ∃ L4, L4 = all ++ xs := ⟨_, rfl⟩
  rw [← eL4] at hO
  have HL4 := Aside0.mk eL4
  clear eL4
  obtain ⟨A4, c4, rfl, hr4, hc4⟩ := own_reads' hO
  have HO4 := Aside0.mk hO
  have HD4 := Aside0.mk (show IsP w4 g _ bg most from blk_grown HId.out.p.d hG (own_ne HId.out.p.o HId.out.p.d (by decide)))
  have HG4 := Aside0.mk hG
  have x4 := (HD4.out.at 0 _ rfl).1
  have z4 := blk_frozen HD4.out 0
  have y4 : w4.cell? ⟨gp, 0, none⟩ = some (.pointer (some ⟨g, 0, none⟩)) := cell_of_one (blk_grown HId.out.c hG (own_ne HId.out.p.o HId.out.c (by decide)))
  clear hO hBl hG hA hr4 hc4
  refine hK.out _ _ ⟨y4, x4⟩ (fun hHeld => ?_)
  clear hK K
  refine norm_ (a' := ?_) ?_ ?_
  rotate_left
  · show Act.put _ (some 9) _ = _
    simp only [Act.put, List.setIfInBounds_toArray, List.set_cons_zero, List.set_cons_succ, i64_w, i32_w]
    rfl
  refine pure_ (i := 7) (N := some 10) (v := ?_) (a' := ?_) #[true, true, true, true, true, true, true, true, false, false] rfl rfl (by kernel_rfl) (fun _ _ _ h => h) (Or.inl ⟨by rfl, ?_⟩) ?_ ?_
  rotate_left
  · intro w'
    go_simp
    with_reducible rfl
  rotate_left
  · simp only [Act.put, List.setIfInBounds_toArray, List.set_cons_zero, List.set_cons_succ, i64_w, i32_w]
    rfl
  refine pure_ (i := 8) (N := some 11) (v := ?_) (a' := ?_) #[true, true, true, true, true, true, true, true, true, false] rfl rfl (by kernel_rfl) (fun _ _ _ h => h) (Or.inl ⟨by rfl, ?_⟩) ?_ ?_
  rotate_left
  · intro w'
    go_simp
    with_reducible rfl
  rotate_left
  · simp only [Act.put, List.setIfInBounds_toArray, List.set_cons_zero, List.set_cons_succ, i64_w, i32_w]
    rfl
  refine last_ (i := 9) (N := none) #[true, true, true, true, true, true, true, true, true, true] rfl rfl (by kernel_rfl) (by decide) (fun K hK => ?_)
  refine skip_ (w1 := ?_) (by rfl) rfl ?_ ?_
  rotate_left
  · go_simp
    rfl
  refine hK.out _ _ ?_
  clear hK K
  refine done_ (by kernel_rfl) ?_
  go_end0
  have hG4 : wd.grownBy w4 (Value.slice Av all.length cv).ownBlock := HG4.out
  have f2 : Fr wd (w4.setCell ⟨g, 0, none⟩ (.slice A4 L4.length c4)) (fun i => i ≠ g ∧ some i ≠ (Value.slice Av all.length cv).ownBlock) :=
    ((Fr.of_grown hG4).mono (ok' := fun i => i ≠ g ∧ some i ≠ (Value.slice Av all.length cv).ownBlock) (fun _ _ h => h.2)).then' (Fr.set ⟨g, 0, none⟩ _) (fun i _ h => h.1)
  rw [← HL4.out] at HN ⊢
  exact ⟨rfl, .slice A4 L4.length c4, HId.out.upd ⟨blk_set HD4.out 0 _, own_setCell (p := ⟨g, 0, none⟩) HO4.out (own_ne HO4.out (show w4.heap[g]? = some (.cells _ 105 (0, 0)) from HD4.out) (by decide)) _⟩ f2 HN.out.1 HN.out.2, HFd.out.then f2⟩
end Go.Proofs.Ytnomebkdhjigjaa.W
/- lz's walk at Decode's four functions: what it answers and what the player holds behind it, as a plain function. Conditions: fewer than 2^40 bytes, bytes are bytes. -/
namespace Go.Proofs.Ytnomebkdhjigjaa.W
open Go.RowKit Go.Proofs.YtnomebkdhjigjaaW.PrintWords Go.Proofs.YtnomebkdhjigjaaW.PrintLast Go.Proofs.YtnomebkdhjigjaaW.PrintMore
set_option linter.unusedVariables false
set_option linter.unusedSimpArgs false
def numS (b : List Int) (n : Int) (k : Nat) : Int := match num b n k with
  | none => 0
  | some (s, _) => s
def numE (b : List Int) (n : Int) (k : Nat) : Int := match num b n k with
  | none => 4
  | some _ => 0
theorem moreV_eq (b : List Int) (n : Int) (k : Nat) : moreV b n k = .tuple #[.int .i64 (numS b n k), .int .i64 (numE b n k)] := by
  unfold moreV numS numE
  cases num b n k <;> rfl
theorem num_facts {b : List Int} {n : Int} {k : Nat} (hb : Byt b) (h0 : 0 ≤ n) (h1 : n ≤ 15) (hk : k ≤ b.length) : (numE b n k = 4 ∧ moreK b n k = b.length ∧ numS b n k = 0) ∨ (numE b n k = 0 ∧ k ≤ moreK b n k ∧ moreK b n k ≤ b.length ∧ 0 ≤ numS b n k ∧ numS b n k ≤ 15 + 255 * (b.length : Int)) := by
  unfold numS numE moreK
  cases e : num b n k with
  | none => exact .inl ⟨rfl, rfl, rfl⟩
  | some p =>
    obtain ⟨s, j⟩ := p
    have := num_bound hb h0 h1 hk e
    exact .inr ⟨rfl, this.1, this.2.1, this.2.2.1, this.2.2.2⟩
/-- A block's decoding from a place on: the place, the error, what came out. -/
def dec (b : List Int) (bg most : Int) : Nat → Nat → List Int → Int × Int × List Int
  | 0, _, all => (0, 0, all)
  | f + 1, k, all =>
    if k = b.length then ((b.length : Int), 4, all) else
    if numE b (b.getD k 0 / 16) (k + 1) ≠ 0 then ((b.length : Int), 4, all) else
    if roomE all bg most (numS b (b.getD k 0 / 16) (k + 1)) ≠ 0 then ((moreK b (b.getD k 0 / 16) (k + 1) : Nat), 32, all) else
    if numS b (b.getD k 0 / 16) (k + 1) > (b.length : Int) - (moreK b (b.getD k 0 / 16) (k + 1) : Nat) then ((b.length : Int), 4, all) else
    dec2 b bg most k (moreK b (b.getD k 0 / 16) (k + 1) + (numS b (b.getD k 0 / 16) (k + 1)).toNat) (all ++ (b.take (moreK b (b.getD k 0 / 16) (k + 1) + (numS b (b.getD k 0 / 16) (k + 1)).toNat)).drop (moreK b (b.getD k 0 / 16) (k + 1))) (dec b bg most f)
where
  dec2 (b : List Int) (bg most : Int) (k k2 : Nat) (all : List Int) (go : Nat → List Int → Int × Int × List Int) : Int × Int × List Int :=
    if k2 = b.length then (if b.getD k 0 % 16 ≠ 0 then ((k : Int), 31, all) else (0, 0, all)) else
    if (b.length : Int) - (k2 : Int) < 2 then ((b.length : Int), 4, all) else
    if b.getD k2 0 + b.getD (k2 + 1) 0 * 256 = 0 then ((k2 : Int), 30, all) else
    if b.getD k2 0 + b.getD (k2 + 1) 0 * 256 > (all.length : Int) then ((k2 : Int), 30, all) else
    if numE b (b.getD k 0 % 16) (k2 + 2) ≠ 0 then ((b.length : Int), 4, all) else
    if roomE all bg most (numS b (b.getD k 0 % 16) (k2 + 2) + 4) ≠ 0 then ((k2 : Int), 32, all) else
    go (moreK b (b.getD k 0 % 16) (k2 + 2)) (copied (b.getD k2 0 + b.getD (k2 + 1) 0 * 256).toNat (numS b (b.getD k 0 % 16) (k2 + 2) + 4).toNat all)
theorem and15 (x : Int) (h0 : 0 ≤ x) (h1 : x < 256) : Go.bits .and .u8 x 15 = x % 16 := by
  rw [u8_and x 15 h0 h1 (by decide) (by decide)]
  obtain ⟨n, rfl⟩ := Int.eq_ofNat_of_zero_le h0
  have e : n &&& 15 = n % 16 := Nat.and_two_pow_sub_one_eq_mod n 4
  show ((n &&& 15 : Nat) : Int) = _
  rw [e]
  omega
theorem rd_step {w0 w w' : World} {g gp gl gr : Nat} {all : List Int} {va : Value} {bg most last k : Int} {A : Option Addr} {n c : Nat} (h : DInv w0 w g gp gl all va bg most last) (hr : IsRd w gr A n c k) (hg : w0.heap.size ≤ gr) (f : Fr w w' (fun i => i ≠ gr)) : DInv w0 w' g gp gl all va bg most last :=
  h.fr f (fun i hi => by omega) (blk_ne h.p.d hr (by decide)) (blk_ne h.c hr (by decide)) (blk_ne h.l hr (by decide)) (fun i hi e => by subst e; exact own_ne h.p.o hr (by decide) hi)
theorem rd_keep {w0 w w' : World} {g gp gl gr : Nat} {all : List Int} {va : Value} {bg most last k : Int} {A : Option Addr} {n c : Nat} (h : DInv w0 w g gp gl all va bg most last) (hr : IsRd w gr A n c k) (f : Fr w w' (fun i => i ≠ g ∧ some i ≠ va.ownBlock)) : IsRd w' gr A n c k :=
  f.heap hr ⟨blk_ne hr h.p.d (by decide), own_ne h.p.o hr (by decide)⟩
theorem rd_keep' {w0 w w' : World} {g gp gl gr : Nat} {all : List Int} {va : Value} {bg most last k : Int} {A : Option Addr} {n c : Nat} (h : DInv w0 w g gp gl all va bg most last) (hr : IsRd w gr A n c k) (f : Fr w w' (fun i => i ≠ gl)) : IsRd w' gr A n c k :=
  f.heap hr (blk_ne hr h.l (by decide))
theorem cells_b {w0 w : World} {A : Option Addr} {b : List Int} (hr : ReadsInt w0 .u8 A b.length b) (hB : Below w0.heap.size w0 w) (k : Nat) (hk : k < b.length) : ∃ ad, A = some ad ∧ w.cell? (ad.add k) = some (.int .u8 (b.getD k 0)) := by
  obtain ⟨ad, e, h⟩ := hr.2.2 (by omega)
  exact ⟨ad, e, pw_cell_below hB (h k hk)⟩
theorem rd_apart {w0 : World} {A : Option Addr} {b : List Int} {gr : Nat} (hr : ReadsInt w0 .u8 A b.length b) (hg : w0.heap.size ≤ gr) : ∀ ad, A = some ad → 0 < b.length → ad.block ≠ gr := fun ad e h => by
  obtain ⟨ad', e', hc⟩ := hr.2.2 h
  rw [e] at e'
  cases e'
  have := World.block_lt_of_cell? w0 _ (hc 0 h)
  rw [add_block] at this
  omega
set_option maxHeartbeats 8000000 in
set_option maxRecDepth 100000 in
theorem walk_calls (w0 : World) (g gp gl : Nat) (A : Option Addr) (c : Nat) (b all : List Int) (va : Value) (bg most last : Int) (w : World) (h : DInv w0 w g gp gl all va bg most last) (hr : ReadsInt w0 .u8 A b.length b) (hc : b.length ≤ c) (hb : Byt b) (hl : b.length ≤ 140737488355327) :
    Calls Try.prog 49 #[.slice A b.length c, .func (.func 77) #[] #[.pointer (some ⟨gp, 0, none⟩)], .func (.func 78) #[] #[.pointer (some ⟨gp, 0, none⟩)], .func (.func 79) #[] #[.pointer (some ⟨gl, 0, none⟩), .pointer (some ⟨gp, 0, none⟩)], .func (.func 80) #[] #[.pointer (some ⟨gp, 0, none⟩), .pointer (some ⟨gl, 0, none⟩)]] w fun e w' =>
      e = .returned (.tuple #[.int .i64 (dec b bg most (b.length + 1) 0 all).1, .int .i64 (dec b bg most (b.length + 1) 0 all).2.1]) ∧ ∃ va' last', DInv w0 w' g gp gl (dec b bg most (b.length + 1) 0 all).2.2 va' bg most last' := by
  have HI0 := Aside0.mk (h.keep (Fr.alloc (.cells #[.slice A b.length c, .int .i64 0] 125) _))
  have HR0 := Aside0.mk (show IsRd (w.alloc (.cells #[.slice A b.length c, .int .i64 0] 125)) w.heap.size A b.length c 0 from heap_alloc_new w _)
  have hgr : w0.heap.size ≤ w.heap.size := h.B.size
  have HA := Aside0.mk (rd_apart hr hgr)
  have HRB := Aside0.mk hr
  obtain ⟨gr, hg⟩ : ∃ gr, gr = w.heap.size := ⟨_, rfl⟩
  obtain ⟨R, hR⟩ : ∃ R, R = dec b bg most (b.length + 1) 0 all := ⟨_, rfl⟩
  have HRr := Aside0.mk hR
  rw [← hR]
  clear h hr hR
  go_enter Try.func49, Try.ntmps49
  go_upto_block 0 with fail
  rw [← hg] at HR0 HA hgr ⊢
  generalize w.alloc (.cells #[.slice A b.length c, .int .i64 0] 125) = w1 at HI0 HR0 ⊢
  clear hg
  go_wp2_with fail
  go_loopg [] (b.length + 1) (fun kq wc => ∃ (k : Nat) (al : List Int) (v : Value) (la : Int), b.length < kq + k ∧ k ≤ b.length ∧ Aside0 (R = dec b bg most kq k al) ∧ Aside0 (DInv w0 wc g gp gl al v bg most la) ∧ Aside0 (IsRd wc gr A b.length c (k : Int)))
  case atStart => exact ⟨0, all, va, last, by omega, by omega, HRr, HI0, HR0⟩
  case round =>
    clear HI0 HR0 HRr
    obtain ⟨k, al, v, la, hk, hkl, HRr, HI, HR⟩ := hrel
    cases gk with
    | zero => omega
    | succ k1 =>
      have x0 : wr.cell? ⟨gr, 0, none⟩ = some (.slice A b.length c) := (HR.out.at 0 _ rfl).1
      have x1 : wr.cell? ⟨gr, 1, none⟩ = some (.int .i64 k) := (HR.out.at 1 _ rfl).1
      have z1 := blk_frozen HR.out 1
      by_cases c1 : k = b.length
      · have hR : R = ((b.length : Int), 4, al) := by rw [HRr.out, dec, if_pos c1]
        have c1' : (k : Int) = (b.length : Int) := by omega
        go_wp2
        go_ret2
        rw [hR]
        exact ⟨rfl, v, la, HI.out⟩
      · have hkb : k < b.length := by omega
        have c1' : ¬ ((k : Int) = (b.length : Int)) := by omega
        obtain ⟨ad, rfl, xk⟩ := cells_b HRB.out HI.out.B k hkb
        obtain ⟨t, ht⟩ : ∃ t, t = b.getD k 0 := ⟨_, rfl⟩
        have hb1 := hb k
        rw [← ht] at hb1 xk
        obtain ⟨t0, t1⟩ := hb1
        have HT := Aside0.mk ht
        have hlt : (k : Int) < (b.length : Int) := by omega
        have hk0 : (0 : Int) ≤ (k : Int) := by omega
        have HR2 := Aside0.mk (show IsRd (wr.setCell ⟨gr, 1, none⟩ (.int .i64 ((k : Int) + 1))) gr (some ad) b.length c ((k + 1 : Nat) : Int) by rw [show ((k + 1 : Nat) : Int) = (k : Int) + 1 by omega]; exact blk_set HR.out 1 _)
        have HI2 := Aside0.mk (rd_step HI.out HR.out hgr (Fr.set (w := wr) ⟨gr, 1, none⟩ (.int .i64 ((k : Int) + 1))))
        have hq0 : 0 ≤ t / 16 ∧ t / 16 ≤ 15 := by omega
        have HC1 := Aside0.mk (more_calls gr (some ad) c b (t / 16) (k + 1) _ HR2.out (HRB.out.below HI2.out.B) HA.out hb (by omega) hl hq0.1 hq0.2)
        rw [moreV_eq] at HC1
        have hnf := num_facts (k := k + 1) hb hq0.1 hq0.2 (by omega)
        obtain ⟨n1, hn1⟩ : ∃ n, n = numS b (t / 16) (k + 1) := ⟨_, rfl⟩
        obtain ⟨E1, hE1⟩ : ∃ n, n = numE b (t / 16) (k + 1) := ⟨_, rfl⟩
        obtain ⟨K1, hK1⟩ : ∃ n, n = moreK b (t / 16) (k + 1) := ⟨_, rfl⟩
        rw [← hn1, ← hE1, ← hK1] at hnf
        rw [← hn1, ← hE1, ← hK1] at HC1
        have HV := Aside0.mk (And.intro hn1 (And.intro hE1 hK1))
        clear ht hn1 hE1 hK1 hq0
        go_upto_if 58 with (go_at_call 90; refine HC1.out.mono ?_; rintro e w2 ⟨rfl, hr2, hf2⟩; have HR3 := Aside0.mk hr2; have HI3 := Aside0.mk (rd_step HI2.out HR2.out hgr hf2); clear hr2 hf2)
        clear HC1 HI2 HR2 xk x0 x1 z1 HR
        rcases hnf with ⟨rfl, e2, e3⟩ | ⟨rfl, hk1a, hk1b, hn0, hnB⟩
        · have hR : R = ((b.length : Int), 4, al) := by rw [HRr.out, dec, if_neg c1, ← HT.out, ← HV.out.2.1, if_pos (by decide)]
          go_wp2
          go_ret2
          rw [hR]
          exact ⟨rfl, v, la, HI3.out⟩
        · have x1 : w2.cell? ⟨gr, 1, none⟩ = some (.int .i64 K1) := (HR3.out.at 1 _ rfl).1
          have HC2 := Aside0.mk (run_calls w0 g gp gl al v bg most la n1 K1 w2 HI3.out)
          have hE2 : roomE al bg most n1 = 32 ∧ n1 > most - ((al.length : Int) - bg) ∨ roomE al bg most n1 = 0 ∧ n1 ≤ most - ((al.length : Int) - bg) := by
            unfold roomE
            by_cases q : n1 > most - ((al.length : Int) - bg)
            · exact .inl ⟨if_pos q, q⟩
            · exact .inr ⟨if_neg q, by omega⟩
          obtain ⟨E2, hE⟩ : ∃ E, E = roomE al bg most n1 := ⟨_, rfl⟩
          rw [← hE] at hE2 HC2
          have HE := Aside0.mk hE
          clear hE
          go_upto_if 70 with (go_at_call 77; refine HC2.out.mono ?_; rintro e w3 ⟨rfl, m3, rfl⟩)
          clear HC2
          rcases hE2 with ⟨rfl, q2⟩ | ⟨rfl, q2⟩
          · have hR : R = ((K1 : Int), 32, al) := by rw [HRr.out, dec, if_neg c1, ← HT.out, ← HV.out.2.1, if_neg (by decide), ← HV.out.1, ← HE.out, if_pos (by decide), ← HV.out.2.2]
            go_wp2
            go_ret2
            rw [hR]
            exact ⟨rfl, v, la, HI3.out.keep (Fr.drewN _ _)⟩
          · have hKi : (K1 : Int) ≤ (b.length : Int) := by omega
            obtain ⟨m1, rfl⟩ := Int.eq_ofNat_of_zero_le hn0
            by_cases c4 : (m1 : Int) > (b.length : Int) - (K1 : Int)
            · have hR : R = ((b.length : Int), 4, al) := by rw [HRr.out, dec, if_neg c1, ← HT.out, ← HV.out.2.1, if_neg (by decide), ← HV.out.1, ← HE.out, if_neg (by decide), ← HV.out.2.2, if_pos c4]
              go_wp2
              go_ret2
              rw [hR]
              exact ⟨rfl, v, la, HI3.out.keep (Fr.drewN _ _)⟩
            · have hR2 : R = dec.dec2 b bg most k (K1 + m1) (al ++ (b.take (K1 + m1)).drop K1) (dec b bg most k1) := by rw [HRr.out, dec, if_neg c1, ← HT.out, ← HV.out.2.1, if_neg (by decide), ← HV.out.1, ← HE.out, if_neg (by decide), ← HV.out.2.2, if_neg c4]; rfl
              have HR2' := Aside0.mk hR2
              clear hR2
              obtain ⟨xs, hxs⟩ : ∃ xs, xs = (b.take (K1 + m1)).drop K1 := ⟨_, rfl⟩
              have hxl : xs.length = m1 := by rw [hxs, List.length_drop, List.length_take]; omega
              obtain ⟨i05, hi05, _, hsz5, _⟩ := info_parts info5
              obtain ⟨As, hcut, hAs, hAc⟩ := print_mid_int (P := Try.prog) (k := .u8) 22 5 Try.underlying22 hi05 hsz5 (some ad) c b (K1 : Int) ((K1 : Int) + (m1 : Int)) (by omega) (by omega) (by omega) hc
              rw [show ((K1 : Int) + (m1 : Int)).toNat = K1 + m1 by omega, Int.toNat_natCast, ← hxs] at hcut hAs hAc
              rw [hxl] at hcut
              have hcut' : ∀ W : World, (Instr.slice 22 (.slice (some ad) b.length c) (some (.int .i64 (K1 : Int))) (some (.int .i64 ((K1 : Int) + (m1 : Int)))) none).run Try.prog W = .ok (.slice As m1 (c - K1)) W := hcut
              have HXS := Aside0.mk hxs
              rw [← hxs] at HR2'
              have HI4 := Aside0.mk (HI3.out.keep (Fr.drewN m3 _))
              have HR4 := Aside0.mk (show IsRd (w2.drewN m3) gr (some ad) b.length c K1 from HR3.out)
              have HRX := Aside0.mk (hAs _ (HRB.out.below HI4.out.B))
              have hxx : (xs.length : Int) ≤ most - ((al.length : Int) - bg) := by omega
              clear hcut hAs hAc hi05 hsz5 hxs
              go_upto_region 15 with fail
              have x3 : (w2.drewN m3).cell? ⟨gr, 1, none⟩ = some (.int .i64 K1) := x1
              generalize w2.drewN m3 = w3 at HI4 HR4 HRX x3 ⊢
              refine QTail.wp_region_tail (C := fun w' => ∃ n, w' = w3.drewN n) 13 (by kernel_rfl) (by kernel_rfl) ⟨1, rfl⟩ ?_
              simp only [List.take_succ_cons, List.take_zero, List.drop_succ_cons, List.drop_zero]
              have hwr : IntKind.i64.wrap ((K1 : Int) + (m1 : Int)) = (K1 : Int) + (m1 : Int) := (i64_w _).trans (IntWalk.wrap64_in _ (by omega))
              repeat (quiet_step (fail))
              refine wpQuiet_nil ?_
              intro _ hw'
              obtain ⟨nq, hw''⟩ := hw'
              subst hw''
              clear hwr
              have HI5 := Aside0.mk (HI4.out.keep (Fr.drewN nq _))
              have HR5 := Aside0.mk (show IsRd (w3.drewN nq) gr (some ad) b.length c K1 from HR4.out)
              have HC3 := Aside0.mk (seen_calls w0 g gp gl al xs v bg most la As (c - K1) _ HI5.out (show ReadsInt (w3.drewN nq) .u8 As xs.length xs from HRX.out) hxx)
              rw [hxl] at HC3
              have HXL := Aside0.mk hxl
              clear hxl hxx hcut' x3 x1
              obtain ⟨al2, hal2⟩ : ∃ l, l = al ++ xs := ⟨_, rfl⟩
              rw [← hal2] at HC3 HR2'
              obtain ⟨k2, hk2⟩ : ∃ k2, k2 = K1 + m1 := ⟨_, rfl⟩
              rw [← hk2] at HR2'
              have hk2b : k2 ≤ b.length := by omega
              have hk2k : k < k2 := by omega
              have HK2 := Aside0.mk hk2
              clear hal2 hk2
              go_upto_region 16 with (go_at_call 78; refine HC3.out.mono ?_; rintro e w4 ⟨rfl, v2, hi4, hf4⟩; have HI6 := Aside0.mk hi4; have HR6 := Aside0.mk (rd_keep HI5.out HR5.out hf4); have x4 : w4.cell? ⟨gr, 1, none⟩ = some (.int .i64 K1) := ((rd_keep HI5.out HR5.out hf4).at 1 _ rfl).1; have z4 := blk_frozen (rd_keep HI5.out HR5.out hf4) 1; clear hi4 hf4)
              clear HC3 HI5 HR5 HI4 HR4 HRX
              have HR7 := Aside0.mk (show IsRd (w4.setCell ⟨gr, 1, none⟩ (.int .i64 ((K1 : Int) + (m1 : Int)))) gr (some ad) b.length c (k2 : Int) by rw [show (K1 : Int) + (m1 : Int) = (k2 : Int) by have := HK2.out; omega]; exact blk_set HR6.out 1 _)
              have HI7 := Aside0.mk (rd_step HI6.out HR6.out hgr (Fr.set (w := w4) ⟨gr, 1, none⟩ (.int .i64 ((K1 : Int) + (m1 : Int)))))
              go_upto_region 17 with fail
              generalize w4.setCell ⟨gr, 1, none⟩ (.int .i64 ((K1 : Int) + (m1 : Int))) = w5 at HR7 HI7 ⊢
              have x5 : w5.cell? ⟨gr, 1, none⟩ = some (.int .i64 k2) := (HR7.out.at 1 _ rfl).1
              have z5 := blk_frozen HR7.out 1
              clear HR6 HI6 x4 z4
              have hand := and15 t t0 t1
              by_cases c5 : k2 = b.length
              · have c5' : (k2 : Int) = (b.length : Int) := by omega
                by_cases c6 : t % 16 = 0
                · have hR : R = (0, 0, al2) := by rw [HR2'.out, dec.dec2, if_pos c5, ← HT.out, if_neg (by omega)]
                  go_wp2
                  go_ret2
                  rw [hR]
                  exact ⟨rfl, v2, la, HI7.out⟩
                · have hR : R = ((k : Int), 31, al2) := by rw [HR2'.out, dec.dec2, if_pos c5, ← HT.out, if_pos c6]
                  go_wp2
                  go_ret2
                  rw [hR]
                  exact ⟨rfl, v2, la, HI7.out⟩
              · have c5' : ¬ (k2 : Int) = (b.length : Int) := by omega
                by_cases c7 : (b.length : Int) - (k2 : Int) < 2
                · have hR : R = ((b.length : Int), 4, al2) := by rw [HR2'.out, dec.dec2, if_neg c5, if_pos c7]
                  go_wp2
                  go_ret2
                  rw [hR]
                  exact ⟨rfl, v2, la, HI7.out⟩
                · obtain ⟨ad', e', xa⟩ := cells_b HRB.out HI7.out.B k2 (by omega)
                  cases e'
                  obtain ⟨ad', e', xb⟩ := cells_b HRB.out HI7.out.B (k2 + 1) (by omega)
                  cases e'
                  obtain ⟨y0, hy0⟩ : ∃ y, y = b.getD k2 0 := ⟨_, rfl⟩
                  obtain ⟨y1, hy1⟩ : ∃ y, y = b.getD (k2 + 1) 0 := ⟨_, rfl⟩
                  have hb2 := hb k2
                  have hb3 := hb (k2 + 1)
                  rw [← hy0] at hb2 xa
                  rw [← hy1] at hb3 xb
                  have HY := Aside0.mk (And.intro hy0 hy1)
                  clear hy0 hy1
                  obtain ⟨y00, y01⟩ := hb2
                  obtain ⟨y10, y11⟩ := hb3
                  have q1 : (0 : Int) ≤ (k2 : Int) := by omega
                  have q2 : (k2 : Int) + 1 < (b.length : Int) := by omega
                  have q3 : (k2 : Int) < (b.length : Int) := by omega
                  have q4 : (0 : Int) ≤ (k2 : Int) + 1 := by omega
                  rw [add_pos ad (k2 + 1) (by omega)] at xb
                  have c7' : ¬ ((b.length : Int) - (k2 : Int) < 2) := by omega
                  have HC7 := Aside0.mk c7'
                  clear c7'
                  go_upto_region 24 with fail
                  have hw1 : IntKind.i64.wrap ((k2 : Int) + 1) = (k2 : Int) + 1 := (i64_w _).trans (IntWalk.wrap64_in _ (by omega))
                  have hw2 : IntKind.i64.wrap (y1 * 256) = y1 * 256 := (i64_w _).trans (IntWalk.wrap64_in _ (by clear hw1; omega))
                  have hw3 : IntKind.i64.wrap (y0 + y1 * 256) = y0 + y1 * 256 := (i64_w _).trans (IntWalk.wrap64_in _ (by clear hw1 hw2; omega))
                  go_quiet (fail)
                  clear hw1 hw2 hw3
                  have HI8 := Aside0.mk (HI7.out.keep (Fr.drewN nq _))
                  have HR8 := Aside0.mk (show IsRd (w5.drewN nq) gr (some ad) b.length c k2 from HR7.out)
                  have x8 : (w5.drewN nq).cell? ⟨gr, 1, none⟩ = some (.int .i64 k2) := x5
                  have z8 : (w5.drewN nq).frozen? ⟨gr, 1, none⟩ = false := z5
                  generalize w5.drewN nq = w8 at HI8 HR8 x8 z8 ⊢
                  have HR9 := Aside0.mk (show IsRd (w8.setCell ⟨gr, 1, none⟩ (.int .i64 ((k2 : Int) + 2))) gr (some ad) b.length c ((k2 + 2 : Nat) : Int) by rw [show ((k2 + 2 : Nat) : Int) = (k2 : Int) + 2 by omega]; exact blk_set HR8.out 1 _)
                  have HI9 := Aside0.mk (rd_step HI8.out HR8.out hgr (Fr.set (w := w8) ⟨gr, 1, none⟩ (.int .i64 ((k2 : Int) + 2))))
                  clear x5 z5 HI7 HR7 xa xb
                  have hbk0 : 0 ≤ y0 + y1 * 256 := by omega
                  go_upto_region 26 with fail
                  generalize w8.setCell ⟨gr, 1, none⟩ (.int .i64 ((k2 : Int) + 2)) = w9 at HI9 HR9 ⊢
                  clear HI8 HR8 x8 z8
                  obtain ⟨bk, hbk⟩ := Int.eq_ofNat_of_zero_le hbk0
                  have HBK := Aside0.mk hbk
                  generalize y0 + y1 * 256 = back at hbk ⊢
                  subst hbk
                  clear hbk0
                  by_cases c8 : (bk : Int) = 0
                  · have hR : R = ((k2 : Int), 30, al2) := by rw [HR2'.out, dec.dec2, if_neg c5, if_neg (show ¬ ((b.length : Int) - (k2 : Int) < 2) by have := HC7.out; omega), ← HY.out.1, ← HY.out.2, HBK.out, if_pos c8]
                    go_wp2
                    go_ret2
                    try rw [hR]
                    exact ⟨rfl, v2, la, HI9.out⟩
                  · have HC4 := Aside0.mk (match_calls w0 g gp gl al2 v2 bg most la bk k2 w9 HI9.out)
                    have hE3 : (if (bk : Int) > (al2.length : Int) then (30 : Int) else 0) = 30 ∧ (bk : Int) > (al2.length : Int) ∨ (if (bk : Int) > (al2.length : Int) then (30 : Int) else 0) = 0 ∧ ¬ (bk : Int) > (al2.length : Int) := by
                      by_cases q : (bk : Int) > (al2.length : Int)
                      · exact .inl ⟨if_pos q, q⟩
                      · exact .inr ⟨if_neg q, q⟩
                    generalize (if (bk : Int) > (al2.length : Int) then (30 : Int) else 0) = E3 at hE3 HC4
                    go_upto_if 159 with (go_at_call 79; refine HC4.out.mono ?_; rintro e w10 ⟨rfl, hi10, hf10⟩; have HI10 := Aside0.mk hi10; have HR10 := Aside0.mk (rd_keep' HI9.out HR9.out hf10); clear hi10 hf10)
                    clear HC4 HI9 HR9
                    rcases hE3 with ⟨rfl, c9⟩ | ⟨rfl, c9⟩
                    · have hR : R = ((k2 : Int), 30, al2) := by rw [HR2'.out, dec.dec2, if_neg c5, if_neg (show ¬ ((b.length : Int) - (k2 : Int) < 2) by have := HC7.out; omega), ← HY.out.1, ← HY.out.2, HBK.out, if_neg c8, if_pos c9]
                      go_wp2
                      go_ret2
                      try rw [hR]
                      exact ⟨rfl, v2, bk, HI10.out⟩
                    · have hq1 : 0 ≤ t % 16 ∧ t % 16 ≤ 15 := by omega
                      have HC5 := Aside0.mk (more_calls gr (some ad) c b (t % 16) (k2 + 2) _ HR10.out (HRB.out.below HI10.out.B) HA.out hb (by omega) hl hq1.1 hq1.2)
                      rw [moreV_eq] at HC5
                      have hnf := num_facts (k := k2 + 2) hb hq1.1 hq1.2 (by omega)
                      obtain ⟨n2, hn2⟩ : ∃ n, n = numS b (t % 16) (k2 + 2) := ⟨_, rfl⟩
                      obtain ⟨E4, hE4⟩ : ∃ n, n = numE b (t % 16) (k2 + 2) := ⟨_, rfl⟩
                      obtain ⟨K2, hK2⟩ : ∃ n, n = moreK b (t % 16) (k2 + 2) := ⟨_, rfl⟩
                      rw [← hn2, ← hE4, ← hK2] at hnf
                      rw [← hn2, ← hE4, ← hK2] at HC5
                      have HV2 := Aside0.mk (And.intro hn2 (And.intro hE4 hK2))
                      clear hn2 hE4 hK2
                      obtain ⟨t15, ht15⟩ : ∃ q, q = t % 16 := ⟨_, rfl⟩
                      rw [← ht15] at hand HC5 hq1
                      have HT15 := Aside0.mk ht15
                      clear ht15
                      go_upto_if 171 with (go_at_call 90; refine HC5.out.mono ?_; rintro e w11 ⟨rfl, hr11, hf11⟩; have HR11 := Aside0.mk hr11; have HI11 := Aside0.mk (rd_step HI10.out HR10.out hgr hf11); clear hr11 hf11)
                      clear HC5 HI10 HR10
                      have hRR : R = if E4 ≠ 0 then ((b.length : Int), 4, al2) else if roomE al2 bg most (n2 + 4) ≠ 0 then ((k2 : Int), 32, al2) else dec b bg most k1 K2 (copied bk (n2 + 4).toNat al2) := by
                        rw [HR2'.out, dec.dec2, if_neg c5, if_neg (show ¬ ((b.length : Int) - (k2 : Int) < 2) by have := HC7.out; omega), ← HY.out.1, ← HY.out.2, HBK.out, if_neg c8, if_neg (show ¬ ((bk : Int) > (al2.length : Int)) by omega), ← HT.out, HV2.out.1, HV2.out.2.1, HV2.out.2.2]
                        rfl
                      have HRR := Aside0.mk hRR
                      clear hRR
                      rcases hnf with ⟨rfl, e2, e3⟩ | ⟨rfl, hk2a, hk2c, hn0', hnB'⟩
                      · have hR : R = ((b.length : Int), 4, al2) := by rw [HRR.out, if_pos (by decide)]
                        go_wp2
                        go_ret2
                        try rw [hR]
                        exact ⟨rfl, v2, bk, HI11.out⟩
                      · obtain ⟨m2, rfl⟩ := Int.eq_ofNat_of_zero_le hn0'
                        have HC6 := Aside0.mk (length_calls w0 g gp gl al2 v2 bg most k2 bk (m2 + 4) w11 HI11.out (by omega) (by omega))
                        rw [show ((m2 + 4 : Nat) : Int) = (m2 : Int) + 4 by omega] at HC6
                        have hE5 : roomE al2 bg most ((m2 : Int) + 4) = 32 ∨ roomE al2 bg most ((m2 : Int) + 4) = 0 := by
                          unfold roomE
                          split
                          · exact .inl rfl
                          · exact .inr rfl
                        have HRR2 := Aside0.mk (show R = if roomE al2 bg most ((m2 : Int) + 4) ≠ 0 then ((k2 : Int), 32, al2) else dec b bg most k1 K2 (copied bk (m2 + 4) al2) by rw [HRR.out, if_neg (by decide), show ((m2 : Int) + 4).toNat = m2 + 4 by omega])
                        generalize roomE al2 bg most ((m2 : Int) + 4) = E5 at hE5 HC6 HRR2
                        rcases hE5 with rfl | rfl
                        · rw [if_neg (by decide)] at HC6
                          have hR : R = ((k2 : Int), 32, al2) := by rw [HRR2.out, if_pos (by decide)]
                          go_wp2_with (go_at_call 80; refine HC6.out.mono ?_; rintro e w12 ⟨rfl, v3, hi12, hf12⟩; have HI12 := Aside0.mk hi12; clear hi12 hf12)
                          go_ret2
                          try rw [hR]
                          exact ⟨rfl, v3, bk, HI12.out⟩
                        · rw [if_pos rfl] at HC6
                          have hR : R = dec b bg most k1 K2 (copied bk (m2 + 4) al2) := by rw [HRR2.out, if_neg (by decide)]
                          have HRf := Aside0.mk hR
                          clear hR
                          go_wp2_with (go_at_call 80; refine HC6.out.mono ?_; rintro e w12 ⟨rfl, v3, hi12, hf12⟩; have HI12 := Aside0.mk hi12; have HR12 := Aside0.mk (rd_keep HI11.out HR11.out hf12); clear hi12 hf12)
                          go_roundg k1
                          case measure => omega
                          case rel => exact ⟨K2, _, v3, bk, by omega, hk2c, HRf, HI12, HR12⟩
end Go.Proofs.Ytnomebkdhjigjaa.W
/- Contract of lz.Decode: what comes out, the place and the error, as a plain function of the bytes, the bytes ahead and the bound. Conditions: fewer than 2^40 bytes, bytes are bytes. -/
namespace Go.Proofs.Ytnomebkdhjigjaa.W
open Go.RowKit Go.Proofs.YtnomebkdhjigjaaW.PrintWords Go.Proofs.YtnomebkdhjigjaaW.PrintLast Go.Proofs.YtnomebkdhjigjaaW.PrintMore
set_option linter.unusedVariables false
set_option linter.unusedSimpArgs false
/-- Decode, as a plain function. -/
def decode (b ahead : List Int) (most : Int) : List Int × Int × Int :=
  if most < 0 ∨ most > 4194304 then ([], 0, 1) else
  if (dec b (window ahead).length most (b.length + 1) 0 (window ahead)).2.1 ≠ 0 then ([], (dec b (window ahead).length most (b.length + 1) 0 (window ahead)).1, (dec b (window ahead).length most (b.length + 1) 0 (window ahead)).2.1) else
  ((dec b (window ahead).length most (b.length + 1) 0 (window ahead)).2.2.drop (window ahead).length, 0, 0)
set_option maxHeartbeats 2000000 in
set_option maxRecDepth 100000 in
theorem Decode_calls (A A2 : Option Addr) (c c2 : Nat) (b ahead : List Int) (most : Int) (w : World) (hr : ReadsInt w .u8 A b.length b) (hc : b.length ≤ c) (hb : Byt b) (hl : b.length ≤ 140737488355327) (hr2 : ReadsInt w .u8 A2 ahead.length ahead) (hc2 : ahead.length ≤ c2) (hl2 : ahead.length ≤ 140737488355327) :
    Calls Try.prog 38 #[.slice A b.length c, .slice A2 ahead.length c2, .int .i64 most] w fun e w' => ∃ A' c', e = .returned (.tuple #[.slice A' (decode b ahead most).1.length c', .int .i64 (decode b ahead most).2.1, .int .i64 (decode b ahead most).2.2]) ∧
      w'.ownsRow w.heap.size 5 1 (.slice A' (decode b ahead most).1.length c') (decode b ahead most).1.length (nums .u8 (decode b ahead most).1) ∧ Below w.heap.size w w' := by
  by_cases hm : most < 0
  · have e1 : decode b ahead most = ([], 0, 1) := if_pos (.inl hm)
    rw [e1]
    clear hr hr2
    go_enter Try.func38, Try.ntmps38
    go_wp2
    go_ret3
    exact ⟨none, 0, rfl, own_nil _ _ _ _, Below.refl _ _⟩
  · by_cases hm2 : most > 4194304
    · have e1 : decode b ahead most = ([], 0, 1) := if_pos (.inr hm2)
      rw [e1]
      clear hr hr2
      go_enter Try.func38, Try.ntmps38
      go_wp2
      go_ret3
      exact ⟨none, 0, rfl, own_nil _ _ _ _, Below.refl _ _⟩
    · obtain ⟨R, hR⟩ : ∃ R, R = dec b (window ahead).length most (b.length + 1) 0 (window ahead) := ⟨_, rfl⟩
      have e1 : decode b ahead most = if R.2.1 ≠ 0 then ([], R.1, R.2.1) else (R.2.2.drop (window ahead).length, 0, 0) := by
        rw [hR]
        exact if_neg (by omega)
      have HC1 := Aside0.mk (newPlayer_calls A2 c2 ahead most w hr2 hc2 hl2)
      have HR := Aside0.mk hr
      have HRR := Aside0.mk hR
      have hwl := (window_len ahead).1
      obtain ⟨D, hD⟩ : ∃ D, D = decode b ahead most := ⟨_, rfl⟩
      rw [← hD] at e1 ⊢
      have HE := Aside0.mk e1
      clear e1 hD hr hr2 hR
      go_enter Try.func38, Try.ntmps38
      go_upto_region 5 with (go_at_call 70; refine HC1.out.mono ?_; rintro e w1 ⟨g, va, rfl, hg, hp, hB⟩; have HP := Aside0.mk hp; have HB := Aside0.mk hB; clear hp hB)
      have hgl : w.heap.size ≤ w1.heap.size := HB.out.size
      have f1 : Fr w1 (w1.alloc (.cells #[.pointer (some ⟨g, 0, none⟩)] 101)) (fun _ => True) := Fr.alloc _ _
      have f2 : Fr (w1.alloc (.cells #[.pointer (some ⟨g, 0, none⟩)] 101)) ((w1.alloc (.cells #[.pointer (some ⟨g, 0, none⟩)] 101)).alloc (.cells #[.int .i64 0] 3)) (fun _ => True) := Fr.alloc _ _
      have HI := Aside0.mk (show DInv w ((w1.alloc (.cells #[.pointer (some ⟨g, 0, none⟩)] 101)).alloc (.cells #[.int .i64 0] 3)) g w1.heap.size (w1.heap.size + 1) (window ahead) va ((window ahead).length : Nat) most 0 from
        ⟨below_alloc (below_alloc HB.out _) _, hg, by omega, HP.out.fr (f1.then f2) trivial (fun _ _ => trivial), f2.heap (heap_alloc_new w1 _) trivial, by
          have h := heap_alloc_new (w1.alloc (.cells #[.pointer (some ⟨g, 0, none⟩)] 101)) (.cells #[.int .i64 0] 3)
          simpa using h, by omega, by omega, by omega, by omega⟩)
      clear f1 f2
      generalize (w1.alloc (.cells #[.pointer (some ⟨g, 0, none⟩)] 101)).alloc (.cells #[.int .i64 0] 3) = w2 at HI ⊢
      have HW := Aside0.mk (walk_calls w g w1.heap.size (w1.heap.size + 1) A c b (window ahead) va ((window ahead).length : Nat) most 0 w2 HI.out HR.out hc hb hl)
      rw [← HRR.out] at HW
      go_upto_if 32 with (go_at_call 49; refine HW.out.mono ?_; rintro e w3 ⟨rfl, v3, l3, hi3⟩; have HI3 := Aside0.mk hi3; clear hi3)
      clear HW HI
      by_cases hE : R.2.1 = 0
      · have e2 : D = (R.2.2.drop (window ahead).length, 0, 0) := by rw [HE.out, if_neg (by omega)]
        obtain ⟨L, hL⟩ : ∃ L, L = R.2.2 := ⟨_, rfl⟩
        rw [← hL] at HI3 e2
        have HPl := Aside0.mk (plain_calls g w.heap.size L v3 (window ahead).length most w3 HI3.out.p (by have := HI3.out.b1; omega) (by have := HI3.out.len; omega))
        have xc : w3.cell? ⟨w1.heap.size, 0, none⟩ = some (.pointer (some ⟨g, 0, none⟩)) := cell_of_one HI3.out.c
        obtain ⟨xs, hxs⟩ : ∃ xs, xs = L.drop (window ahead).length := ⟨_, rfl⟩
        rw [← hxs] at HPl e2
        have HE2 := Aside0.mk e2
        clear e2 hL hxs
        go_wp2_with (go_at_call 74; refine HPl.out.mono ?_; rintro e w4 ⟨A4, c4, rfl, ho4, hb4⟩; have HO4 := Aside0.mk ho4; have HB4 := Aside0.mk hb4; clear ho4 hb4)
        go_ret3
        rw [HE2.out]
        exact ⟨A4, c4, rfl, own_lower HO4.out HI3.out.B.size, below_step HI3.out.B HB4.out⟩
      · have e2 : D = ([], R.1, R.2.1) := by rw [HE.out, if_pos hE]
        have HE2 := Aside0.mk e2
        clear e2
        go_wp2
        go_ret3
        rw [HE2.out]
        exact ⟨none, 0, rfl, own_nil _ _ _ _, HI3.out.B⟩
end Go.Proofs.Ytnomebkdhjigjaa.W
/- lz.Decode's contract in the print's form; what comes out is bounded: plain facts. -/
namespace Go.Proofs.Ytnomebkdhjigjaa.W
open Go.RowKit Go.Proofs.YtnomebkdhjigjaaW.PrintWords Go.Proofs.YtnomebkdhjigjaaW.PrintLast Go.Proofs.YtnomebkdhjigjaaW.PrintMore
set_option linter.unusedVariables false
set_option linter.unusedSimpArgs false
def decodeF (l0 l1 : List Int) (a2 : Int) : Option (List Int × Int × Int) := if l0.length ≤ 140737488355327 ∧ l1.length ≤ 140737488355327 ∧ bytesB l0 = true then some (decode l0 l1 a2) else none
theorem Decode_p (A0 : Option Addr) (c0 : Nat) (l0 : List Int) (A1 : Option Addr) (c1 : Nat) (l1 : List Int) (a2 : Int) (r1 : List Int) (r2 : Int) (r3 : Int) (w : World) (hr0 : Kd.C (Kd.int .u8) w A0 l0.length l0) (hc0 : l0.length ≤ c0) (hr1 : Kd.C (Kd.int .u8) w A1 l1.length l1) (hc1 : l1.length ≤ c1) (h : decodeF l0 l1 a2 = some (r1, r2, r3)) :
    Calls Try.prog 38 #[.slice A0 l0.length c0, .slice A1 l1.length c1, .int .i64 a2] w fun e w' => ∃ v0_ : Value, e = .returned (.tuple #[v0_, .int .i64 r2, .int .i64 r3]) ∧ Kd.R (Kd.int .u8) 5 w' w.heap.size (fun _ => True) v0_ r1 ∧ Below w.heap.size w w' := by
  unfold decodeF at h
  by_cases c : l0.length ≤ 140737488355327 ∧ l1.length ≤ 140737488355327 ∧ bytesB l0 = true
  · rw [if_pos c] at h
    have e := Option.some.inj h
    refine (Decode_calls A0 A1 c0 c1 l0 l1 a2 w (reads_of_C hr0) hc0 (byt_of _ c.2.2) c.1 (reads_of_C hr1) hc1 c.2.1).mono ?_
    rintro e' w' ⟨A', c', he, ho, hb⟩
    rw [e] at he ho
    exact ⟨_, he, Kd.R_of_own ho (fun _ _ => trivial), hb⟩
  · rw [if_neg c] at h
    cases h
theorem num_grow {b : List Int} {n : Int} {k : Nat} (hb : Byt b) (h0 : 0 ≤ n) (h1 : n ≤ 15) (hk : k ≤ b.length) (he : numE b n k = 0) : 0 ≤ numS b n k ∧ numS b n k ≤ 15 + 255 * ((moreK b n k : Int) - (k : Int)) ∧ k ≤ moreK b n k ∧ moreK b n k ≤ b.length := by
  unfold numS numE moreK at *
  cases e : num b n k with
  | none => rw [e] at he; cases he
  | some p =>
    obtain ⟨s, j⟩ := p
    simp only
    unfold num at e
    by_cases c : n < 15
    · rw [if_pos c] at e
      cases e
      omega
    · rw [if_neg c] at e
      cases e2 : ext (b.drop k) with
      | none => rw [e2] at e; cases e
      | some q =>
        obtain ⟨s', k'⟩ := q
        rw [e2] at e
        cases e
        have a := ext_len _ _ _ e2
        have d := ext_bound _ _ _ (hb.drop k) e2
        rw [List.length_drop] at a
        omega
theorem roomE_zero {all : List Int} {bg most n : Int} (h : ¬ roomE all bg most n ≠ 0) : n ≤ most - ((all.length : Int) - bg) := by
  unfold roomE at h
  by_cases c : n > most - ((all.length : Int) - bg)
  · rw [if_pos c] at h
    exact absurd (by decide) h
  · omega
/-- What decoding answers lies within bounds. -/
theorem dec_bound (b : List Int) (bg most : Int) (hb : Byt b) : ∀ (f k : Nat) (all : List Int), k ≤ b.length → b.length < f + k → (all.length : Int) - bg ≤ most →
    (0 ≤ (dec b bg most f k all).1 ∧ (dec b bg most f k all).1 ≤ (b.length : Int)) ∧
    ((dec b bg most f k all).2.1 = 0 → (dec b bg most f k all).1 = 0 ∧ ((dec b bg most f k all).2.2.length : Int) - bg ≤ most ∧ ((dec b bg most f k all).2.2.length : Int) ≤ (all.length : Int) + 255 * ((b.length : Int) - (k : Int))) := by
  intro f
  induction f with
  | zero => intro k all hk hf; omega
  | succ f ih =>
    intro k all hk hf hs
    have ht := hb k
    have hq0 : 0 ≤ b.getD k 0 / 16 ∧ b.getD k 0 / 16 ≤ 15 := by omega
    have hq1 : 0 ≤ b.getD k 0 % 16 ∧ b.getD k 0 % 16 ≤ 15 := by omega
    rw [dec]
    by_cases c1 : k = b.length
    · rw [if_pos c1]; exact ⟨⟨by omega, Int.le_refl _⟩, fun h => by cases h⟩
    rw [if_neg c1]
    by_cases c2 : numE b (b.getD k 0 / 16) (k + 1) ≠ 0
    · rw [if_pos c2]; exact ⟨⟨by omega, Int.le_refl _⟩, fun h => by cases h⟩
    rw [if_neg c2]
    have g1 := num_grow hb hq0.1 hq0.2 (show k + 1 ≤ b.length by omega) (by omega)
    generalize numS b (b.getD k 0 / 16) (k + 1) = n at g1 ⊢
    generalize moreK b (b.getD k 0 / 16) (k + 1) = k1 at g1 ⊢
    by_cases c3 : roomE all bg most n ≠ 0
    · rw [if_pos c3]; exact ⟨⟨by show (0 : Int) ≤ (k1 : Int); omega, by show (k1 : Int) ≤ _; omega⟩, fun h => by cases h⟩
    rw [if_neg c3]
    have r1 := roomE_zero c3
    by_cases c4 : n > (b.length : Int) - (k1 : Int)
    · rw [if_pos c4]; exact ⟨⟨by omega, Int.le_refl _⟩, fun h => by cases h⟩
    rw [if_neg c4]
    obtain ⟨m, rfl⟩ := Int.eq_ofNat_of_zero_le g1.1
    rw [Int.toNat_natCast]
    obtain ⟨al, hal⟩ : ∃ al, al = all ++ (b.take (k1 + m)).drop k1 := ⟨_, rfl⟩
    have hl : (al.length : Int) = (all.length : Int) + (m : Int) := by
      rw [hal, List.length_append, List.length_drop, List.length_take]; omega
    rw [← hal]
    obtain ⟨k2, hk2⟩ : ∃ k2, k2 = k1 + m := ⟨_, rfl⟩
    rw [← hk2]
    clear hal
    unfold dec.dec2
    by_cases c5 : k2 = b.length
    · rw [if_pos c5]
      by_cases c6 : b.getD k 0 % 16 ≠ 0
      · rw [if_pos c6]; exact ⟨⟨by show (0 : Int) ≤ (k : Int); omega, by show (k : Int) ≤ _; omega⟩, fun h => by cases h⟩
      · rw [if_neg c6]; exact ⟨⟨Int.le_refl _, by show (0 : Int) ≤ _; omega⟩, fun _ => ⟨rfl, by show (al.length : Int) - bg ≤ most; omega, by show (al.length : Int) ≤ _; omega⟩⟩
    rw [if_neg c5]
    by_cases c7 : (b.length : Int) - (k2 : Int) < 2
    · rw [if_pos c7]; exact ⟨⟨by omega, Int.le_refl _⟩, fun h => by cases h⟩
    rw [if_neg c7]
    by_cases c8 : b.getD k2 0 + b.getD (k2 + 1) 0 * 256 = 0
    · rw [if_pos c8]; exact ⟨⟨by show (0 : Int) ≤ (k2 : Int); omega, by show (k2 : Int) ≤ _; omega⟩, fun h => by cases h⟩
    rw [if_neg c8]
    by_cases c9 : b.getD k2 0 + b.getD (k2 + 1) 0 * 256 > (al.length : Int)
    · rw [if_pos c9]; exact ⟨⟨by show (0 : Int) ≤ (k2 : Int); omega, by show (k2 : Int) ≤ _; omega⟩, fun h => by cases h⟩
    rw [if_neg c9]
    by_cases c10 : numE b (b.getD k 0 % 16) (k2 + 2) ≠ 0
    · rw [if_pos c10]; exact ⟨⟨by omega, Int.le_refl _⟩, fun h => by cases h⟩
    rw [if_neg c10]
    have g2 := num_grow hb hq1.1 hq1.2 (show k2 + 2 ≤ b.length by omega) (by omega)
    generalize numS b (b.getD k 0 % 16) (k2 + 2) = n2 at g2 ⊢
    generalize moreK b (b.getD k 0 % 16) (k2 + 2) = k3 at g2 ⊢
    by_cases c11 : roomE al bg most (n2 + 4) ≠ 0
    · rw [if_pos c11]; exact ⟨⟨by show (0 : Int) ≤ (k2 : Int); omega, by show (k2 : Int) ≤ _; omega⟩, fun h => by cases h⟩
    rw [if_neg c11]
    have r2 := roomE_zero c11
    have hcl := copied_len (b.getD k2 0 + b.getD (k2 + 1) 0 * 256).toNat (n2 + 4).toNat al
    generalize copied (b.getD k2 0 + b.getD (k2 + 1) 0 * 256).toNat (n2 + 4).toNat al = al2 at hcl ⊢
    have hr := ih k3 al2 g2.2.2.2 (by omega) (by omega)
    refine ⟨hr.1, fun h => ?_⟩
    have h3 := hr.2 h
    exact ⟨h3.1, h3.2.1, by omega⟩
theorem decode_bound (b ahead : List Int) (most : Int) (hb : Byt b) : (0 ≤ (decode b ahead most).2.1 ∧ (decode b ahead most).2.1 ≤ (b.length : Int)) ∧ ((decode b ahead most).2.2 ≠ 0 → (decode b ahead most).1.length = 0) ∧
    ((decode b ahead most).2.2 = 0 → (decode b ahead most).2.1 = 0 ∧ ((decode b ahead most).1.length : Int) ≤ most ∧ ((decode b ahead most).1.length : Int) ≤ 255 * (b.length : Int)) := by
  unfold decode
  by_cases c : most < 0 ∨ most > 4194304
  · rw [if_pos c]
    exact ⟨⟨Int.le_refl _, by show (0 : Int) ≤ _; omega⟩, fun _ => rfl, fun h => by cases h⟩
  rw [if_neg c]
  have hd := dec_bound b ((window ahead).length : Int) most hb (b.length + 1) 0 (window ahead) (Nat.zero_le _) (by omega) (by omega)
  generalize dec b ((window ahead).length : Int) most (b.length + 1) 0 (window ahead) = R at hd ⊢
  by_cases e : R.2.1 ≠ 0
  · rw [if_pos e]
    exact ⟨hd.1, fun _ => rfl, fun h => absurd h e⟩
  · rw [if_neg e]
    have h := hd.2 (by omega)
    refine ⟨⟨Int.le_refl _, by show (0 : Int) ≤ _; omega⟩, fun h => absurd rfl h, fun _ => ⟨rfl, ?_, ?_⟩⟩
    · show ((R.2.2.drop (window ahead).length).length : Int) ≤ most
      rw [List.length_drop]
      omega
    · show ((R.2.2.drop (window ahead).length).length : Int) ≤ _
      rw [List.length_drop]
      omega
theorem decode_nil : (decode [] [] 0).2.2 = 4 := by decide
end Go.Proofs.Ytnomebkdhjigjaa.W
/- lz.Decode as the print says it: a contract over lists. -/
namespace Go.Proofs.Ytnomebkdhjigjaa.MLzDecodes
open Go.RowKit Go.Proofs.YtnomebkdhjigjaaW.PrintWords Go.Proofs.YtnomebkdhjigjaaW.PrintLast Go.Proofs.YtnomebkdhjigjaaW.PrintMore
set_option linter.unusedVariables false
set_option linter.unusedSimpArgs false
/-! ### lz_Decode: function 38 (mine) -/
def lz_Decode.f (l0 : List Int) (l1 : List Int) (a2 : Int) : Option (List Int × Int × Int) := W.decodeF l0 l1 a2
theorem lz_Decode.calls (A0 : Option Addr) (c0 : Nat) (l0 : List Int) (A1 : Option Addr) (c1 : Nat) (l1 : List Int) (a2 : Int) (r1 : List Int) (r2 : Int) (r3 : Int) (w : World) (hr0 : Kd.C (Kd.int .u8) w A0 l0.length l0) (hc0 : l0.length ≤ c0) (hr1 : Kd.C (Kd.int .u8) w A1 l1.length l1) (hc1 : l1.length ≤ c1) (h : lz_Decode.f l0 l1 a2 = some (r1, r2, r3)) :
    Calls Try.prog 38 #[.slice A0 l0.length c0, .slice A1 l1.length c1, .int .i64 a2] w fun e w' => ∃ v0_ : Value, e = .returned (.tuple #[v0_, .int .i64 r2, .int .i64 r3]) ∧ Kd.R (Kd.int .u8) 5 w' w.heap.size (fun _ => True) v0_ r1 ∧ Below w.heap.size w w' := W.Decode_p A0 c0 l0 A1 c1 l1 a2 r1 r2 r3 w hr0 hc0 hr1 hc1 h



end Go.Proofs.Ytnomebkdhjigjaa.MLzDecodes
