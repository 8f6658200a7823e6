/- Contract of lz.Play: what comes out and the error, as a plain function of the sequences, the bytes ahead and the bound. -/
import Derived.Test.YtnomebkdhjigjaaAb
import Derived.Test.YtnomebkdhjigjaaZc
namespace Go.Proofs.Ytnomebkdhjigjaa.W
open Go.RowKit Go.Proofs.Ytnomebkdhjigjaa.Z Go.Proofs.YtnomebkdhjigjaaW.PrintWords Go.Proofs.YtnomebkdhjigjaaW.PrintLast Go.Proofs.YtnomebkdhjigjaaW.PrintMore
set_option linter.unusedVariables false
set_option linter.unusedSimpArgs false
/-- Whether sequences are a block's. -/
def madeP : List S44 → Bool
  | [] => false
  | [s] => decide (s.f1 = 0 ∧ s.f2 = 0)
  | s :: t :: u => decide (1 ≤ s.f1 ∧ s.f1 < 65536 ∧ 4 ≤ s.f2) && madeP (t :: u)
theorem drop_at (l : List S44) (i : Nat) (hi : i < l.length) : l.drop i = l.getD i z44 :: l.drop (i + 1) := by
  rw [List.getD_eq_getElem?_getD, List.getElem?_eq_getElem hi]
  exact List.drop_eq_getElem_cons hi
theorem rd_at (l : List S44) (i : Nat) : rd_T44 l (i : Int) = l.getD i z44 := by simp [rd_T44]
theorem made_last (l : List S44) (i : Nat) (hi : i + 1 = l.length) : madeP (l.drop i) = decide ((l.getD i z44).f1 = 0 ∧ (l.getD i z44).f2 = 0) := by
  rw [drop_at l i (by omega), List.drop_of_length_le (by omega), madeP]
theorem made_next (l : List S44) (i : Nat) (hi : i + 1 < l.length) : madeP (l.drop i) = (decide (1 ≤ (l.getD i z44).f1 ∧ (l.getD i z44).f1 < 65536 ∧ 4 ≤ (l.getD i z44).f2) && madeP (l.drop (i + 1))) := by
  rw [drop_at l i (by omega), drop_at l (i + 1) hi, madeP]
theorem made_l0 (l : List S44) (hl : l.length ≤ 140737488355327) : ∀ (j k i : Nat), i + j = l.length → j < k → lz_made.l0 k l l (l.length : Int) (i : Int) = some (madeP (l.drop i)) := by
  intro j
  induction j with
  | zero =>
    intro k i hi hk
    obtain ⟨k, rfl⟩ : ∃ q, k = q + 1 := ⟨k - 1, by omega⟩
    rw [lz_made.l0, if_neg (by omega), List.drop_of_length_le (by omega)]
    rfl
  | succ j ih =>
    intro k i hi hk
    obtain ⟨k, rfl⟩ : ∃ q, k = q + 1 := ⟨k - 1, by omega⟩
    have w1 : wrap64 ((l.length : Int) - 1) = ((l.length - 1 : Nat) : Int) := by rw [IntWalk.wrap64_in _ (by omega)]; omega
    have w2 : wrap64 ((i : Int) + 1) = ((i + 1 : Nat) : Int) := by clear w1; rw [IntWalk.wrap64_in _ (by omega)]; omega
    rw [lz_made.l0, w1, w2]
    clear w1 w2
    rw [if_pos (by omega), if_pos (by omega), if_pos (by omega), rd_at]
    by_cases c : i + 1 = l.length
    · rw [if_pos (by omega), made_last l i c]
      generalize l.getD i z44 = s
      by_cases c1 : s.f1 = 0
      · rw [if_pos c1]
        by_cases c2 : s.f2 = 0
        · rw [c2, decide_eq_true ⟨c1, rfl⟩]
          rfl
        · rw [decide_eq_false (fun h => c2 h.2), beq_eq_false_iff_ne.2 c2]
      · rw [if_neg c1, decide_eq_false (fun h => c1 h.1)]
    · rw [if_neg (by omega), made_next l i (by omega)]
      by_cases c1 : (l.getD i z44).f1 < 1
      · rw [if_pos c1, decide_eq_false (by omega)]
        rfl
      rw [if_neg c1]
      by_cases c2 : (l.getD i z44).f1 ≥ 65536
      · rw [if_pos c2, decide_eq_false (by omega)]
        rfl
      rw [if_neg c2]
      by_cases c3 : (l.getD i z44).f2 < 4
      · rw [if_pos c3, decide_eq_false (by omega)]
        rfl
      rw [if_neg c3, decide_eq_true (show 1 ≤ (l.getD i z44).f1 ∧ (l.getD i z44).f1 < 65536 ∧ 4 ≤ (l.getD i z44).f2 from ⟨by omega, by omega, by omega⟩), Bool.true_and]
      exact ih k (i + 1) (by omega) (by omega)
theorem made_f (l : List S44) (hl : l.length ≤ 140737488355327) : lz_made.f (l.length + 1) l = some (madeP l) := made_l0 l hl l.length _ 0 (by omega) (by omega)
theorem made_facts (l : List S44) : ∀ (j i : Nat), i + j = l.length → madeP (l.drop i) = true → ∀ q, i ≤ q → q < l.length → (q + 1 = l.length → (l.getD q z44).f1 = 0 ∧ (l.getD q z44).f2 = 0) ∧ (q + 1 < l.length → 1 ≤ (l.getD q z44).f1 ∧ (l.getD q z44).f1 < 65536 ∧ 4 ≤ (l.getD q z44).f2) := by
  intro j
  induction j with
  | zero => intro i hi hm q h1 h2; omega
  | succ j ih =>
    intro i hi hm q h1 h2
    by_cases c : i + 1 = l.length
    · rw [made_last l i c] at hm
      have hm := of_decide_eq_true hm
      have : q = i := by omega
      subst this
      exact ⟨fun _ => hm, fun h => by omega⟩
    · rw [made_next l i (by omega), Bool.and_eq_true] at hm
      rcases Nat.eq_or_lt_of_le h1 with e | e
      · subst e
        exact ⟨fun h => by omega, fun _ => of_decide_eq_true hm.1⟩
      · exact ih (i + 1) (by omega) hm.2 q (by omega) h2
/-- Sequences played: the error, what came out. -/
def playL (bg most : Int) : List S44 → List Int → Int × List Int
  | [], all => (0, all)
  | s :: t, all =>
    if (s.f0.length : Int) > most - ((all.length : Int) - bg) then (32, all) else
    if s.f1 = 0 then (0, all ++ s.f0) else
    if s.f1 > ((all ++ s.f0).length : Int) then (30, all ++ s.f0) else
    if s.f2 > most - (((all ++ s.f0).length : Int) - bg) then (32, all ++ s.f0) else
    playL bg most t (copied s.f1.toNat s.f2.toNat (all ++ s.f0))
def play (l : List S44) (ahead : List Int) (most : Int) : List Int × Int :=
  if most < 0 ∨ most > 4194304 ∨ madeP l = false then ([], 1) else
  if (playL (window ahead).length most l (window ahead)).1 ≠ 0 then ([], (playL (window ahead).length most l (window ahead)).1) else ((playL (window ahead).length most l (window ahead)).2.drop (window ahead).length, 0)
structure GInv (w0 w : World) (g : Nat) (all : List Int) (va : Value) (bg most : Int) : Prop where
  B : Below w0.heap.size w0 w
  hg : w0.heap.size ≤ g
  p : Pl w w0.heap.size g all va bg most
  b0 : 0 ≤ bg ∧ bg ≤ 65535
  b1 : bg ≤ (all.length : Int)
  m0 : 0 ≤ most ∧ most ≤ 4194304
  sz : (all.length : Int) - bg ≤ most
theorem GInv.len {w0 w : World} {g : Nat} {all : List Int} {va : Value} {bg most : Int} (h : GInv w0 w g all va bg most) : all.length ≤ 4259839 := by
  have a := h.b0
  have b := h.m0
  have c := h.sz
  omega
theorem GInv.keep {w0 w w' : World} {g : Nat} {all : List Int} {va : Value} {bg most : Int} (h : GInv w0 w g all va bg most) (f : Fr w w' (fun _ => True)) : GInv w0 w' g all va bg most :=
  ⟨h.B.trans (f.below (fun i hi => ⟨Nat.lt_of_lt_of_le hi h.B.size, trivial⟩)), h.hg, h.p.fr f trivial (fun _ _ => trivial), h.b0, h.b1, h.m0, h.sz⟩
theorem GInv.upd {w0 w w' : World} {g : Nat} {all all' : List Int} {va va' : Value} {bg most : Int} (h : GInv w0 w g all va bg most) (p : Pl w' w0.heap.size g all' va' bg most) (f : Fr w w' (fun i => i ≠ g ∧ some i ≠ va.ownBlock)) (hb : bg ≤ (all'.length : Int)) (hs : (all'.length : Int) - bg ≤ most) :
    GInv w0 w' g all' va' bg most :=
  ⟨h.B.trans (f.below (fun i hi => ⟨Nat.lt_of_lt_of_le hi h.B.size, by have := h.hg; omega, fun e => by have := (own_ge h.p.o i e).1; omega⟩)), h.hg, p, h.b0, hb, h.m0, hs⟩
theorem GInv.box {w0 w w' : World} {g q : Nat} {all : List Int} {va : Value} {bg most : Int} {cs : Array Value} (h : GInv w0 w g all va bg most) (hq : w.heap[q]? = some (.cells cs 44 (0, 0))) (f : Fr w w' (fun i => i ≠ g ∧ some i ≠ va.ownBlock)) : w'.heap[q]? = some (.cells cs 44 (0, 0)) :=
  f.heap hq ⟨blk_ne hq h.p.d (by decide), own_ne h.p.o hq (by decide)⟩
set_option maxHeartbeats 8000000 in
set_option maxRecDepth 100000 in
theorem Play_calls (A A2 : Option Addr) (c c2 : Nat) (l : List S44) (ahead : List Int) (most : Int) (w : World) (hr : Kd.C k44 w A l.length l) (hc : l.length ≤ c) (hl : l.length ≤ 140737488355327) (hs : ∀ i, i < l.length → ((l.getD i z44).f0.length : Int) ≤ 140737488355327) (hr2 : ReadsInt w .u8 A2 ahead.length ahead) (hc2 : ahead.length ≤ c2) (hl2 : ahead.length ≤ 140737488355327) :
    Calls Try.prog 35 #[.slice A l.length c, .slice A2 ahead.length c2, .int .i64 most] w fun e w' => ∃ A' c', e = .returned (.tuple #[.slice A' (play l ahead most).1.length c', .int .i64 (play l ahead most).2]) ∧
      w'.ownsRow w.heap.size 5 1 (.slice A' (play l ahead most).1.length c') (play l ahead most).1.length (nums .u8 (play l ahead most).1) ∧ Below w.heap.size w w' := by
  by_cases hm : most < 0
  · have e1 : play l ahead most = ([], 1) := if_pos (.inl hm)
    have hd1 : decide (most < 0) = true := decide_eq_true hm
    rw [e1]
    clear hr hr2 hm hs
    go_enter Try.func35, Try.ntmps35
    go_wp2
    repeat (go_quiet (fail); try go_wp2)
    go_ret2
    exact ⟨none, 0, rfl, own_nil _ _ _ _, by repeat (first | (with_reducible first | exact Below.refl _ _ | apply pw_below_drewN | apply below_drew1))⟩
  by_cases hm2 : most > 4194304
  · have e1 : play l ahead most = ([], 1) := if_pos (.inr (.inl hm2))
    have hd1 : decide (most < 0) = false := decide_eq_false hm
    have hd2 : decide (4194304 < most) = true := decide_eq_true hm2
    rw [e1]
    clear hr hr2 hm hs hm2
    go_enter Try.func35, Try.ntmps35
    go_wp2
    repeat (go_quiet (fail); try go_wp2)
    go_ret2
    exact ⟨none, 0, rfl, own_nil _ _ _ _, by repeat (first | (with_reducible first | exact Below.refl _ _ | apply pw_below_drewN | apply below_drew1))⟩
  have hd1 : decide (most < 0) = false := decide_eq_false hm
  have hd2 : decide (4194304 < most) = false := decide_eq_false hm2
  have HMD := Aside0.mk (lz_made.calls (l.length + 1) A c l (madeP l) w hr hc (made_f l hl))
  by_cases hmd : madeP l = true
  rotate_left
  · have hmd' : madeP l = false := by simpa using hmd
    have e1 : play l ahead most = ([], 1) := if_pos (.inr (.inr hmd'))
    rw [hmd'] at HMD
    rw [e1]
    clear hr hr2 hm hs hm2 hmd hmd' e1
    go_enter Try.func35, Try.ntmps35
    go_wp2_with (go_at_call 66; refine HMD.out.mono ?_; rintro e w1 ⟨rfl, hb⟩; have HB := Aside0.mk hb; clear hb)
    go_ret2
    exact ⟨none, 0, rfl, own_nil _ _ _ _, HB.out⟩
  have HMF := Aside0.mk (made_facts l l.length 0 (by omega) hmd)
  have hne : 0 < l.length := by
    rcases Nat.eq_zero_or_pos l.length with h | h
    · rw [List.eq_nil_of_length_eq_zero h] at hmd
      cases hmd
    · exact h
  rw [hmd] at HMD
  obtain ⟨R, hR⟩ : ∃ R, R = playL (window ahead).length most l (window ahead) := ⟨_, rfl⟩
  have e1 : play l ahead most = if R.1 ≠ 0 then ([], R.1) else (R.2.drop (window ahead).length, 0) := by
    rw [hR]
    exact if_neg (by rw [hmd]; simp; omega)
  obtain ⟨D, hD⟩ : ∃ D, D = play l ahead most := ⟨_, rfl⟩
  rw [← hD] at e1 ⊢
  have HE := Aside0.mk e1
  have HRR := Aside0.mk hR
  have HR := Aside0.mk hr
  have HR2 := Aside0.mk hr2
  have HS := Aside0.mk hs
  have hwl := (window_len ahead).1
  clear e1 hD hr hr2 hR hmd hs
  go_enter Try.func35, Try.ntmps35
  go_upto_region 4 with (first | (go_at_call 66; refine HMD.out.mono ?_; rintro e w1 ⟨rfl, hb⟩; have HB1 := Aside0.mk hb; clear hb) | (go_at_call 70; refine (newPlayer_calls A2 c2 ahead most w1 (HR2.out.below HB1.out) hc2 hl2).mono ?_; rintro e w2 ⟨g, va, rfl, hg, hp, hB⟩; have HP := Aside0.mk hp; have HB2 := Aside0.mk hB; have HG := Aside0.mk hg; clear hp hB hg))
  have HI0 := Aside0.mk (show GInv w w2 g (window ahead) va (window ahead).length most from
    ⟨below_step HB1.out HB2.out, Nat.le_trans HB1.out.size HG.out, HP.out.lower HB1.out.size, by omega, by omega, ⟨hm, hm2⟩, by omega⟩)
  clear HP HB2 HB1 HMD
  go_wp2_with fail
  go_loopg [30] l.length (fun kq v30 wc => ∃ (i : Nat) (al : List Int) (v : Value), kq + i = l.length ∧ i < l.length ∧ v30 = .int .i64 i ∧ Aside0 (R = playL (window ahead).length most (l.drop i) al) ∧ Aside0 (GInv w wc g al v (window ahead).length most))
  case atStart => exact ⟨0, window ahead, va, by omega, hne, rfl, HRR, HI0⟩
  case round =>
    clear HI0 HRR HG
    obtain ⟨i, al, v, hk, hil, rfl, HRr, HI⟩ := hrel
    cases gk with
    | zero => omega
    | succ k1 =>
      have hi0 : (0 : Int) ≤ (i : Int) := by omega
      have hilt : (i : Int) < (l.length : Int) := by omega
      obtain ⟨ad, As, cs, rfl, xs0, xs1, xs2, hcs, hrs⟩ := at_T44 HR.out (i : Int) hi0 hilt
      have hf := HMF.out i (Nat.zero_le _) hil
      have hsl := HS.out i hil
      have HD := Aside0.mk (drop_at l i hil)
      rw [rd_at] at xs0 xs1 xs2 hcs hrs
      generalize l.getD i z44 = s at xs0 xs1 xs2 hcs hrs hf hsl HD
      obtain ⟨f0, f1, f2⟩ := s
      simp only at xs0 xs1 xs2 hcs hrs hf hsl
      rw [Int.toNat_natCast] at xs0 xs1 xs2
      have y0 := pw_cell_below HI.out.B xs0
      have y1 := pw_cell_below HI.out.B xs1
      have y2 := pw_cell_below HI.out.B xs2
      have HRS := Aside0.mk (reads_of_C hrs)
      have HF := Aside0.mk hf
      clear xs0 xs1 xs2 hrs hf
      go_upto_region 7 with fail
      obtain ⟨q, hq⟩ : ∃ q, q = wr.heap.size := ⟨_, rfl⟩
      have BQ := Aside0.mk (show (wr.alloc (.cells #[.slice As f0.length cs, .int .i64 f1, .int .i64 f2] 44)).heap[q]? = some (.cells #[.slice As f0.length cs, .int .i64 f1, .int .i64 f2] 44 (0, 0)) by rw [hq]; exact heap_alloc_new wr _)
      have HI1 := Aside0.mk (HI.out.keep (Fr.alloc (.cells #[.slice As f0.length cs, .int .i64 f1, .int .i64 f2] 44) _))
      rw [← hq]
      generalize wr.alloc (.cells #[.slice As f0.length cs, .int .i64 f1, .int .i64 f2] 44) = w3 at BQ HI1 ⊢
      clear hq y0 y1 y2 HI
      have hlen := HI1.out.len
      have hsz := HI1.out.sz
      have hbg := HI1.out.b1
      have HC1 := Aside0.mk (room_calls g w.heap.size al v (window ahead).length most f0.length w3 HI1.out.p ⟨by omega, by omega⟩ ⟨by omega, by omega⟩ (by omega))
      have z0 : w3.cell? ⟨q, 0, none⟩ = some (.slice As f0.length cs) := (blk_cell BQ.out 0).trans rfl
      have z1 : w3.cell? ⟨q, 1, none⟩ = some (.int .i64 f1) := (blk_cell BQ.out 1).trans rfl
      have z2 : w3.cell? ⟨q, 2, none⟩ = some (.int .i64 f2) := (blk_cell BQ.out 2).trans rfl
      by_cases c1 : (f0.length : Int) > most - ((al.length : Int) - ((window ahead).length : Nat))
      · have hR : R = (32, al) := by rw [HRr.out, HD.out, playL, if_pos c1]
        have hD : D = ([], 32) := by rw [HE.out, hR]; rfl
        rw [if_pos c1] at HC1
        have HD2 := Aside0.mk hD
        clear hR hD c1
        go_wp2_with (go_at_call 71; refine HC1.out.mono ?_; rintro e w4 ⟨rfl, k4, rfl⟩)
        go_ret2
        rw [HD2.out]
        exact ⟨none, 0, rfl, own_nil _ _ _ _, (HI1.out.keep (Fr.drewN k4 _)).B⟩
      rw [if_neg c1] at HC1
      have c1' : (f0.length : Int) ≤ most - ((al.length : Int) - ((window ahead).length : Nat)) := by omega
      have HP1 := Aside0.mk (show R = if f1 = 0 then (0, al ++ f0) else if f1 > ((al ++ f0).length : Int) then (30, al ++ f0) else if f2 > most - (((al ++ f0).length : Int) - ((window ahead).length : Nat)) then (32, al ++ f0) else playL (window ahead).length most (l.drop (i + 1)) (copied f1.toNat f2.toNat (al ++ f0)) by rw [HRr.out, HD.out, playL, if_neg c1])
      clear c1
      go_upto_region 10 with (go_at_call 71; refine HC1.out.mono ?_; rintro e w4 ⟨rfl, k4, rfl⟩)
      have HI2 := Aside0.mk (HI1.out.keep (Fr.drewN k4 _))
      have BQ2 := Aside0.mk (show (w3.drewN k4).heap[q]? = some (.cells #[.slice As f0.length cs, .int .i64 f1, .int .i64 f2] 44 (0, 0)) from BQ.out)
      generalize w3.drewN k4 = w4 at HI2 BQ2 ⊢
      clear z0 z1 z2 BQ HI1 HC1
      obtain ⟨Av, cv, rfl, hrv, hcv⟩ := own_reads' HI2.out.p.o
      have HN := Aside0.mk (show ((window ahead).length : Int) ≤ ((al ++ f0).length : Int) ∧ ((al ++ f0).length : Int) - ((window ahead).length : Nat) ≤ most by rw [List.length_append]; omega)
      have hcap : (al.length + f0.length) * 1 ≤ 140737488355328 := by omega
      have HId := Aside0.mk (HI2.out.keep (Fr.drew _))
      have HRd := Aside0.mk (show ReadsInt w4.drew .u8 As f0.length f0 from (HRS.out.below HId.out.B))
      have xg := (HId.out.p.d.at 0 _ rfl).1
      have zg := blk_frozen HId.out.p.d 0
      have BQd := Aside0.mk (show w4.drew.heap[q]? = some (.cells #[.slice As f0.length cs, .int .i64 f1, .int .i64 f2] 44 (0, 0)) from BQ2.out)
      have xq : w4.drew.cell? ⟨q, 0, none⟩ = some (.slice As f0.length cs) := (blk_cell BQd.out 0).trans rfl
      clear hrv hcv BQ2 HI2
      refine start_ (n := 11) (S := fun w' => w'.cell? ⟨g, 0, none⟩ = some (.slice Av al.length cv) ∧ w'.cell? ⟨q, 0, none⟩ = some (.slice As f0.length cs)) (ds := [10]) #[false, false, false, false, false, false, false, false, false, false, false] (by kernel_rfl) rfl rfl ⟨xg, xq⟩ (fun hHeld => ?_)
      generalize w4.drew = wd at HId HRd BQd xg xq zg hHeld ⊢
      refine pure_ (i := 0) (N := some 42) (v := ?_) (a' := ?_) #[true, false, false, false, false, false, false, false, false, false, false] rfl rfl (by kernel_rfl) (fun _ _ _ h => h) (Or.inl ⟨by rfl, ?_⟩) ?_ ?_
      rotate_left
      · intro w'
        go_simp
        with_reducible rfl
      rotate_left
      · simp only [Act.put, List.setIfInBounds_toArray, List.set_cons_zero, List.set_cons_succ, i64_w, i32_w]
        rfl
      refine pure_ (i := 1) (N := some 43) (v := ?_) (a' := ?_) #[true, true, false, false, false, false, false, false, false, false, false] rfl rfl (by kernel_rfl) (fun _ _ _ h => h) (Or.inl ⟨by rfl, ?_⟩) ?_ ?_
      rotate_left
      · intro w'
        go_simp
        with_reducible rfl
      rotate_left
      · simp only [Act.put, List.setIfInBounds_toArray, List.set_cons_zero, List.set_cons_succ, i64_w, i32_w]
        rfl
      refine pure_ (i := 2) (N := some 44) (v := ?_) (a' := ?_) #[true, true, true, false, false, false, false, false, false, false, false] rfl rfl (by kernel_rfl) (fun _ _ _ h => h) (Or.inl ⟨by rfl, ?_⟩) ?_ ?_
      rotate_left
      · intro w'
        go_simp
        with_reducible rfl
      rotate_left
      · simp only [Act.put, List.setIfInBounds_toArray, List.set_cons_zero, List.set_cons_succ, i64_w, i32_w]
        rfl
      refine pure_ (i := 3) (N := some 45) (v := ?_) (a' := ?_) #[true, true, true, true, false, false, false, false, false, false, false] rfl rfl (by kernel_rfl) (fun _ _ _ h => h) (Or.inl ⟨by rfl, ?_⟩) ?_ ?_
      rotate_left
      · intro w'
        go_simp
        with_reducible rfl
      rotate_left
      · simp only [Act.put, List.setIfInBounds_toArray, List.set_cons_zero, List.set_cons_succ, i64_w, i32_w]
        rfl
      refine pure_ (i := 5) (N := some 47) (v := ?_) (a' := ?_) #[true, true, true, true, false, true, false, false, false, false, false] rfl rfl (by kernel_rfl) (fun _ _ _ h => h) (Or.inl ⟨by rfl, ?_⟩) ?_ ?_
      rotate_left
      · intro w'
        go_simp
        with_reducible rfl
      rotate_left
      · simp only [Act.put, List.setIfInBounds_toArray, List.set_cons_zero, List.set_cons_succ, i64_w, i32_w]
        rfl
      refine take_ (i := 4) (N := some 46) (v := ?_) (a' := ?_) #[true, true, true, true, true, true, false, false, false, false, false] rfl rfl (by kernel_rfl) (fun _ _ _ h => h) (Or.inl ⟨by rfl, ?_⟩) hHeld ?_ ?_
      rotate_left
      · rintro w' ⟨s0, s1⟩
        go_simp
        with_reducible rfl
      rotate_left
      · simp only [Act.put, List.setIfInBounds_toArray, List.set_cons_zero, List.set_cons_succ, i64_w, i32_w]
        rfl
      refine take_ (i := 6) (N := some 48) (v := ?_) (a' := ?_) #[true, true, true, true, true, true, true, false, false, false, false] rfl rfl (by kernel_rfl) (fun _ _ _ h => h) (Or.inl ⟨by rfl, ?_⟩) hHeld ?_ ?_
      rotate_left
      · rintro w' ⟨s0, s1⟩
        go_simp
        with_reducible rfl
      rotate_left
      · simp only [Act.put, List.setIfInBounds_toArray, List.set_cons_zero, List.set_cons_succ, i64_w, i32_w]
        rfl
      refine one_ (i := 7) (N := some 49) #[true, true, true, true, true, true, true, true, false, false, false] rfl rfl (by kernel_rfl) (by decide) (fun K hK => ?_)
      refine app_step (w0 := wd) w.heap.size (by rfl) (.tmp 46) (.tmp 48) 22 5 .u8 1 rfl Try.underlying22 info5 (by decide) _ al f0 As f0.length cs rfl rfl HId.out.p.o HRd.out (Below.refl _ _) HId.out.B.size hcap ?_
      intro v5 w5 hO hBl hG hA
      obtain ⟨L5, eL5⟩ : ∃ L5, L5 = al ++ f0 := ⟨_, rfl⟩
      rw [← eL5] at hO
      have HL5 := Aside0.mk eL5
      clear eL5
      obtain ⟨A5, c5, rfl, hr5, hc5⟩ := own_reads' hO
      have HO5 := Aside0.mk hO
      have HD5 := Aside0.mk (show IsP w5 g _ ((window ahead).length : Nat) most from blk_grown HId.out.p.d hG (own_ne HId.out.p.o HId.out.p.d (by decide)))
      have HG5 := Aside0.mk hG
      have x5 := (HD5.out.at 0 _ rfl).1
      have z5 := blk_frozen HD5.out 0
      have BQ5 := Aside0.mk (blk_grown BQd.out hG (own_ne HId.out.p.o BQd.out (by decide)))
      have y5 : w5.cell? ⟨q, 0, none⟩ = some (.slice As f0.length cs) := (blk_cell BQ5.out 0).trans rfl
      clear hO hBl hG hA hr5 hc5
      refine hK.out _ _ ⟨x5, y5⟩ (fun hHeld => ?_)
      clear hK K
      refine norm_ (a' := ?_) ?_ ?_
      rotate_left
      · show Act.put _ (some 49) _ = _
        simp only [Act.put, List.setIfInBounds_toArray, List.set_cons_zero, List.set_cons_succ, i64_w, i32_w]
        rfl
      refine pure_ (i := 8) (N := some 50) (v := ?_) (a' := ?_) #[true, true, true, true, true, true, true, true, true, false, false] rfl rfl (by kernel_rfl) (fun _ _ _ h => h) (Or.inl ⟨by rfl, ?_⟩) ?_ ?_
      rotate_left
      · intro w'
        go_simp
        with_reducible rfl
      rotate_left
      · simp only [Act.put, List.setIfInBounds_toArray, List.set_cons_zero, List.set_cons_succ, i64_w, i32_w]
        rfl
      refine pure_ (i := 9) (N := some 51) (v := ?_) (a' := ?_) #[true, true, true, true, true, true, true, true, true, true, false] rfl rfl (by kernel_rfl) (fun _ _ _ h => h) (Or.inl ⟨by rfl, ?_⟩) ?_ ?_
      rotate_left
      · intro w'
        go_simp
        with_reducible rfl
      rotate_left
      · simp only [Act.put, List.setIfInBounds_toArray, List.set_cons_zero, List.set_cons_succ, i64_w, i32_w]
        rfl
      refine last_ (i := 10) (N := none) #[true, true, true, true, true, true, true, true, true, true, true] rfl rfl (by kernel_rfl) (by decide) (fun K hK => ?_)
      refine skip_ (w1 := ?_) (by rfl) rfl ?_ ?_
      rotate_left
      · go_simp
        rfl
      refine hK.out _ _ ?_
      clear hK K
      refine done_ (by kernel_rfl) ?_
      go_upto_region 11 with fail
      have f2' : Fr wd (w5.setCell ⟨g, 0, none⟩ (.slice A5 L5.length c5)) (fun i => i ≠ g ∧ some i ≠ (Value.slice Av al.length cv).ownBlock) :=
        ((Fr.of_grown HG5.out).mono (ok' := fun i => i ≠ g ∧ some i ≠ (Value.slice Av al.length cv).ownBlock) (fun _ _ h => h.2)).then' (Fr.set ⟨g, 0, none⟩ _) (fun i _ h => h.1)
      have HI6 := Aside0.mk (HId.out.upd ⟨blk_set HD5.out 0 _, own_setCell (p := ⟨g, 0, none⟩) HO5.out (own_ne HO5.out (show w5.heap[g]? = some (.cells _ 105 (0, 0)) from HD5.out) (by decide)) _⟩ f2' (by rw [HL5.out]; exact HN.out.1) (by rw [HL5.out]; exact HN.out.2))
      have BQ6 := Aside0.mk (blk_far BQ5.out (p := ⟨g, 0, none⟩) (blk_ne BQ5.out (show w5.heap[g]? = some (.cells _ 105 (0, 0)) from HD5.out) (by decide)) (.slice A5 L5.length c5))
      clear x5 z5 y5 f2'
      generalize w5.setCell ⟨g, 0, none⟩ (.slice A5 L5.length c5) = w6 at HI6 BQ6 ⊢
      rw [← HL5.out] at HP1
      have hlen6 := HI6.out.len
      have hsz6 := HI6.out.sz
      have hbg6 := HI6.out.b1
      clear BQd HId HRd HO5 HD5 HG5 BQ5
      have z1 : w6.cell? ⟨q, 1, none⟩ = some (.int .i64 f1) := (blk_cell BQ6.out 1).trans rfl
      have z2 : w6.cell? ⟨q, 2, none⟩ = some (.int .i64 f2) := (blk_cell BQ6.out 2).trans rfl
      by_cases c2 : f1 = 0
      · have hR : R = (0, L5) := by rw [HP1.out, if_pos c2]
        have c2' : (f1 == 0) = true := by rw [c2]; rfl
        have hD : D = (L5.drop (window ahead).length, 0) := by rw [HE.out, hR]; rfl
        have HPl := Aside0.mk (plain_calls g w.heap.size L5 (.slice A5 L5.length c5) (window ahead).length most w6 HI6.out.p (by omega) (by omega))
        obtain ⟨xs, hxs⟩ : ∃ xs, xs = L5.drop (window ahead).length := ⟨_, rfl⟩
        rw [← hxs] at hD HPl
        have HD2 := Aside0.mk hD
        clear hR hD hxs c2
        go_wp2_with (go_at_call 74; refine HPl.out.mono ?_; rintro e w7 ⟨A7, c7, rfl, ho7, hb7⟩; have HO7 := Aside0.mk ho7; have HB7 := Aside0.mk hb7; clear ho7 hb7)
        go_ret2
        rw [HD2.out]
        exact ⟨A7, c7, rfl, own_lower HO7.out HI6.out.B.size, below_step HI6.out.B HB7.out⟩
      have hni : i + 1 < l.length := by
        rcases Nat.lt_or_ge (i + 1) l.length with h | h
        · exact h
        · exact absurd (HF.out.1 (by omega)).1 c2
      have hf1 := HF.out.2 hni
      have c2' : (f1 == 0) = false := by simpa using c2
      have HP2 := Aside0.mk (show R = if f1 > (L5.length : Int) then (30, L5) else if f2 > most - ((L5.length : Int) - ((window ahead).length : Nat)) then (32, L5) else playL (window ahead).length most (l.drop (i + 1)) (copied f1.toNat f2.toNat L5) by rw [HP1.out, if_neg c2])
      clear HP1 c2
      have HC2 := Aside0.mk (reaches_calls g w.heap.size L5 (.slice A5 L5.length c5) (window ahead).length most f1 w6 HI6.out.p)
      by_cases c3 : f1 > (L5.length : Int)
      · have hR : R = (30, L5) := by rw [HP2.out, if_pos c3]
        have hD : D = ([], 30) := by rw [HE.out, hR]; rfl
        rw [if_pos c3] at HC2
        have HD2 := Aside0.mk hD
        clear hR hD c3
        go_wp2_with (go_at_call 72; refine HC2.out.mono ?_; rintro e w7 ⟨rfl, e7⟩; subst e7)
        go_ret2
        rw [HD2.out]
        exact ⟨none, 0, rfl, own_nil _ _ _ _, HI6.out.B⟩
      rw [if_neg c3] at HC2
      have c3' : f1 ≤ (L5.length : Int) := by omega
      have HP3 := Aside0.mk (show R = if f2 > most - ((L5.length : Int) - ((window ahead).length : Nat)) then (32, L5) else playL (window ahead).length most (l.drop (i + 1)) (copied f1.toNat f2.toNat L5) by rw [HP2.out, if_neg c3])
      clear HP2 c3
      have HC3 := Aside0.mk (room_calls g w.heap.size L5 (.slice A5 L5.length c5) (window ahead).length most f2 w6 HI6.out.p ⟨by omega, by omega⟩ ⟨by omega, by omega⟩ (by omega))
      by_cases c4 : f2 > most - ((L5.length : Int) - ((window ahead).length : Nat))
      · have hR : R = (32, L5) := by rw [HP3.out, if_pos c4]
        have hD : D = ([], 32) := by rw [HE.out, hR]; rfl
        rw [if_pos c4] at HC3
        have HD2 := Aside0.mk hD
        clear hR hD c4
        go_wp2_with (first | (go_at_call 72; refine HC2.out.mono ?_; rintro e w7 ⟨rfl, e7⟩; subst e7) | (go_at_call 71; refine HC3.out.mono ?_; rintro e w8 ⟨rfl, k8, rfl⟩))
        go_ret2
        rw [HD2.out]
        exact ⟨none, 0, rfl, own_nil _ _ _ _, (HI6.out.keep (Fr.drewN k8 _)).B⟩
      rw [if_neg c4] at HC3
      have hR : R = playL (window ahead).length most (l.drop (i + 1)) (copied f1.toNat f2.toNat L5) := by rw [HP3.out, if_neg c4]
      have HP4 := Aside0.mk hR
      obtain ⟨bk, rfl⟩ := Int.eq_ofNat_of_zero_le (show 0 ≤ f1 by omega)
      obtain ⟨n2, rfl⟩ := Int.eq_ofNat_of_zero_le (show 0 ≤ f2 by omega)
      rw [Int.toNat_natCast, Int.toNat_natCast] at HP4
      have HN4 := Aside0.mk (show ((window ahead).length : Int) ≤ ((copied bk n2 L5).length : Int) ∧ ((copied bk n2 L5).length : Int) - ((window ahead).length : Nat) ≤ most by rw [copied_len]; omega)
      have HK := Aside0.mk (show ∀ m, Calls Try.prog 73 #[.pointer (some ⟨g, 0, none⟩), .int .i64 bk, .int .i64 n2] (w6.drewN m) _ from fun m => copies_calls g w.heap.size bk n2 L5 (.slice A5 L5.length c5) (window ahead).length most (w6.drewN m) (HI6.out.keep (Fr.drewN m _)).p HI6.out.B.size (by omega) (by omega) (by omega))
      clear HP3 c4 hR
      go_upto_region 18 with (first | (go_at_call 72; refine HC2.out.mono ?_; rintro e w7 ⟨rfl, e7⟩; subst w7) | (go_at_call 71; refine HC3.out.mono ?_; rintro e w8 ⟨rfl, k8, rfl⟩; have z1 : (w6.drewN k8).cell? ⟨q, 1, none⟩ = some (.int .i64 bk) := z1; have z2 : (w6.drewN k8).cell? ⟨q, 2, none⟩ = some (.int .i64 n2) := z2))
      go_wp2_with (go_at_call 73; refine (HK.out _).mono ?_; rintro e w9 ⟨rfl, va', hp, hm, hf⟩; have HP9 := Aside0.mk hp; have HF9 := Aside0.mk hf; clear hp hm hf)
      go_roundg k1
      case measure => omega
      case rel => exact ⟨i + 1, copied bk n2 L5, va', by omega, by omega, by simp, HP4, ⟨(HI6.out.keep (Fr.drewN k8 _)).upd HP9.out HF9.out HN4.out.1 HN4.out.2⟩⟩
end Go.Proofs.Ytnomebkdhjigjaa.W
