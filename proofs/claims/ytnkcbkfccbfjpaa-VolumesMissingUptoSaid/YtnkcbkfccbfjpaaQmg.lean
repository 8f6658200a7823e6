/- Contracts and plain facts (texts of mine, and printed ones, made one; what nothing leads to is left out). -/

import Derived.Test.YtnkcbkfccbfjpaaQmf
/- The walk of a law (most of it printed by a program of the kit's). -/
namespace Go.Proofs.Ytnkcbkfccbfjpaa.SVolumesMissing
open Go.RowKit Go.Proofs.YtnkcbkfccbfjpaaW.PrintWords Go.Proofs.YtnkcbkfccbfjpaaW.PrintLast Go.Proofs.YtnkcbkfccbfjpaaW.PrintMore
open Go.Proofs.Ytnkcbkfccbfjpaa.QVolumesCuts
open Go.Proofs.Ytnkcbkfccbfjpaa.Z
open Go.Proofs.Ytnkcbkfccbfjpaa.RSizesRanges hiding errW errW_none errW_some
attribute [local go_sem] max2_int min2_int max_two min_two max_three min_three max_four min_four   -- for this text's walks alone
set_option linter.unusedVariables false
set_option linter.unusedSimpArgs false

set_option maxHeartbeats 8000000 in
set_option maxRecDepth 100000 in
theorem satchellaw27_VolumesMissing.calls (k : Nat) (A0_0 : Option Addr) (c0_0 : Nat) (l0_0 : List Int) (a0_1 : Int) (a0_2 : Int) (a0_3 : Bool) (A1 : Option Addr) (c1 : Nat) (l1 : List Bool) (r : Bool) (w : World) (hr0_0 : Kd.C (Kd.int .u8) w A0_0 l0_0.length l0_0) (hc0_0 : l0_0.length ≤ c0_0) (hr1 : Kd.C Kd.bool w A1 l1.length l1) (hc1 : l1.length ≤ c1) (h : satchellaw27_VolumesMissing.f k l0_0 a0_1 a0_2 a0_3 l1 = some r) :
  Calls Try.prog 12 #[.agg #[.slice A0_0 l0_0.length c0_0, .int .i64 a0_1, .int .u64 a0_2, .bool a0_3], .slice A1 l1.length c1] w fun e w' => e = .returned (.bool r) ∧ Below w.heap.size w w' := by
 have hu25 := Try.underlying25
 have hu68 := Try.underlying68
 have HR0_0 := Aside0.mk hr0_0
 have HC0_0 := Aside0.mk hc0_0
 clear hr0_0 hc0_0
 have HR1 := Aside0.mk hr1
 have HC1 := Aside0.mk hc1
 clear hr1 hc1
 have HB := Aside0.mk (Below.refl w.heap.size w)
 have H : ((some (([] : List Int) : List Int)).bind fun y276 => (if y276.length + l0_0.length < 140737488355328 then ((volumes_Cut.f k (y276 ++ l0_0) a0_1 a0_2 a0_3).bind fun bt282 => (satchellaw27_VolumesMissing.l0 k l1 bt282.1 bt282.2 (([] : List (List Int))) 0 l0_0 a0_1 a0_2 a0_3)) else (none))) = some r := h
 clear h
 obtain ⟨y276, hy276⟩ : ∃ y_ : List Int, y_ = (([] : List Int)) := ⟨_, rfl⟩
 replace H : (if y276.length + l0_0.length < 140737488355328 then ((volumes_Cut.f k (y276 ++ l0_0) a0_1 a0_2 a0_3).bind fun bt282 => (satchellaw27_VolumesMissing.l0 k l1 bt282.1 bt282.2 (([] : List (List Int))) 0 l0_0 a0_1 a0_2 a0_3)) else (none)) = some r := by first | (rw [hy276]; with_reducible exact H) | (have H2_ := (Option.bind_some _ _).symm.trans H; rw [hy276]; with_reducible exact H2_) | (have H2_ := (Option.bind_some _ _).symm.trans H; with_reducible exact H2_) | with_reducible exact H | (rw [hy276]; exact H) | exact H
 have Ny276 := Aside0.mk hy276
 clear hy276
 by_cases c3 : y276.length + l0_0.length < 140737488355328
 ·
  rw [if_pos c3] at H
  have LMc3 := Aside0.mk c3
  clear c3
  obtain ⟨y279, hy279⟩ : ∃ y_ : List Int, y_ = (y276 ++ l0_0) := ⟨_, rfl⟩
  replace H : ((volumes_Cut.f k y279 a0_1 a0_2 a0_3).bind fun bt282 => (satchellaw27_VolumesMissing.l0 k l1 bt282.1 bt282.2 (([] : List (List Int))) 0 l0_0 a0_1 a0_2 a0_3)) = some r := by first | (rw [hy279]; with_reducible exact H) | (have H2_ := (Option.bind_some _ _).symm.trans H; rw [hy279]; with_reducible exact H2_) | (have H2_ := (Option.bind_some _ _).symm.trans H; with_reducible exact H2_) | with_reducible exact H | (rw [hy279]; exact H) | exact H
  have Ny279 := Aside0.mk hy279
  clear hy279
  replace H := Option.bind_eq_some_iff.mp H
  obtain ⟨⟨t282, t283⟩, A40, H⟩ := H
  replace H : (satchellaw27_VolumesMissing.l0 k l1 t282 t283 (([] : List (List Int))) 0 l0_0 a0_1 a0_2 a0_3) = some r := H
  have A4 := Aside0.mk A40
  clear A40
  obtain ⟨y286, hy286⟩ : ∃ y_ : List (List Int), y_ = (([] : List (List Int))) := ⟨_, rfl⟩
  replace H : (satchellaw27_VolumesMissing.l0 k l1 t282 t283 y286 0 l0_0 a0_1 a0_2 a0_3) = some r := by first | (rw [hy286]; with_reducible exact H) | (have H2_ := (Option.bind_some _ _).symm.trans H; rw [hy286]; with_reducible exact H2_) | (have H2_ := (Option.bind_some _ _).symm.trans H; with_reducible exact H2_) | with_reducible exact H | (rw [hy286]; exact H) | exact H
  have Ny286 := Aside0.mk hy286
  clear hy286
  have H' := Aside0.mk H
  clear H
  go_enter Try.func12, Try.ntmps12
  try go_wp2_with (first | ((with_reducible refine gate_dst (N := 2) rfl ?_); (try (refine gate_guard (by rfl) ?_; dsimp only)); refine box_event ?hg (N := 2) ?hd (cs := #[.slice A0_0 l0_0.length c0_0, .int .i64 a0_1, .int .u64 a0_2, .bool a0_3]) (t := 25) ?hr ?_; (case hd => rfl); (case hg => rfl); (case hr => first | (go_simp; done) | (go_simp; rfl)); intro gb275 hg w5 hbox hb; have n0_ := Aside0.mk (below_step (by repeat (first | (with_reducible first | exact HB.out | apply below_alloc | apply pw_below_drewN | apply below_drew1) | exact HB.out)) hb); have n1_ := Aside0.mk (hbox); have n2_ := Aside0.mk ((by rw [hg]; exact (below_size (by repeat (first | (with_reducible first | exact HB.out | apply below_alloc | apply pw_below_drewN | apply below_drew1) | exact HB.out))) : w.heap.size ≤ gb275)); have n3_ := Aside0.mk ((by rw [hg]; exact (below_size (by repeat (first | (with_reducible first | exact HB.out | apply below_alloc | apply pw_below_drewN | apply below_drew1) | exact HB.out))) : w.heap.size ≤ gb275)); clear HB; have HB := n0_; have BK275 := n1_; have GW275 := n2_; have GE275 := n3_; clear n0_ n1_ n2_ n3_; clear hb hbox hg))
  have n0_ := Aside0.mk (blk_drew BK275.out)
  have n1_ := Aside0.mk (below_drew1 HB.out)
  clear BK275
  clear HB
  have BK275 := n0_
  have HB := n1_
  clear n0_ n1_
  refine start_ (n := 16) (S := fun w' => w'.cell? ⟨gb275, 0, none⟩ = some (.slice A0_0 l0_0.length c0_0) ∧ w'.cell? ⟨gb275, 1, none⟩ = some (.int .i64 a0_1) ∧ w'.cell? ⟨gb275, 2, none⟩ = some (.int .u64 a0_2) ∧ w'.cell? ⟨gb275, 3, none⟩ = some (.bool a0_3)) (ds := []) #[false, false, false, false, false, false, false, false, false, false, false, false, false, false, false, false] (by kernel_rfl) rfl rfl ⟨(blk_cell BK275.out 0).trans rfl, (blk_cell BK275.out 1).trans rfl, (blk_cell BK275.out 2).trans rfl, (blk_cell BK275.out 3).trans rfl⟩ (fun hHeld => ?_); refine with_tabW satchellaw27_VolumesMissing.tab1 satchellaw27_VolumesMissing.bits1 (fun HT_ HW_ => ?_)
  generalize w5.drew = w6 at BK275 HB hHeld ⊢
  refine pure_ (i := 1) (N := some 22) (v := ?_) (a' := ?_) #[false, true, false, false, false, false, false, false, false, false, false, false, false, false, false, false] rfl rfl (any_of HT_.out (by kernel_rfl)) (fun _ _ _ h => h) (Or.inl ⟨by rfl, ?_⟩) ?_ ?_
  rotate_left
  ·
   intro w'
   go_simp
   with_reducible rfl
  rotate_left
  ·
   simp only [Act.put, List.setIfInBounds_toArray, List.set_cons_zero, List.set_cons_succ, i64_w, i32_w]
   rfl
  refine pure_ (i := 4) (N := some 25) (v := ?_) (a' := ?_) #[false, true, false, false, true, false, false, false, false, false, false, false, false, false, false, false] rfl rfl (any_of HT_.out (by kernel_rfl)) (fun _ _ _ h => h) (Or.inl ⟨by rfl, ?_⟩) ?_ ?_
  rotate_left
  ·
   intro w'
   go_simp
   with_reducible rfl
  rotate_left
  ·
   simp only [Act.put, List.setIfInBounds_toArray, List.set_cons_zero, List.set_cons_succ, i64_w, i32_w]
   rfl
  refine pure_ (i := 6) (N := some 27) (v := ?_) (a' := ?_) #[false, true, false, false, true, false, true, false, false, false, false, false, false, false, false, false] rfl rfl (any_of HT_.out (by kernel_rfl)) (fun _ _ _ h => h) (Or.inl ⟨by rfl, ?_⟩) ?_ ?_
  rotate_left
  ·
   intro w'
   go_simp
   with_reducible rfl
  rotate_left
  ·
   simp only [Act.put, List.setIfInBounds_toArray, List.set_cons_zero, List.set_cons_succ, i64_w, i32_w]
   rfl
  refine pure_ (i := 8) (N := some 29) (v := ?_) (a' := ?_) #[false, true, false, false, true, false, true, false, true, false, false, false, false, false, false, false] rfl rfl (any_of HT_.out (by kernel_rfl)) (fun _ _ _ h => h) (Or.inl ⟨by rfl, ?_⟩) ?_ ?_
  rotate_left
  ·
   intro w'
   go_simp
   with_reducible rfl
  rotate_left
  ·
   simp only [Act.put, List.setIfInBounds_toArray, List.set_cons_zero, List.set_cons_succ, i64_w, i32_w]
   rfl
  refine take_ (i := 2) (N := some 23) (v := ?_) (a' := ?_) #[false, true, true, false, true, false, true, false, true, false, false, false, false, false, false, false] rfl rfl (take_ofW HT_.out HW_.out (by kernel_rfl)) (fun _ _ _ h => h) (Or.inl ⟨by rfl, ?_⟩) hHeld ?_ ?_
  rotate_left
  ·
   rintro w' ⟨s0, s1, s2, s3⟩
   go_simp
   with_reducible rfl
  rotate_left
  ·
   simp only [Act.put, List.setIfInBounds_toArray, List.set_cons_zero, List.set_cons_succ, i64_w, i32_w]
   rfl
  refine take_ (i := 5) (N := some 26) (v := ?_) (a' := ?_) #[false, true, true, false, true, true, true, false, true, false, false, false, false, false, false, false] rfl rfl (take_ofW HT_.out HW_.out (by kernel_rfl)) (fun _ _ _ h => h) (Or.inl ⟨by rfl, ?_⟩) hHeld ?_ ?_
  rotate_left
  ·
   rintro w' ⟨s0, s1, s2, s3⟩
   go_simp
   with_reducible rfl
  rotate_left
  ·
   simp only [Act.put, List.setIfInBounds_toArray, List.set_cons_zero, List.set_cons_succ, i64_w, i32_w]
   rfl
  refine take_ (i := 7) (N := some 28) (v := ?_) (a' := ?_) #[false, true, true, false, true, true, true, true, true, false, false, false, false, false, false, false] rfl rfl (take_ofW HT_.out HW_.out (by kernel_rfl)) (fun _ _ _ h => h) (Or.inl ⟨by rfl, ?_⟩) hHeld ?_ ?_
  rotate_left
  ·
   rintro w' ⟨s0, s1, s2, s3⟩
   go_simp
   with_reducible rfl
  rotate_left
  ·
   simp only [Act.put, List.setIfInBounds_toArray, List.set_cons_zero, List.set_cons_succ, i64_w, i32_w]
   rfl
  refine take_ (i := 9) (N := some 30) (v := ?_) (a' := ?_) #[false, true, true, false, true, true, true, true, true, true, false, false, false, false, false, false] rfl rfl (take_ofW HT_.out HW_.out (by kernel_rfl)) (fun _ _ _ h => h) (Or.inl ⟨by rfl, ?_⟩) hHeld ?_ ?_
  rotate_left
  ·
   rintro w' ⟨s0, s1, s2, s3⟩
   go_simp
   with_reducible rfl
  rotate_left
  ·
   simp only [Act.put, List.setIfInBounds_toArray, List.set_cons_zero, List.set_cons_succ, i64_w, i32_w]
   rfl
  refine one_ (i := 0) (N := some 21) #[true, true, true, false, true, true, true, true, true, true, false, false, false, false, false, false] rfl rfl (one_of HT_.out (by kernel_rfl)) (by decide) (fun K hK => ?_)
  refine Kd.R_lit_step (Kd.int .u8) _ 5 ?hg (N := 21) ?hd (xs := ([] : List Int)) (inner := []) (ok := fun _ => True) (okp := fun _ => True) ?hr ?hp (fun _ hk => hk) trivial (Below.refl _ _) (Nat.le_refl _) (by simp) ?_; (case hd => rfl); (case hg => rfl); (case hr => first | (go_simp; done) | (go_simp; rfl)); (case hp => exact (Reps.none _ _))
  intro v277 w7 ho8 hb hg_ hnew_
  clear hg_ hnew_
  (first | rw [← Ny276.out] at ho8 | (simp only [Int.reduceToNat] at ho8; rw [← Ny276.out] at ho8))
  have n0_ := Aside0.mk (Kd.R_lower ho8 (below_size (by repeat (first | (with_reducible first | exact HB.out | apply below_alloc | apply pw_below_drewN | apply below_drew1 | refine below_set ?_ GE275.out) | exact HB.out))))
  have n1_ := Aside0.mk (blk_below (g := gb275) (o := .cells #[.slice A0_0 l0_0.length c0_0, .int .i64 a0_1, .int .u64 a0_2, .bool a0_3] 25 (0, 0)) (by (with_reducible repeat (first | refine blk_drewN ?_ _ | refine blk_drew ?_ | refine blk_alloc ?_ _)); exact BK275.out) hb)
  have n2_ := Aside0.mk (below_step (by repeat (first | (with_reducible first | exact HB.out | apply below_alloc | apply pw_below_drewN | apply below_drew1 | refine below_set ?_ GE275.out) | exact HB.out)) hb)
  clear BK275
  clear HB
  have HO278 := n0_
  have BK275 := n1_
  have HB := n2_
  clear n0_ n1_ n2_
  clear hb ho8
  refine hK.out _ _ ⟨(blk_cell BK275.out 0).trans rfl, (blk_cell BK275.out 1).trans rfl, (blk_cell BK275.out 2).trans rfl, (blk_cell BK275.out 3).trans rfl⟩ (fun hHeld => ?_)
  clear hK K
  refine norm_ (a' := ?_) ?_ ?_
  rotate_left
  ·
   show Act.put _ (some 21) _ = _
   simp only [Act.put, List.setIfInBounds_toArray, List.set_cons_zero, List.set_cons_succ, i64_w, i32_w]
   rfl
  refine one_ (i := 3) (N := some 24) #[true, true, true, true, true, true, true, true, true, true, false, false, false, false, false, false] rfl rfl (one_of HT_.out (by kernel_rfl)) (by decide) (fun K hK => ?_)
  refine Kd.R_append_rows_step (Kd.int .u8) (w0 := w) w.heap.size (by rfl) (.tmp 21) (.tmp 23) 22 5 (.int .u8 0) 1 rfl Try.underlying22 info5 rfl (by decide) (by omega) v277 y276 l0_0 _ _ _ (fun _ => True) (fun _ => False) rfl rfl ?aO ?aR (fun _ _ h => h) (fun _ h => h.elim) ?aF ?aB ?aS ?aL ?_
  (case aR => repeat (first | exact (Kd.C_below HR0_0.out HB.out) | (with_reducible refine Kd.C_alloc ?_ _) | (with_reducible refine Kd.C_drewN ?_ _) | (with_reducible refine Kd.C_drew ?_)))
  (case aB => exact (by repeat (first | (with_reducible first | exact HB.out | apply below_alloc | apply pw_below_drewN | apply below_drew1 | refine below_set ?_ GE275.out) | exact HB.out)))
  (case aF => exact (fun _ _ => trivial))
  (case aO => exact (by (with_reducible repeat (first | apply Kd.R_alloc | apply Kd.R_drewN | apply Kd.R_drew)); exact HO278.out))
  (case aS => exact (below_size (by repeat (first | (with_reducible first | exact HB.out | apply below_alloc | apply pw_below_drewN | apply below_drew1 | refine below_set ?_ GE275.out) | exact HB.out))))
  (case aL => have := LMc3.out; omega)
  intro v280 w9 ho hb hg hat
  rw [← Ny279.out] at ho
  have n0_ := Aside0.mk (blk_grown (g := gb275) (o := .cells #[.slice A0_0 l0_0.length c0_0, .int .i64 a0_1, .int .u64 a0_2, .bool a0_3] 25 (0, 0)) (by (with_reducible repeat (first | refine blk_drewN ?_ _ | refine blk_drew ?_ | refine blk_alloc ?_ _)); exact BK275.out) hg (Kd.R_ne HO278.out BK275.out (by decide)))
  have n1_ := Aside0.mk (hb)
  have n2_ := Aside0.mk (ho)
  clear BK275
  clear HB
  clear HO278
  have BK275 := n0_
  have HB := n1_
  have HO281 := n2_
  clear n0_ n1_ n2_
  clear ho hb hg hat
  obtain ⟨Ao10, co10, eo10⟩ := Kd.R_slice HO281.out
  (first | subst eo10 | (injection eo10 with f1_ f2_ f3_; have f4_ := f1_.symm; have f5_ := f3_.symm; clear f1_ f2_ f3_; subst f4_; subst f5_))
  refine hK.out _ _ ⟨(blk_cell BK275.out 0).trans rfl, (blk_cell BK275.out 1).trans rfl, (blk_cell BK275.out 2).trans rfl, (blk_cell BK275.out 3).trans rfl⟩ (fun hHeld => ?_)
  clear hK K
  refine norm_ (a' := ?_) ?_ ?_
  rotate_left
  ·
   show Act.put _ (some 24) _ = _
   simp only [Act.put, List.setIfInBounds_toArray, List.set_cons_zero, List.set_cons_succ, i64_w, i32_w]
   rfl
  refine one_ (i := 10) (N := some 31) #[true, true, true, true, true, true, true, true, true, true, true, false, false, false, false, false] rfl rfl (one_of HT_.out (by kernel_rfl)) (by decide) (fun K hK => ?_)
  refine goes_ Try.func15 (by kernel_rfl) rfl #[.slice Ao10 y279.length co10, .int .i64 a0_1, .int .u64 a0_2, .bool a0_3] (by rfl) rfl rfl (by (try simp only [List.map_toArray, List.map_cons, List.map_nil]); first | done | rfl | (simp only [List.length_drop, List.length_take]; rfl)) ?_
  with_reducible refine (volumes_Cut.calls k _ _ y279 a0_1 a0_2 a0_3 t282 t283 _ ?side1 ?side2 A4.out).mono ?_
  (case side1 => repeat (first | exact (Kd.R_reads' HO281.out).2.2 | (with_reducible refine Kd.C_alloc ?_ _) | (with_reducible refine Kd.C_drewN ?_ _) | (with_reducible refine Kd.C_drew ?_)))
  (case side2 => exact (Kd.R_reads' HO281.out).2.1)
  rintro e w11 ⟨v284, rfl, ho0, hb⟩
  refine ⟨_, rfl, ?_⟩
  have n0_ := Aside0.mk (Kd.R_below (by (with_reducible repeat (first | apply Kd.R_alloc | apply Kd.R_drewN | apply Kd.R_drew)); exact HO281.out) hb)
  have n1_ := Aside0.mk (Kd.N_lower (Kd.N_mono (ok' := fun k_ => some k_ ≠ (.slice Ao10 y279.length co10 : Value).ownBlock ∧ k_ ≠ gb275) (Kd.S_N (Kd.S_bound ho0)) (fun k_ hk_ => ⟨(Kd.fresh' (Kd.R_lt (by (with_reducible repeat (first | apply Kd.R_alloc | apply Kd.R_drewN | apply Kd.R_drew)); exact HO281.out)) k_ hk_.2.1), (Kd.freshB (g := gb275) (o := .cells #[.slice A0_0 l0_0.length c0_0, .int .i64 a0_1, .int .u64 a0_2, .bool a0_3] 25 (0, 0)) (by (with_reducible repeat (first | refine blk_drewN ?_ _ | refine blk_drew ?_ | refine blk_alloc ?_ _)); exact BK275.out) k_ hk_.2.1)⟩)) (below_size (by repeat (first | (with_reducible first | exact HB.out | apply below_alloc | apply pw_below_drewN | apply below_drew1 | refine below_set ?_ GE275.out) | exact HB.out))))
  have n2_ := Aside0.mk (blk_below (g := gb275) (o := .cells #[.slice A0_0 l0_0.length c0_0, .int .i64 a0_1, .int .u64 a0_2, .bool a0_3] 25 (0, 0)) (by (with_reducible repeat (first | refine blk_drewN ?_ _ | refine blk_drew ?_ | refine blk_alloc ?_ _)); exact BK275.out) hb)
  have n3_ := Aside0.mk (below_step (by repeat (first | (with_reducible first | exact HB.out | apply below_alloc | apply pw_below_drewN | apply below_drew1 | refine below_set ?_ GE275.out) | exact HB.out)) hb)
  clear HO281
  clear BK275
  clear HB
  have HO281 := n0_
  have HO285 := n1_
  have BK275 := n2_
  have HB := n3_
  clear n0_ n1_ n2_ n3_
  (try clear hb)
  (try clear hb2)
  (try clear hk)
  (try clear hi)
  (try clear ho0)
  refine hK.out _ _ ⟨(blk_cell BK275.out 0).trans rfl, (blk_cell BK275.out 1).trans rfl, (blk_cell BK275.out 2).trans rfl, (blk_cell BK275.out 3).trans rfl⟩ (fun hHeld => ?_)
  clear hK K
  refine norm_ (a' := ?_) ?_ ?_
  rotate_left
  ·
   show Act.put _ (some 31) _ = _
   simp only [Act.put, List.setIfInBounds_toArray, List.set_cons_zero, List.set_cons_succ, i64_w, i32_w]
   rfl
  refine pure_ (i := 11) (N := some 20) (v := ?_) (a' := ?_) #[true, true, true, true, true, true, true, true, true, true, true, true, false, false, false, false] rfl rfl (any_of HT_.out (by kernel_rfl)) (fun _ _ _ h => h) (Or.inl ⟨by rfl, ?_⟩) ?_ ?_
  rotate_left
  ·
   intro w'
   go_simp
   with_reducible rfl
  rotate_left
  ·
   simp only [Act.put, List.setIfInBounds_toArray, List.set_cons_zero, List.set_cons_succ, i64_w, i32_w]
   rfl
  refine pure_ (i := 12) (N := some 32) (v := ?_) (a' := ?_) #[true, true, true, true, true, true, true, true, true, true, true, true, true, false, false, false] rfl rfl (any_of HT_.out (by kernel_rfl)) (fun _ _ _ h => h) (Or.inl ⟨by rfl, ?_⟩) ?_ ?_
  rotate_left
  ·
   intro w'
   go_simp
   with_reducible rfl
  rotate_left
  ·
   simp only [Act.put, List.setIfInBounds_toArray, List.set_cons_zero, List.set_cons_succ, i64_w, i32_w]
   rfl
  refine pure_ (i := 13) (N := some 33) (v := ?_) (a' := ?_) #[true, true, true, true, true, true, true, true, true, true, true, true, true, true, false, false] rfl rfl (any_of HT_.out (by kernel_rfl)) (fun _ _ _ h => h) (Or.inl ⟨by rfl, ?_⟩) ?_ ?_
  rotate_left
  ·
   intro w'
   go_simp
   with_reducible rfl
  rotate_left
  ·
   simp only [Act.put, List.setIfInBounds_toArray, List.set_cons_zero, List.set_cons_succ, i64_w, i32_w]
   rfl
  refine pure_ (i := 14) (N := some 5) (v := ?_) (a' := ?_) #[true, true, true, true, true, true, true, true, true, true, true, true, true, true, true, false] rfl rfl (any_of HT_.out (by kernel_rfl)) (fun _ _ _ h => h) (Or.inl ⟨by rfl, ?_⟩) ?_ ?_
  rotate_left
  ·
   intro w'
   go_simp
   with_reducible rfl
  rotate_left
  ·
   simp only [Act.put, List.setIfInBounds_toArray, List.set_cons_zero, List.set_cons_succ, i64_w, i32_w]
   rfl
  refine pure_ (i := 15) (N := some 6) (v := ?_) (a' := ?_) #[true, true, true, true, true, true, true, true, true, true, true, true, true, true, true, true] rfl rfl (any_of HT_.out (by kernel_rfl)) (fun _ _ _ h => h) (Or.inl ⟨by rfl, ?_⟩) ?_ ?_
  rotate_left
  ·
   intro w'
   go_simp
   with_reducible rfl
  rotate_left
  ·
   simp only [Act.put, List.setIfInBounds_toArray, List.set_cons_zero, List.set_cons_succ, i64_w, i32_w]
   rfl
  refine done_ (done_of HT_.out (by kernel_rfl)) ?_
  try go_wp2_with (first | ((with_reducible refine gate_dst (N := 34) rfl ?_); (try (refine gate_guard (by rfl) ?_; dsimp only)); refine Kd.N_lit (Kd.slice 5 (Kd.int .u8)) _ 22 ?hg (N' := 34) ?hd (xs := ([] : List (List Int))) (inner := []) (ok := (fun k_ => some k_ ≠ (.slice Ao10 y279.length co10 : Value).ownBlock ∧ some k_ ≠ (v284 : Value).ownBlock ∧ k_ ≠ gb275)) (okp := (fun k_ => some k_ ≠ (.slice Ao10 y279.length co10 : Value).ownBlock ∧ some k_ ≠ (v284 : Value).ownBlock ∧ k_ ≠ gb275)) ?hr ?hp (fun _ hk => hk) ((show ∀ k_, w11.heap.size ≤ k_ → (fun k_ => some k_ ≠ (.slice Ao10 y279.length co10 : Value).ownBlock ∧ some k_ ≠ (v284 : Value).ownBlock ∧ k_ ≠ gb275) k_ from fun k_ hk => ⟨Kd.fresh' (Kd.R_lt (by (with_reducible repeat (first | apply Kd.R_alloc | apply Kd.R_drewN | apply Kd.R_drew)); exact HO281.out)) k_ hk, Kd.fresh' (Kd.N_lt (by (with_reducible repeat (first | apply Kd.N_alloc | apply Kd.N_drewN | apply Kd.N_drew)); exact HO285.out)) k_ hk, Kd.freshB (g := gb275) (o := .cells #[.slice A0_0 l0_0.length c0_0, .int .i64 a0_1, .int .u64 a0_2, .bool a0_3] 25 (0, 0)) (by (with_reducible repeat (first | refine blk_drewN ?_ _ | refine blk_drew ?_ | refine blk_alloc ?_ _)); exact BK275.out) k_ hk⟩) _ (Nat.le_refl _)) (Below.refl _ _) (Nat.le_refl _) (by simp) ?_; (case hd => rfl); (case hg => rfl); (case hr => first | (go_simp; done) | (go_simp; rfl)); (case hp => exact (Reps.none _ _)); intro v287 w12 ho13 hb hg_ hnew_; clear hg_ hnew_; (first | rw [← Ny286.out] at ho13 | (simp only [Int.reduceToNat] at ho13; rw [← Ny286.out] at ho13)); have n0_ := Aside0.mk (Kd.R_below (by (with_reducible repeat (first | apply Kd.R_alloc | apply Kd.R_drewN | apply Kd.R_drew)); exact HO281.out) hb); have n1_ := Aside0.mk (Kd.N_elder' (by (with_reducible repeat (first | apply Kd.N_alloc | apply Kd.N_drewN | apply Kd.N_drew)); exact HO285.out) (Kd.N_base ho13) hb); have n2_ := Aside0.mk (Kd.N_lower ho13 (below_size (by repeat (first | (with_reducible first | exact HB.out | apply below_alloc | apply pw_below_drewN | apply below_drew1 | refine below_set ?_ GE275.out) | exact HB.out)))); have n3_ := Aside0.mk (blk_below (g := gb275) (o := .cells #[.slice A0_0 l0_0.length c0_0, .int .i64 a0_1, .int .u64 a0_2, .bool a0_3] 25 (0, 0)) (by (with_reducible repeat (first | refine blk_drewN ?_ _ | refine blk_drew ?_ | refine blk_alloc ?_ _)); exact BK275.out) hb); have n4_ := Aside0.mk (below_step (by repeat (first | (with_reducible first | exact HB.out | apply below_alloc | apply pw_below_drewN | apply below_drew1 | refine below_set ?_ GE275.out) | exact HB.out)) hb); clear HO281; clear HO285; clear BK275; clear HB; have HO281 := n0_; have HO285 := n1_; have HO288 := n2_; have BK275 := n3_; have HB := n4_; clear n0_ n1_ n2_ n3_ n4_; clear hb ho13))
  go_loopg [7, 8] k (fun kq v7 v8 w' => ∃ (x7_1 : List (List Int)) (x8_1 : Int), v8 = .int .i64 x8_1 ∧ Aside0 (satchellaw27_VolumesMissing.l0 kq l1 t282 t283 x7_1 x8_1 l0_0 a0_1 a0_2 a0_3 = some r) ∧ Aside0 (kq ≤ k) ∧ Aside0 (Kd.N (Kd.slice 5 (Kd.int .u8)) 22 w' w.heap.size (fun k_ => some k_ ≠ (v7 : Value).ownBlock ∧ k_ ≠ gb275) v284 t282) ∧ Aside0 (Kd.N (Kd.slice 5 (Kd.int .u8)) 22 w' w.heap.size (fun k_ => some k_ ≠ (v284 : Value).ownBlock ∧ k_ ≠ gb275) v7 x7_1) ∧ Aside0 (w'.heap[gb275]? = some (.cells #[(.slice A0_0 l0_0.length c0_0), .int .i64 a0_1, .int .u64 a0_2, .bool a0_3] 25 (0, 0))) ∧ Aside0 (Below w.heap.size w w'))
  case atStart => exact ⟨(y286), (0), (by first | rfl | (simp; done) | (simp [*]; done)), H', ⟨Nat.le_refl _⟩, ⟨by (with_reducible repeat (first | apply Kd.N_alloc | apply Kd.N_drewN | apply Kd.N_drew)); exact Kd.N_mono HO285.out (fun _ hk => ⟨hk.2, hk.1.2⟩)⟩, ⟨by (with_reducible repeat (first | apply Kd.N_alloc | apply Kd.N_drewN | apply Kd.N_drew)); exact Kd.N_mono HO288.out (fun _ hk => ⟨hk.2.1, hk.2.2⟩)⟩, ⟨by (with_reducible repeat (first | refine blk_drewN ?_ _ | refine blk_drew ?_ | refine blk_alloc ?_ _)); exact BK275.out⟩, ⟨by repeat (first | (with_reducible first | exact HB.out | apply below_alloc | apply pw_below_drewN | apply below_drew1 | refine below_set ?_ GE275.out) | exact HB.out)⟩⟩
  case round =>
   clear H'
   try clear c1
   try clear p2
   try clear c3
   try clear c12
   obtain ⟨x7_1, x8_1, rfl, HA, HK1, HO_5, HO_7, BK275, HB⟩ := hrel
   cases gk with
   | zero => exact absurd HA.out (by simp [satchellaw27_VolumesMissing.l0])
   | succ k1 =>
    have H := HA.out
    clear HA
    simp only [satchellaw27_VolumesMissing.l0] at H
    by_cases c14 : x8_1 < (t282.length : Int)
    ·
     rw [if_pos c14] at H
     have c14b0 : decide (x8_1 < (t282.length : Int)) = true := decide_eq_true c14
     clear c14
     by_cases c15 : x8_1 < (l1.length : Int)
     ·
      rw [if_pos c15] at H
      have c15b0 : decide (x8_1 < (l1.length : Int)) = true := decide_eq_true c15
      clear c15
      by_cases c16 : 0 ≤ x8_1
      ·
       rw [if_pos c16] at H
       have c16b0 : decide (0 ≤ x8_1) = true := decide_eq_true c16
       clear c16
       obtain ⟨bq17, hbq17⟩ : ∃ b_ : Bool, b_ = (rdOf false l1 x8_1) := ⟨_, rfl⟩
       replace H : (if bq17 = true then (if x7_1.length < 5864062014805 then (satchellaw27_VolumesMissing.l0 k1 l1 t282 t283 (x7_1 ++ [rd_L1 t282 x8_1]) (wrap64 (x8_1 + 1)) l0_0 a0_1 a0_2 a0_3) else (none)) else (satchellaw27_VolumesMissing.l0 k1 l1 t282 t283 x7_1 (wrap64 (x8_1 + 1)) l0_0 a0_1 a0_2 a0_3)) = some r := by rw [← hbq17] at H; exact H
       have Nbq17 := Aside0.mk hbq17
       clear hbq17
       by_cases c18 : bq17 = true
       ·
        subst c18
        have H1 : (if x7_1.length < 5864062014805 then (satchellaw27_VolumesMissing.l0 k1 l1 t282 t283 (x7_1 ++ [rd_L1 t282 x8_1]) (wrap64 (x8_1 + 1)) l0_0 a0_1 a0_2 a0_3) else (none)) = some r := by rw [if_pos rfl] at H; exact H
        clear H
        have H := H1
        clear H1
        by_cases c19 : x7_1.length < 5864062014805
        ·
         rw [if_pos c19] at H
         have LMc19 := Aside0.mk c19
         clear c19
         obtain ⟨y291, hy291⟩ : ∃ y_ : List (List Int), y_ = (x7_1 ++ [rd_L1 t282 x8_1]) := ⟨_, rfl⟩
         replace H : (satchellaw27_VolumesMissing.l0 k1 l1 t282 t283 y291 (wrap64 (x8_1 + 1)) l0_0 a0_1 a0_2 a0_3) = some r := by first | (rw [hy291]; with_reducible exact H) | (have H2_ := (Option.bind_some _ _).symm.trans H; rw [hy291]; with_reducible exact H2_) | (have H2_ := (Option.bind_some _ _).symm.trans H; with_reducible exact H2_) | with_reducible exact H | (rw [hy291]; exact H) | exact H
         have Ny291 := Aside0.mk hy291
         clear hy291
         have H' := Aside0.mk H
         clear H
         obtain ⟨Ao20, co20, eo20⟩ := Kd.N_slice HO_5.out
         subst eo20
         have p289 : 0 ≤ (x8_1 : Int) := of_decide_eq_true (by first | (with_reducible assumption) | assumption)
         have q289 : x8_1 < (l1.length : Int) := of_decide_eq_true (by first | (with_reducible assumption) | assumption)
         obtain ⟨ad289, e289, hx289_0⟩ := Kd.at_bool HR1.out x8_1 p289 q289
         (try rw [← Nbq17.out] at hx289_0)
         cases e289
         replace hx289_0 := (HB.out.cell (World.block_lt_of_cell? w _ hx289_0)).trans hx289_0
         replace p289 := eq_true p289
         replace q289 := eq_true q289
         have p290 : 0 ≤ (x8_1 : Int) := of_decide_eq_true (by first | (with_reducible assumption) | assumption)
         have q290 : x8_1 < (t282.length : Int) := of_decide_eq_true (by first | (with_reducible assumption) | assumption)
         obtain ⟨ad290, A290_0, c290_0, e290, hx290_0, hl290_0, hi290_0⟩ := at_L1 (Kd.N_reads' HO_5.out).2.2 x8_1 p290 q290
         cases e290
         obtain ⟨ce290, hce290, hMe290, hcc290⟩ := Kd.N_get HO_5.out [] x8_1 p290 (by first | exact q290 | exact of_decide_eq_true (by first | (with_reducible assumption) | assumption) | (have e_ := (Kd.N_reads' HO_5.out).1; omega))
         obtain ⟨ua290_0, uc290_0, rfl, ul290_0, ge290_0⟩ := Kd.FK_slice_open hMe290
         have hv290_0 := hcc290 0 _ rfl
         rw [Nat.add_zero, show ((Kd.slice 5 (Kd.int .u8))).sz = 1 from rfl, Nat.mul_one] at hv290_0
         replace hv290_0 := Option.some.inj (hv290_0.symm.trans hx290_0)
         injection hv290_0 with hva_ hvn_ hvc_
         rw [hva_] at ge290_0
         rw [hvc_] at ul290_0
         have HL290_0 := Aside0.mk (show Kd.V (Kd.int .u8) 5 _ w.heap.size _ _ (rd_L1 t282 x8_1) from Kd.V_mk ul290_0 ge290_0)
         clear hva_ hvn_ hvc_ ge290_0 ul290_0
         clear hcc290 hce290
         have HR290_0 := Aside0.mk hi290_0
         have HC290_0 := Aside0.mk hl290_0
         clear hi290_0 hl290_0
         replace p290 := eq_true p290
         replace q290 := eq_true q290
         go_wp2_with (first | ((with_reducible refine gate_builtin (b := .append) (xs := #[.tmp 51, .tmp 56]) rfl ?_); (try (refine gate_guard (by rfl) ?_; dsimp only)); at_builtin; refine Kd.N_append (Kd.slice 5 (Kd.int .u8)) (w0 := w) w.heap.size rfl (.tmp 51) (.tmp 56) 28 22 (.slice none 0 0) 24 rfl Try.underlying28 info22 rfl (by decide) (by omega) u7 x7_1 (rd_L1 t282 x8_1) [.slice A290_0 (rd_L1 t282 x8_1).length c290_0] (fun k_ => some k_ ≠ (.slice (some ad290) t282.length co20 : Value).ownBlock ∧ k_ ≠ gb275) (fun k_ => ((fun k_ => some k_ ≠ (.slice (some ad290) t282.length co20 : Value).ownBlock ∧ k_ ≠ gb275)) k_ ∧ some k_ ≠ (u7 : Value).ownBlock) rfl rfl ?aP (fun _ hk => hk) ?aF ?aO ?aB ?aS ?aL ?_; (case aP => exact (Kd.FK_slice_mk (Kd.V_reads' (Kd.V_mono (ok' := (fun k_ => ((fun k_ => some k_ ≠ (.slice (some ad290) t282.length co20 : Value).ownBlock ∧ k_ ≠ gb275)) k_ ∧ some k_ ≠ (u7 : Value).ownBlock)) (HL290_0.out) (fun k_ hk => ⟨⟨hk.2, hk.1.2⟩, hk.1.1⟩))).2.1 (Kd.V_F (Kd.V_mono (ok' := (fun k_ => ((fun k_ => some k_ ≠ (.slice (some ad290) t282.length co20 : Value).ownBlock ∧ k_ ≠ gb275)) k_ ∧ some k_ ≠ (u7 : Value).ownBlock)) (HL290_0.out) (fun k_ hk => ⟨⟨hk.2, hk.1.2⟩, hk.1.1⟩))))); (case aB => exact (by repeat (first | (with_reducible first | exact HB.out | apply below_alloc | apply pw_below_drewN | apply below_drew1 | refine below_set ?_ GE275.out) | exact HB.out))); (case aF => exact (fun k_ hk => ⟨Kd.fresh' (Kd.N_lt (by (with_reducible repeat (first | apply Kd.N_alloc | apply Kd.N_drewN | apply Kd.N_drew)); exact HO_5.out)) k_ hk, Kd.freshB (g := gb275) (o := .cells #[.slice A0_0 l0_0.length c0_0, .int .i64 a0_1, .int .u64 a0_2, .bool a0_3] 25 (0, 0)) (by (with_reducible repeat (first | refine blk_drewN ?_ _ | refine blk_drew ?_ | refine blk_alloc ?_ _)); exact BK275.out) k_ hk⟩)); (case aO => exact (by (with_reducible repeat (first | apply Kd.N_alloc | apply Kd.N_drewN | apply Kd.N_drew)); exact HO_7.out)); (case aS => exact (below_size (by repeat (first | (with_reducible first | exact HB.out | apply below_alloc | apply pw_below_drewN | apply below_drew1 | refine below_set ?_ GE275.out) | exact HB.out)))); (case aL => have := LMc19.out; omega); intro v292 w21 ho hb hg hat; rw [← Ny291.out] at ho; have n0_ := Aside0.mk (Kd.N_afterv (ok := (fun k_ => k_ ≠ gb275)) (by (with_reducible repeat (first | apply Kd.N_alloc | apply Kd.N_drewN | apply Kd.N_drew)); exact Kd.N_mono HO_5.out (fun _ hk => ⟨hk.2, hk.1⟩)) hg hat); have n1_ := Aside0.mk (blk_grown (g := gb275) (o := .cells #[.slice A0_0 l0_0.length c0_0, .int .i64 a0_1, .int .u64 a0_2, .bool a0_3] 25 (0, 0)) (by (with_reducible repeat (first | refine blk_drewN ?_ _ | refine blk_drew ?_ | refine blk_alloc ?_ _)); exact BK275.out) hg (Kd.N_ne HO_7.out BK275.out (by decide))); have n2_ := Aside0.mk (Kd.V_afterv (ok := (fun k_ => some k_ ≠ (.slice (some ad290) t282.length co20 : Value).ownBlock ∧ k_ ≠ gb275)) (by (with_reducible repeat (first | apply Kd.V_alloc | apply Kd.V_drewN | apply Kd.V_drew)); exact Kd.V_mono HL290_0.out (fun _ hk => ⟨⟨hk.2, hk.1.2⟩, hk.1.1⟩)) hg hat); have n3_ := Aside0.mk (hb); have n4_ := Aside0.mk (ho); clear HO_5; clear BK275; clear HL290_0; clear HB; clear HO_7; have HO_5 := n0_; have BK275 := n1_; have HL290_0 := n2_; have HB := n3_; have HO293 := n4_; clear n0_ n1_ n2_ n3_ n4_; clear ho hb hg hat))
         go_roundg k1
         case measure => have := HK1.out; omega
         case rel => exact ⟨(y291), (wrap64 (x8_1 + 1)), (by first | rfl | (simp; done) | (simp [*]; done)), H', ⟨by have := HK1.out; omega⟩, ⟨by (with_reducible repeat (first | apply Kd.N_alloc | apply Kd.N_drewN | apply Kd.N_drew)); exact Kd.N_mono HO_5.out (fun _ hk => ⟨hk.2, hk.1⟩)⟩, ⟨by (with_reducible repeat (first | apply Kd.N_alloc | apply Kd.N_drewN | apply Kd.N_drew)); exact HO293.out⟩, ⟨by (with_reducible repeat (first | refine blk_drewN ?_ _ | refine blk_drew ?_ | refine blk_alloc ?_ _)); exact BK275.out⟩, ⟨by repeat (first | (with_reducible first | exact HB.out | apply below_alloc | apply pw_below_drewN | apply below_drew1 | refine below_set ?_ GE275.out) | exact HB.out)⟩⟩
        ·
         rw [if_neg c19] at H
         exact absurd H (by simp)
       ·
        replace c18 := Bool.eq_false_iff.mpr c18
        subst c18
        have H1 : (satchellaw27_VolumesMissing.l0 k1 l1 t282 t283 x7_1 (wrap64 (x8_1 + 1)) l0_0 a0_1 a0_2 a0_3) = some r := by rw [if_neg (show ¬ (false = true) by decide)] at H; exact H
        clear H
        have H := H1
        clear H1
        have H' := Aside0.mk H
        clear H
        obtain ⟨Ao22, co22, eo22⟩ := Kd.N_slice HO_5.out
        subst eo22
        have p289 : 0 ≤ (x8_1 : Int) := of_decide_eq_true (by first | (with_reducible assumption) | assumption)
        have q289 : x8_1 < (l1.length : Int) := of_decide_eq_true (by first | (with_reducible assumption) | assumption)
        obtain ⟨ad289, e289, hx289_0⟩ := Kd.at_bool HR1.out x8_1 p289 q289
        (try rw [← Nbq17.out] at hx289_0)
        cases e289
        replace hx289_0 := (HB.out.cell (World.block_lt_of_cell? w _ hx289_0)).trans hx289_0
        replace p289 := eq_true p289
        replace q289 := eq_true q289
        go_wp2
        go_roundg k1
        case measure => have := HK1.out; omega
        case rel => exact ⟨(x7_1), (wrap64 (x8_1 + 1)), (by first | rfl | (simp; done) | (simp [*]; done)), H', ⟨by have := HK1.out; omega⟩, ⟨by (with_reducible repeat (first | apply Kd.N_alloc | apply Kd.N_drewN | apply Kd.N_drew)); exact HO_5.out⟩, ⟨by (with_reducible repeat (first | apply Kd.N_alloc | apply Kd.N_drewN | apply Kd.N_drew)); exact HO_7.out⟩, ⟨by (with_reducible repeat (first | refine blk_drewN ?_ _ | refine blk_drew ?_ | refine blk_alloc ?_ _)); exact BK275.out⟩, ⟨by repeat (first | (with_reducible first | exact HB.out | apply below_alloc | apply pw_below_drewN | apply below_drew1 | refine below_set ?_ GE275.out) | exact HB.out)⟩⟩
      ·
       rw [if_neg c16] at H
       exact absurd H (by simp)
     ·
      rw [if_neg c15] at H
      have c15b0 : decide (x8_1 < (l1.length : Int)) = false := decide_eq_false c15
      clear c15
      have H' := Aside0.mk H
      clear H
      obtain ⟨Ao23, co23, eo23⟩ := Kd.N_slice HO_5.out
      subst eo23
      go_wp2
      go_roundg k1
      case measure => have := HK1.out; omega
      case rel => exact ⟨(x7_1), (wrap64 (x8_1 + 1)), (by first | rfl | (simp; done) | (simp [*]; done)), H', ⟨by have := HK1.out; omega⟩, ⟨by (with_reducible repeat (first | apply Kd.N_alloc | apply Kd.N_drewN | apply Kd.N_drew)); exact HO_5.out⟩, ⟨by (with_reducible repeat (first | apply Kd.N_alloc | apply Kd.N_drewN | apply Kd.N_drew)); exact HO_7.out⟩, ⟨by (with_reducible repeat (first | refine blk_drewN ?_ _ | refine blk_drew ?_ | refine blk_alloc ?_ _)); exact BK275.out⟩, ⟨by repeat (first | (with_reducible first | exact HB.out | apply below_alloc | apply pw_below_drewN | apply below_drew1 | refine below_set ?_ GE275.out) | exact HB.out)⟩⟩
    ·
     rw [if_neg c14] at H
     have c14b0 : decide (x8_1 < (t282.length : Int)) = false := decide_eq_false c14
     clear c14
     replace H := Option.bind_eq_some_iff.mp H
     obtain ⟨t294, A240, H⟩ := H
     replace H : ((volumes_Missing.f t294).bind fun bt297 => (if t283 = 0 then (satchellaw27_VolumesMissing.j1 k1 x7_1 bt297.1 bt297.2 ((x7_1.length : Int) == 0) l0_0 a0_1 a0_2 a0_3) else (satchellaw27_VolumesMissing.j1 k1 x7_1 bt297.1 bt297.2 true l0_0 a0_1 a0_2 a0_3))) = some r := H
     have A24 := Aside0.mk A240
     clear A240
     replace H := Option.bind_eq_some_iff.mp H
     obtain ⟨⟨t297, t298⟩, A250, H⟩ := H
     replace H : (if t283 = 0 then (satchellaw27_VolumesMissing.j1 k1 x7_1 t297 t298 ((x7_1.length : Int) == 0) l0_0 a0_1 a0_2 a0_3) else (satchellaw27_VolumesMissing.j1 k1 x7_1 t297 t298 true l0_0 a0_1 a0_2 a0_3)) = some r := H
     have A25 := Aside0.mk A250
     clear A250
     have HC26 := Aside0.mk H
     clear H
     obtain ⟨Ao27, co27, eo27⟩ := Kd.N_slice HO_5.out
     subst eo27
     obtain ⟨Ao28, co28, eo28⟩ := Kd.N_slice HO_7.out
     subst eo28
     go_upto_region 9 with (first | ((with_reducible refine gate_callee (f := 39) rfl ?_); refine goesL_ (some 60) rfl rfl Try.func39 (by kernel_rfl) rfl #[.slice Ao28 x7_1.length co28] rfl (by (try simp only [List.map_toArray, List.map_cons, List.map_nil]); first | done | rfl | (simp only [List.length_drop, List.length_take]; rfl)) ?_; (with_reducible refine (satchellaw27_copies.calls k1 _ _ x7_1 t294 _ ?side1 ?side2 A24.out).mono ?_); (case side1 => repeat (first | exact (Kd.N_reads' HO_7.out).2.2 | (with_reducible refine Kd.C_alloc ?_ _) | (with_reducible refine Kd.C_drewN ?_ _) | (with_reducible refine Kd.C_drew ?_))); (case side2 => exact (Kd.N_reads' HO_7.out).2.1); rintro e w29 ⟨v295, rfl, ho0, hb⟩; refine ⟨_, rfl, ?_⟩; have n0_ := Aside0.mk (Kd.N_elder' (by (with_reducible repeat (first | apply Kd.N_alloc | apply Kd.N_drewN | apply Kd.N_drew)); exact HO_5.out) (Kd.S_base ho0) hb); have n1_ := Aside0.mk (Kd.N_elder' (by (with_reducible repeat (first | apply Kd.N_alloc | apply Kd.N_drewN | apply Kd.N_drew)); exact HO_7.out) (Kd.S_base ho0) hb); have n2_ := Aside0.mk (Kd.N_lower (Kd.N_mono (ok' := fun k_ => some k_ ≠ (.slice Ao27 t282.length co27 : Value).ownBlock ∧ some k_ ≠ (.slice Ao28 x7_1.length co28 : Value).ownBlock ∧ k_ ≠ gb275) (Kd.S_N (Kd.S_bound ho0)) (fun k_ hk_ => ⟨(Kd.fresh' (Kd.N_lt (by (with_reducible repeat (first | apply Kd.N_alloc | apply Kd.N_drewN | apply Kd.N_drew)); exact HO_5.out)) k_ hk_.2.1), (Kd.fresh' (Kd.N_lt (by (with_reducible repeat (first | apply Kd.N_alloc | apply Kd.N_drewN | apply Kd.N_drew)); exact HO_7.out)) k_ hk_.2.1), (Kd.freshB (g := gb275) (o := .cells #[.slice A0_0 l0_0.length c0_0, .int .i64 a0_1, .int .u64 a0_2, .bool a0_3] 25 (0, 0)) (by (with_reducible repeat (first | refine blk_drewN ?_ _ | refine blk_drew ?_ | refine blk_alloc ?_ _)); exact BK275.out) k_ hk_.2.1)⟩)) (below_size (by repeat (first | (with_reducible first | exact HB.out | apply below_alloc | apply pw_below_drewN | apply below_drew1 | refine below_set ?_ GE275.out) | exact HB.out)))); have n3_ := Aside0.mk (blk_below (g := gb275) (o := .cells #[.slice A0_0 l0_0.length c0_0, .int .i64 a0_1, .int .u64 a0_2, .bool a0_3] 25 (0, 0)) (by (with_reducible repeat (first | refine blk_drewN ?_ _ | refine blk_drew ?_ | refine blk_alloc ?_ _)); exact BK275.out) hb); have n4_ := Aside0.mk (below_step (by repeat (first | (with_reducible first | exact HB.out | apply below_alloc | apply pw_below_drewN | apply below_drew1 | refine below_set ?_ GE275.out) | exact HB.out)) hb); clear HO_5; clear HO_7; clear BK275; clear HB; have HO_5 := n0_; have HO_7 := n1_; have HO296 := n2_; have BK275 := n3_; have HB := n4_; clear n0_ n1_ n2_ n3_ n4_; (try clear hb); (try clear hb2); (try clear hk); (try clear hi); (try clear ho0); obtain ⟨Ao30, co30, eo30⟩ := Kd.N_slice HO296.out; subst eo30) | ((with_reducible refine gate_callee (f := 41) rfl ?_); refine goesL_ (some 61) rfl rfl Try.func41 (by kernel_rfl) rfl #[.slice Ao30 t294.length co30] rfl (by (try simp only [List.map_toArray, List.map_cons, List.map_nil]); first | done | rfl | (simp only [List.length_drop, List.length_take]; rfl)) ?_; (with_reducible refine (volumes_Missing.calls _ _ t294 t297 t298 _ ?side1 ?side2 A25.out).mono ?_); (case side1 => repeat (first | exact (Kd.N_reads' HO296.out).2.2 | (with_reducible refine Kd.C_alloc ?_ _) | (with_reducible refine Kd.C_drewN ?_ _) | (with_reducible refine Kd.C_drew ?_))); (case side2 => exact (Kd.N_reads' HO296.out).2.1); rintro e w31 ⟨v299, rfl, ho0, hb⟩; refine ⟨_, rfl, ?_⟩; have n0_ := Aside0.mk (Kd.N_elder' (by (with_reducible repeat (first | apply Kd.N_alloc | apply Kd.N_drewN | apply Kd.N_drew)); exact HO_5.out) (Kd.R_base ho0) hb); have n1_ := Aside0.mk (Kd.N_elder' (by (with_reducible repeat (first | apply Kd.N_alloc | apply Kd.N_drewN | apply Kd.N_drew)); exact HO_7.out) (Kd.R_base ho0) hb); have n2_ := Aside0.mk (Kd.N_elder' (by (with_reducible repeat (first | apply Kd.N_alloc | apply Kd.N_drewN | apply Kd.N_drew)); exact HO296.out) (Kd.R_base ho0) hb); have n3_ := Aside0.mk (Kd.R_lower ho0 (below_size (by repeat (first | (with_reducible first | exact HB.out | apply below_alloc | apply pw_below_drewN | apply below_drew1 | refine below_set ?_ GE275.out) | exact HB.out)))); have n4_ := Aside0.mk (blk_below (g := gb275) (o := .cells #[.slice A0_0 l0_0.length c0_0, .int .i64 a0_1, .int .u64 a0_2, .bool a0_3] 25 (0, 0)) (by (with_reducible repeat (first | refine blk_drewN ?_ _ | refine blk_drew ?_ | refine blk_alloc ?_ _)); exact BK275.out) hb); have n5_ := Aside0.mk (below_step (by repeat (first | (with_reducible first | exact HB.out | apply below_alloc | apply pw_below_drewN | apply below_drew1 | refine below_set ?_ GE275.out) | exact HB.out)) hb); clear HO_5; clear HO_7; clear HO296; clear BK275; clear HB; have HO_5 := n0_; have HO_7 := n1_; have HO296 := n2_; have HO300 := n3_; have BK275 := n4_; have HB := n5_; clear n0_ n1_ n2_ n3_ n4_ n5_; (try clear hb); (try clear hb2); (try clear hk); (try clear hi); (try clear ho0)))
     (try simp only [Act.put, List.setIfInBounds_toArray, List.set_cons_zero, List.set_cons_succ])
     go_cut [70] (fun v70 wc => ∃ (kq : Nat) (x70_25 : Bool), v70 = .bool x70_25 ∧ Aside0 (satchellaw27_VolumesMissing.j1 kq x7_1 t297 t298 x70_25 l0_0 a0_1 a0_2 a0_3 = some r) ∧ Aside0 (kq ≤ k1) ∧ Aside0 (Kd.N (Kd.slice 5 (Kd.int .u8)) 22 wc w.heap.size (fun k_ => some k_ ≠ (v299 : Value).ownBlock ∧ k_ ≠ gb275) (.slice Ao28 x7_1.length co28) x7_1) ∧ Aside0 (Kd.R k82 82 wc w.heap.size (fun _ => True) v299 t297) ∧ Aside0 (wc.heap[gb275]? = some (.cells #[(.slice A0_0 l0_0.length c0_0), .int .i64 a0_1, .int .u64 a0_2, .bool a0_3] 25 (0, 0))) ∧ Aside0 (Below w.heap.size w wc))
     case first =>
      have H := HC26.out
      clear HC26
      by_cases c32 : t283 = 0
      ·
       rw [if_pos c32] at H
       have c32b0 : (t283 == 0) = true := beq_iff_eq.mpr c32
       have c32b1 : (t283 != 0) = false := bne_eq_false_iff_eq.mpr c32
       clear c32
       (first | rw [c32b0] | (simp only [i64_w, i32_w]; rw [c32b0]) | skip)
       have H' := Aside0.mk H
       clear H
       go_wp2
       go_meet
       case rel => exact ⟨_, (((x7_1.length : Int) == 0)), (by first | rfl | (simp; done) | (simp [*]; done)), H', ⟨by have := HK1.out; first | omega | exact Nat.le_refl _⟩, ⟨by (with_reducible repeat (first | apply Kd.N_alloc | apply Kd.N_drewN | apply Kd.N_drew)); exact Kd.N_mono HO_7.out (fun _ hk => ⟨hk.2, hk.1.1.2⟩)⟩, ⟨by (with_reducible repeat (first | apply Kd.R_alloc | apply Kd.R_drewN | apply Kd.R_drew)); exact HO300.out⟩, ⟨by (with_reducible repeat (first | refine blk_drewN ?_ _ | refine blk_drew ?_ | refine blk_alloc ?_ _)); exact BK275.out⟩, ⟨by repeat (first | (with_reducible first | exact HB.out | apply below_alloc | apply pw_below_drewN | apply below_drew1 | refine below_set ?_ GE275.out) | exact HB.out)⟩⟩
      ·
       rw [if_neg c32] at H
       have c32b0 : (t283 == 0) = false := beq_eq_false_iff_ne.mpr c32
       have c32b1 : (t283 != 0) = true := bne_iff_ne.mpr c32
       (first | rw [c32b0] | (simp only [i64_w, i32_w]; rw [c32b0]) | skip)
       have H' := Aside0.mk H
       clear H
       go_wp2
       go_meet
       case rel => exact ⟨_, (true), (by first | rfl | (simp; done) | (simp [*]; done)), H', ⟨by have := HK1.out; first | omega | exact Nat.le_refl _⟩, ⟨by (with_reducible repeat (first | apply Kd.N_alloc | apply Kd.N_drewN | apply Kd.N_drew)); exact Kd.N_mono HO_7.out (fun _ hk => ⟨hk.2, hk.1.1.2⟩)⟩, ⟨by (with_reducible repeat (first | apply Kd.R_alloc | apply Kd.R_drewN | apply Kd.R_drew)); exact HO300.out⟩, ⟨by (with_reducible repeat (first | refine blk_drewN ?_ _ | refine blk_drew ?_ | refine blk_alloc ?_ _)); exact BK275.out⟩, ⟨by repeat (first | (with_reducible first | exact HB.out | apply below_alloc | apply pw_below_drewN | apply below_drew1 | refine below_set ?_ GE275.out) | exact HB.out)⟩⟩
     case rest =>
      clear HC26
      try clear c1
      try clear q1
      try clear c2
      try clear p2
      try clear q2
      try clear hx2
      try clear c3
      try clear c4
      try clear p6
      try clear c12
      try clear c14
      try clear c14b0
      try clear c15
      try clear c15b0
      try clear c16
      try clear c16b0
      try clear q17
      try clear c18
      try clear c19
      try clear p28
      try clear q28
      try clear hx28
      try clear c29
      try clear p29
      try clear q29
      try clear hx29
      try clear c32
      try clear c32b0
      try clear c32b1
      try clear hx289_0
      try clear hx290_0
      try clear p2
      try clear p289
      try clear p290
      try clear q289
      try clear q290
      obtain ⟨kq, x70_25, rfl, HA, HJ25, HO_7, HO_9, BK275, HB⟩ := hcut
      cases kq with
      | zero => exact absurd HA.out (by simp [satchellaw27_VolumesMissing.j1])
      | succ kj25 =>
       have H := HA.out
       clear HA
       simp only [satchellaw27_VolumesMissing.j1] at H
       by_cases c33 : x70_25 = true
       ·
        subst c33
        have H1 : (if t298 = 272 then (some ((t297.length : Int) == 0)) else (some false)) = some r := by rw [if_pos rfl] at H; exact H
        clear H
        have H := H1
        clear H1
        by_cases c34 : t298 = 272
        ·
         rw [if_pos c34] at H
         have c34b0 : (t298 == 272) = true := beq_iff_eq.mpr c34
         have c34b1 : (t298 != 272) = false := bne_eq_false_iff_eq.mpr c34
         clear c34
         obtain rfl := Option.some.inj H
         obtain ⟨Ao35, co35, eo35⟩ := Kd.R_slice HO_9.out
         subst eo35
         go_wp2
         go_ret
         exact ⟨by first | rfl | (simp [errW_none, errW_some] <;> rfl) | (simp [*, errW_none, errW_some] <;> rfl), by repeat (first | (with_reducible first | exact HB.out | apply below_alloc | apply pw_below_drewN | apply below_drew1 | refine below_set ?_ GE275.out) | exact HB.out)⟩
        ·
         rw [if_neg c34] at H
         have c34b0 : (t298 == 272) = false := beq_eq_false_iff_ne.mpr c34
         have c34b1 : (t298 != 272) = true := bne_iff_ne.mpr c34
         obtain rfl := Option.some.inj H
         go_wp2
         go_ret
         exact ⟨by first | rfl | (simp [errW_none, errW_some] <;> rfl) | (simp [*, errW_none, errW_some] <;> rfl), by repeat (first | (with_reducible first | exact HB.out | apply below_alloc | apply pw_below_drewN | apply below_drew1 | refine below_set ?_ GE275.out) | exact HB.out)⟩
       ·
        replace c33 := Bool.eq_false_iff.mpr c33
        subst c33
        have H1 : (if t298 = 0 then (if 0 ≤ (l0_0.length : Int) then (if ((l0_0.length : Int) : Int).toNat ≤ 35184372088832 then (satchellaw27_VolumesMissing.l1 kj25 x7_1 t297 (List.replicate ((l0_0.length : Int) : Int).toNat 0) 0 l0_0 a0_1 a0_2 a0_3) else (none)) else (none)) else (some false)) = some r := by rw [if_neg (show ¬ (false = true) by decide)] at H; exact H
        clear H
        have H := H1
        clear H1
        by_cases c36 : t298 = 0
        ·
         rw [if_pos c36] at H
         have c36b0 : (t298 == 0) = true := beq_iff_eq.mpr c36
         have c36b1 : (t298 != 0) = false := bne_eq_false_iff_eq.mpr c36
         clear c36
         by_cases c37 : 0 ≤ (l0_0.length : Int)
         ·
          rw [if_pos c37] at H
          have c37b0 := eq_true c37
          have c37b1 : decide (0 ≤ (l0_0.length : Int)) = true := decide_eq_true c37
          clear c37
          by_cases c38 : ((l0_0.length : Int) : Int).toNat ≤ 35184372088832
          ·
           rw [if_pos c38] at H
           have c38b0 := eq_true c38
           have c38b1 : decide (((l0_0.length : Int) : Int).toNat ≤ 35184372088832) = true := decide_eq_true c38
           clear c38
           obtain ⟨y301, hy301⟩ : ∃ y_ : List Int, y_ = (List.replicate ((l0_0.length : Int) : Int).toNat 0) := ⟨_, rfl⟩
           replace H : (satchellaw27_VolumesMissing.l1 kj25 x7_1 t297 y301 0 l0_0 a0_1 a0_2 a0_3) = some r := by first | (rw [hy301]; with_reducible exact H) | (have H2_ := (Option.bind_some _ _).symm.trans H; rw [hy301]; with_reducible exact H2_) | (have H2_ := (Option.bind_some _ _).symm.trans H; with_reducible exact H2_) | with_reducible exact H | (rw [hy301]; exact H) | exact H
           have Ny301 := Aside0.mk hy301
           clear hy301
           have H' := Aside0.mk H
           clear H
           have hcz39_0 : wc.cell? ⟨gb275, 0, none⟩ = some (.slice A0_0 l0_0.length c0_0) := (blk_cell BK275.out 0).trans rfl
           have hcz39_1 : wc.cell? ⟨gb275, 1, none⟩ = some (.int .i64 a0_1) := (blk_cell BK275.out 1).trans rfl
           have hcz39_2 : wc.cell? ⟨gb275, 2, none⟩ = some (.int .u64 a0_2) := (blk_cell BK275.out 2).trans rfl
           have hcz39_3 : wc.cell? ⟨gb275, 3, none⟩ = some (.bool a0_3) := (blk_cell BK275.out 3).trans rfl
           have hfz39_0 := blk_frozen BK275.out 0
           have hfz39_1 := blk_frozen BK275.out 1
           have hfz39_2 := blk_frozen BK275.out 2
           have hfz39_3 := blk_frozen BK275.out 3
           go_wp2_with (first | ((with_reducible refine gate_dst (N := 83) rfl ?_); (try (refine gate_guard (by rfl) ?_; dsimp only)); refine Kd.R_make (Kd.int .i64) _ 3 rfl (N := 83) rfl 73 _ _ rfl (l0_0.length : Int) rfl rfl Try.underlying73 (.int .i64 0) 8 info3 rfl (by decide) (by omega) 0 (ok := fun _ => True) (okp := fun _ => True) rfl (fun _ hk => hk) trivial (of_decide_eq_true (by first | (with_reducible assumption) | assumption)) (Nat.le_trans (Nat.mul_le_mul_right _ (of_decide_eq_true (by first | (with_reducible assumption) | assumption) : (l0_0.length : Int).toNat ≤ 35184372088832)) (by omega)) (Below.refl _ _) (Nat.le_refl _) ?_; intro v302 w40 ho41 hb hg_ hnew_; clear hg_ hnew_; (first | rw [← Ny301.out] at ho41 | (simp only [Int.reduceToNat] at ho41; rw [← Ny301.out] at ho41)); have n0_ := Aside0.mk (Kd.N_elder' (by (with_reducible repeat (first | apply Kd.N_alloc | apply Kd.N_drewN | apply Kd.N_drew)); exact HO_7.out) (Kd.R_base ho41) hb); have n1_ := Aside0.mk (Kd.R_below (by (with_reducible repeat (first | apply Kd.R_alloc | apply Kd.R_drewN | apply Kd.R_drew)); exact HO_9.out) hb); have n2_ := Aside0.mk (Kd.R_lower ho41 (below_size (by repeat (first | (with_reducible first | exact HB.out | apply below_alloc | apply pw_below_drewN | apply below_drew1 | refine below_set ?_ GE275.out) | exact HB.out)))); have n3_ := Aside0.mk (blk_below (g := gb275) (o := .cells #[.slice A0_0 l0_0.length c0_0, .int .i64 a0_1, .int .u64 a0_2, .bool a0_3] 25 (0, 0)) (by (with_reducible repeat (first | refine blk_drewN ?_ _ | refine blk_drew ?_ | refine blk_alloc ?_ _)); exact BK275.out) hb); have n4_ := Aside0.mk (below_step (by repeat (first | (with_reducible first | exact HB.out | apply below_alloc | apply pw_below_drewN | apply below_drew1 | refine below_set ?_ GE275.out) | exact HB.out)) hb); clear HO_7; clear HO_9; clear BK275; clear HB; have HO_7 := n0_; have HO_9 := n1_; have HO303 := n2_; have BK275 := n3_; have HB := n4_; clear n0_ n1_ n2_ n3_ n4_; clear hb ho41))
           go_loopg [12] kj25 (fun kq v12 w' => ∃ (x11_3 : List Int) (x12_3 : Int), v12 = .int .i64 x12_3 ∧ Aside0 (satchellaw27_VolumesMissing.l1 kq x7_1 t297 x11_3 x12_3 l0_0 a0_1 a0_2 a0_3 = some r) ∧ Aside0 (kq ≤ kj25) ∧ Aside0 (Kd.N (Kd.slice 5 (Kd.int .u8)) 22 w' w.heap.size (fun k_ => some k_ ≠ (v299 : Value).ownBlock ∧ some k_ ≠ (v302 : Value).ownBlock ∧ k_ ≠ gb275) (.slice Ao28 x7_1.length co28) x7_1) ∧ Aside0 (Kd.R k82 82 w' w.heap.size (fun _ => True) v299 t297) ∧ Aside0 (Kd.R (Kd.int .i64) 3 w' w.heap.size (fun _ => True) v302 x11_3) ∧ Aside0 (w'.heap[gb275]? = some (.cells #[(.slice A0_0 l0_0.length c0_0), .int .i64 a0_1, .int .u64 a0_2, .bool a0_3] 25 (0, 0))) ∧ Aside0 (Below w.heap.size w w'))
           case atStart => exact ⟨(y301), (0), (by first | rfl | (simp; done) | (simp [*]; done)), H', ⟨Nat.le_refl _⟩, ⟨by (with_reducible repeat (first | apply Kd.N_alloc | apply Kd.N_drewN | apply Kd.N_drew)); exact Kd.N_mono HO_7.out (fun _ hk => ⟨hk.1.1, ⟨hk.2, hk.1.2⟩⟩)⟩, ⟨by (with_reducible repeat (first | apply Kd.R_alloc | apply Kd.R_drewN | apply Kd.R_drew)); exact HO_9.out⟩, ⟨by (with_reducible repeat (first | apply Kd.R_alloc | apply Kd.R_drewN | apply Kd.R_drew)); exact HO303.out⟩, ⟨by (with_reducible repeat (first | refine blk_drewN ?_ _ | refine blk_drew ?_ | refine blk_alloc ?_ _)); exact BK275.out⟩, ⟨by repeat (first | (with_reducible first | exact HB.out | apply below_alloc | apply pw_below_drewN | apply below_drew1 | refine below_set ?_ GE275.out) | exact HB.out)⟩⟩
           case round =>
            clear H'
            try clear c1
            try clear q1
            try clear c2
            try clear p2
            try clear q2
            try clear hx2
            try clear c3
            try clear c4
            try clear p6
            try clear c12
            try clear c14
            try clear c14b0
            try clear c15
            try clear c15b0
            try clear c16
            try clear c16b0
            try clear q17
            try clear c18
            try clear c19
            try clear p28
            try clear q28
            try clear hx28
            try clear c29
            try clear p29
            try clear q29
            try clear hx29
            try clear c32
            try clear c32b0
            try clear c32b1
            try clear c33
            try clear c34
            try clear c34b0
            try clear c34b1
            try clear c36
            try clear c36b0
            try clear c36b1
            try clear c37
            try clear c37b0
            try clear c37b1
            try clear c38
            try clear c38b0
            try clear c38b1
            try clear c39
            try clear c41
            try clear hcz39_0
            try clear hcz39_1
            try clear hcz39_2
            try clear hcz39_3
            try clear hfz39_0
            try clear hfz39_1
            try clear hfz39_2
            try clear hfz39_3
            try clear hx289_0
            try clear hx290_0
            try clear p2
            try clear p28
            try clear p289
            try clear p29
            try clear p290
            try clear p6
            try clear q1
            try clear q17
            try clear q2
            try clear q28
            try clear q289
            try clear q29
            try clear q290
            obtain ⟨x11_3, x12_3, rfl, HA, HK3, HO_7, HO_9, HO_11, BK275, HB⟩ := hrel
            cases gk with
            | zero => exact absurd HA.out (by simp [satchellaw27_VolumesMissing.l1])
            | succ k3 =>
             have H := HA.out
             clear HA
             simp only [satchellaw27_VolumesMissing.l1] at H
             by_cases c42 : x12_3 < (t297.length : Int)
             ·
              rw [if_pos c42] at H
              have c42b0 : decide (x12_3 < (t297.length : Int)) = true := decide_eq_true c42
              clear c42
              by_cases c43 : 0 ≤ x12_3
              ·
               rw [if_pos c43] at H
               have c43b0 : decide (0 ≤ x12_3) = true := decide_eq_true c43
               clear c43
               have H' := Aside0.mk H
               clear H
               obtain ⟨Ao44, co44, eo44⟩ := Kd.R_slice HO_9.out
               subst eo44
               have p304 : 0 ≤ (x12_3 : Int) := of_decide_eq_true (by first | (with_reducible assumption) | assumption)
               have q304 : x12_3 < (t297.length : Int) := of_decide_eq_true (by first | (with_reducible assumption) | assumption)
               obtain ⟨ad304, e304, hx304_0, hx304_1⟩ := at_T82 (Kd.R_reads' HO_9.out).2.2 x12_3 p304 q304
               cases e304
               replace p304 := eq_true p304
               replace q304 := eq_true q304
               go_wp2
               go_loopg [13] k3 (fun kq v13 w' => ∃ (x11_4 : List Int) (x13_4 : Int), v13 = .int .i64 x13_4 ∧ Aside0 (satchellaw27_VolumesMissing.l2 kq x7_1 t297 x11_4 x12_3 x13_4 l0_0 a0_1 a0_2 a0_3 = some r) ∧ Aside0 (kq ≤ k3) ∧ Aside0 (Kd.N (Kd.slice 5 (Kd.int .u8)) 22 w' w.heap.size (fun k_ => some k_ ≠ ((.slice (some ad304) t297.length co44) : Value).ownBlock ∧ some k_ ≠ (v302 : Value).ownBlock ∧ k_ ≠ gb275) (.slice Ao28 x7_1.length co28) x7_1) ∧ Aside0 (Kd.R k82 82 w' w.heap.size (fun _ => True) (.slice (some ad304) t297.length co44) t297) ∧ Aside0 (Kd.R (Kd.int .i64) 3 w' w.heap.size (fun _ => True) v302 x11_4) ∧ Aside0 (w'.heap[gb275]? = some (.cells #[(.slice A0_0 l0_0.length c0_0), .int .i64 a0_1, .int .u64 a0_2, .bool a0_3] 25 (0, 0))) ∧ Aside0 (Below w.heap.size w w'))
               case atStart => exact ⟨(x11_3), ((rd_T82 t297 x12_3).f0), (by first | rfl | (simp; done) | (simp [*]; done)), H', ⟨Nat.le_refl _⟩, ⟨by (with_reducible repeat (first | apply Kd.N_alloc | apply Kd.N_drewN | apply Kd.N_drew)); exact HO_7.out⟩, ⟨by (with_reducible repeat (first | apply Kd.R_alloc | apply Kd.R_drewN | apply Kd.R_drew)); exact HO_9.out⟩, ⟨by (with_reducible repeat (first | apply Kd.R_alloc | apply Kd.R_drewN | apply Kd.R_drew)); exact HO_11.out⟩, ⟨by (with_reducible repeat (first | refine blk_drewN ?_ _ | refine blk_drew ?_ | refine blk_alloc ?_ _)); exact BK275.out⟩, ⟨by repeat (first | (with_reducible first | exact HB.out | apply below_alloc | apply pw_below_drewN | apply below_drew1 | refine below_set ?_ GE275.out) | exact HB.out)⟩⟩
               case round =>
                clear H'
                try clear c1
                try clear q1
                try clear c2
                try clear p2
                try clear q2
                try clear hx2
                try clear c3
                try clear p3
                try clear q3
                try clear hx3
                try clear c4
                try clear p6
                try clear c12
                try clear c14
                try clear c14b0
                try clear c15
                try clear c15b0
                try clear c16
                try clear c16b0
                try clear q17
                try clear c18
                try clear c19
                try clear p28
                try clear q28
                try clear hx28
                try clear c29
                try clear p29
                try clear q29
                try clear hx29
                try clear p30
                try clear q30
                try clear hx30
                try clear c32
                try clear c32b0
                try clear c32b1
                try clear c33
                try clear c34
                try clear c34b0
                try clear c34b1
                try clear c36
                try clear c36b0
                try clear c36b1
                try clear c37
                try clear c37b0
                try clear c37b1
                try clear c38
                try clear c38b0
                try clear c38b1
                try clear c39
                try clear c41
                try clear c42
                try clear c42b0
                try clear c43
                try clear c43b0
                try clear hcz39_0
                try clear hcz39_1
                try clear hcz39_2
                try clear hcz39_3
                try clear hfz39_0
                try clear hfz39_1
                try clear hfz39_2
                try clear hfz39_3
                try clear hx289_0
                try clear hx290_0
                try clear hx304_0
                try clear hx304_1
                try clear p2
                try clear p28
                try clear p289
                try clear p29
                try clear p290
                try clear p304
                try clear p6
                try clear q1
                try clear q17
                try clear q2
                try clear q28
                try clear q289
                try clear q29
                try clear q290
                try clear q304
                obtain ⟨x11_4, x13_4, rfl, HA, HK4, HO_7, HO_9, HO_11, BK275, HB⟩ := hrel
                cases gk with
                | zero => exact absurd HA.out (by simp [satchellaw27_VolumesMissing.l2])
                | succ k4 =>
                 have H := HA.out
                 clear HA
                 simp only [satchellaw27_VolumesMissing.l2] at H
                 by_cases c45 : 0 ≤ x12_3
                 ·
                  rw [if_pos c45] at H
                  have c45b0 : decide (0 ≤ x12_3) = true := decide_eq_true c45
                  clear c45
                  by_cases c46 : x12_3 < (t297.length : Int)
                  ·
                   rw [if_pos c46] at H
                   have c46b0 : decide (x12_3 < (t297.length : Int)) = true := decide_eq_true c46
                   clear c46
                   by_cases c47 : x13_4 < ((rd_T82 t297 x12_3).f1)
                   ·
                    rw [if_pos c47] at H
                    have c47b0 : decide (x13_4 < ((rd_T82 t297 x12_3).f1)) = true := decide_eq_true c47
                    clear c47
                    by_cases c48 : x13_4 < 0
                    ·
                     rw [if_pos c48] at H
                     have c48b0 : decide (x13_4 < 0) = true := decide_eq_true c48
                     clear c48
                     obtain rfl := Option.some.inj H
                     have p305 : 0 ≤ (x12_3 : Int) := of_decide_eq_true (by first | (with_reducible assumption) | assumption)
                     have q305 : x12_3 < (t297.length : Int) := of_decide_eq_true (by first | (with_reducible assumption) | assumption)
                     obtain ⟨ad305, e305, hx305_0, hx305_1⟩ := at_T82 (Kd.R_reads' HO_9.out).2.2 x12_3 p305 q305
                     obtain rfl : ad304 = ad305 := (by injection e305)
                     replace p305 := eq_true p305
                     replace q305 := eq_true q305
                     go_wp2
                     go_ret
                     exact ⟨by first | rfl | (simp [errW_none, errW_some] <;> rfl) | (simp [*, errW_none, errW_some] <;> rfl), by repeat (first | (with_reducible first | exact HB.out | apply below_alloc | apply pw_below_drewN | apply below_drew1 | refine below_set ?_ GE275.out) | exact HB.out)⟩
                    ·
                     rw [if_neg c48] at H
                     have c48b0 : decide (x13_4 < 0) = false := decide_eq_false c48
                     clear c48
                     by_cases c49 : x13_4 ≥ (x11_4.length : Int)
                     ·
                      rw [if_pos c49] at H
                      have c49b0 : decide ((x11_4.length : Int) ≤ x13_4) = true := decide_eq_true c49
                      clear c49
                      obtain rfl := Option.some.inj H
                      have p305 : 0 ≤ (x12_3 : Int) := of_decide_eq_true (by first | (with_reducible assumption) | assumption)
                      have q305 : x12_3 < (t297.length : Int) := of_decide_eq_true (by first | (with_reducible assumption) | assumption)
                      obtain ⟨ad305, e305, hx305_0, hx305_1⟩ := at_T82 (Kd.R_reads' HO_9.out).2.2 x12_3 p305 q305
                      obtain rfl : ad304 = ad305 := (by injection e305)
                      replace p305 := eq_true p305
                      replace q305 := eq_true q305
                      obtain ⟨Ao50, co50, eo50⟩ := Kd.R_slice HO_11.out
                      subst eo50
                      go_wp2
                      go_ret
                      exact ⟨by first | rfl | (simp [errW_none, errW_some] <;> rfl) | (simp [*, errW_none, errW_some] <;> rfl), by repeat (first | (with_reducible first | exact HB.out | apply below_alloc | apply pw_below_drewN | apply below_drew1 | refine below_set ?_ GE275.out) | exact HB.out)⟩
                     ·
                      rw [if_neg c49] at H
                      have c49b0 : decide ((x11_4.length : Int) ≤ x13_4) = false := decide_eq_false c49
                      clear c49
                      by_cases c51 : 0 ≤ x13_4
                      ·
                       rw [if_pos c51] at H
                       have c51b0 : decide (0 ≤ x13_4) = true := decide_eq_true c51
                       clear c51
                       by_cases c52 : x13_4 < (x11_4.length : Int)
                       ·
                        rw [if_pos c52] at H
                        have c52b0 : decide (x13_4 < (x11_4.length : Int)) = true := decide_eq_true c52
                        clear c52
                        obtain ⟨y307, hy307⟩ : ∃ y_ : List Int, y_ = (x11_4.set (x13_4 : Int).toNat (wrap64 ((rd x11_4 x13_4) + 1))) := ⟨_, rfl⟩
                        replace H : (satchellaw27_VolumesMissing.l2 k4 x7_1 t297 y307 x12_3 (wrap64 (x13_4 + 1)) l0_0 a0_1 a0_2 a0_3) = some r := by first | (rw [hy307]; with_reducible exact H) | (have H2_ := (Option.bind_some _ _).symm.trans H; rw [hy307]; with_reducible exact H2_) | (have H2_ := (Option.bind_some _ _).symm.trans H; with_reducible exact H2_) | with_reducible exact H | (rw [hy307]; exact H) | exact H
                        have Ny307 := Aside0.mk hy307
                        clear hy307
                        have H' := Aside0.mk H
                        clear H
                        have p305 : 0 ≤ (x12_3 : Int) := of_decide_eq_true (by first | (with_reducible assumption) | assumption)
                        have q305 : x12_3 < (t297.length : Int) := of_decide_eq_true (by first | (with_reducible assumption) | assumption)
                        obtain ⟨ad305, e305, hx305_0, hx305_1⟩ := at_T82 (Kd.R_reads' HO_9.out).2.2 x12_3 p305 q305
                        obtain rfl : ad304 = ad305 := (by injection e305)
                        replace p305 := eq_true p305
                        replace q305 := eq_true q305
                        obtain ⟨Ao54, co54, eo54⟩ := Kd.R_slice HO_11.out
                        subst eo54
                        have p306 : 0 ≤ (x13_4 : Int) := of_decide_eq_true (by first | (with_reducible assumption) | assumption)
                        have q306 : x13_4 < (x11_4.length : Int) := of_decide_eq_true (by first | (with_reducible assumption) | assumption)
                        obtain ⟨ad306, e306, hx306_0⟩ := Kd.at_int (Kd.R_reads' HO_11.out).2.2 x13_4 p306 q306
                        cases e306
                        replace p306 := eq_true p306
                        replace q306 := eq_true q306
                        have p53 : 0 ≤ (x13_4 : Int) := of_decide_eq_true (by first | (with_reducible assumption) | assumption)
                        have q53 : (x13_4 : Int) < ((x11_4.length : Int) : Int) := of_decide_eq_true (by first | (with_reducible assumption) | assumption)
                        obtain ⟨go53, co53, eo53, gb53, gl53, cl53, HG53⟩ := Kd.R_form HO_11.out (by omega)
                        (first | cases eo53 | (injection eo53 with ea_ en_ ec_; (first | subst ea_ | (injection ea_ with ea_; subst ea_)); subst ec_; clear en_))
                        have GB53 := Aside0.mk gb53
                        have GG53 := Aside0.mk HG53
                        clear gb53 gl53 HG53
                        (first | simp only [add_plain] at hx306_0 | skip)
                        obtain ⟨hx53_0, hf53_0⟩ := Kd.R_celln 0 HO_11.out (x13_4 : Int) p53 q53
                        replace p53 := eq_true p53
                        replace q53 := eq_true q53
                        have HP55 := Kd.R_putg HO_11.out (x13_4 : Int) (wrap64 ((rd x11_4 x13_4) + 1))
                        go_wp2_with (first | ((with_reducible refine gate_store (t := 3) (p := 117) rfl ?_); refine store_event (t := 3) (p := 117) (v := ?vo_w56) (w1 := (wr.setCell ⟨go53, (x13_4 : Int).toNat, none⟩ (.int .i64 (wrap64 ((rd x11_4 x13_4) + 1))))) ?hg ?ho ?hn ?hr ?_; (case ho => rfl); (case hg => rfl); (case hn => rfl); (case hr => first | (go_simp; done) | (go_simp; rfl)); intro w56 hw; have hg : wr.grownBy w56 (some go53) := (by rw [hw]; exact HP55.2); have hp_ : Kd.R (Kd.int .i64) 3 w56 w.heap.size (fun _ => True) (.slice (some ⟨go53, 0, none⟩) x11_4.length co54) y307 := (by rw [hw, Ny307.out]; exact HP55.1); clear HP55; have n0_ := Aside0.mk (Kd.N_afterv (v := (.slice (some ⟨go53, 0, none⟩) x11_4.length co54)) (v1 := (.slice (some ⟨go53, 0, none⟩) x11_4.length co54)) (ok := (fun k_ => some k_ ≠ (.slice (some ad304) t297.length co44 : Value).ownBlock ∧ k_ ≠ gb275)) (by (with_reducible repeat (first | apply Kd.N_alloc | apply Kd.N_drewN | apply Kd.N_drew)); exact Kd.N_mono HO_7.out (fun _ hk => ⟨⟨hk.1, hk.2.2⟩, hk.2.1⟩)) hg (.inl rfl)); have n1_ := Aside0.mk (Kd.R_over' (v := (.slice (some ⟨go53, 0, none⟩) x11_4.length co54)) (by (with_reducible repeat (first | apply Kd.R_alloc | apply Kd.R_drewN | apply Kd.R_drew)); exact HO_9.out) (Kd.R_typed HO_11.out) (by decide) hg); have n2_ := Aside0.mk (hp_); have n3_ := Aside0.mk (blk_grown (g := gb275) (o := .cells #[.slice A0_0 l0_0.length c0_0, .int .i64 a0_1, .int .u64 a0_2, .bool a0_3] 25 (0, 0)) (by (with_reducible repeat (first | refine blk_drewN ?_ _ | refine blk_drew ?_ | refine blk_alloc ?_ _)); exact BK275.out) hg (Kd.R_ne HO_11.out BK275.out (by decide))); have n4_ := Aside0.mk ((by rw [hw]; exact below_set (HB.out) GB53.out : Below w.heap.size w w56)); clear HO_7; clear HO_9; clear HO_11; clear BK275; clear HB; have HO_7 := n0_; have HO_9 := n1_; have HO_11 := n2_; have BK275 := n3_; have HB := n4_; clear n0_ n1_ n2_ n3_ n4_; clear hg hw hp_))
                        go_roundg k4
                        case measure => have := HK1.out; have := HJ25.out; have := HK3.out; have := HK4.out; omega
                        case rel => exact ⟨(y307), (wrap64 (x13_4 + 1)), (by first | rfl | (simp; done) | (simp [*]; done)), H', ⟨by have := HK1.out; have := HJ25.out; have := HK3.out; have := HK4.out; omega⟩, ⟨by (with_reducible repeat (first | apply Kd.N_alloc | apply Kd.N_drewN | apply Kd.N_drew)); exact Kd.N_mono HO_7.out (fun _ hk => ⟨hk.1.1, ⟨hk.2, hk.1.2⟩⟩)⟩, ⟨by (with_reducible repeat (first | apply Kd.R_alloc | apply Kd.R_drewN | apply Kd.R_drew)); exact HO_9.out⟩, ⟨by (with_reducible repeat (first | apply Kd.R_alloc | apply Kd.R_drewN | apply Kd.R_drew)); exact HO_11.out⟩, ⟨by (with_reducible repeat (first | refine blk_drewN ?_ _ | refine blk_drew ?_ | refine blk_alloc ?_ _)); exact BK275.out⟩, ⟨by repeat (first | (with_reducible first | exact HB.out | apply below_alloc | apply pw_below_drewN | apply below_drew1 | refine below_set ?_ GE275.out) | exact HB.out)⟩⟩
                       ·
                        rw [if_neg c52] at H
                        exact absurd H (by simp)
                      ·
                       rw [if_neg c51] at H
                       exact absurd H (by simp)
                   ·
                    rw [if_neg c47] at H
                    have c47b0 : decide (x13_4 < ((rd_T82 t297 x12_3).f1)) = false := decide_eq_false c47
                    clear c47
                    have H' := Aside0.mk H
                    clear H
                    have p305 : 0 ≤ (x12_3 : Int) := of_decide_eq_true (by first | (with_reducible assumption) | assumption)
                    have q305 : x12_3 < (t297.length : Int) := of_decide_eq_true (by first | (with_reducible assumption) | assumption)
                    obtain ⟨ad305, e305, hx305_0, hx305_1⟩ := at_T82 (Kd.R_reads' HO_9.out).2.2 x12_3 p305 q305
                    obtain rfl : ad304 = ad305 := (by injection e305)
                    replace p305 := eq_true p305
                    replace q305 := eq_true q305
                    go_wp2
                    go_roundg k4
                    case measure => have := HK1.out; have := HJ25.out; have := HK3.out; have := HK4.out; omega
                    case rel => exact ⟨(x11_4), (wrap64 (x12_3 + 1)), (by first | rfl | (simp; done) | (simp [*]; done)), H', ⟨by have := HK1.out; have := HJ25.out; have := HK3.out; have := HK4.out; omega⟩, ⟨by (with_reducible repeat (first | apply Kd.N_alloc | apply Kd.N_drewN | apply Kd.N_drew)); exact HO_7.out⟩, ⟨by (with_reducible repeat (first | apply Kd.R_alloc | apply Kd.R_drewN | apply Kd.R_drew)); exact HO_9.out⟩, ⟨by (with_reducible repeat (first | apply Kd.R_alloc | apply Kd.R_drewN | apply Kd.R_drew)); exact HO_11.out⟩, ⟨by (with_reducible repeat (first | refine blk_drewN ?_ _ | refine blk_drew ?_ | refine blk_alloc ?_ _)); exact BK275.out⟩, ⟨by repeat (first | (with_reducible first | exact HB.out | apply below_alloc | apply pw_below_drewN | apply below_drew1 | refine below_set ?_ GE275.out) | exact HB.out)⟩⟩
                  ·
                   rw [if_neg c46] at H
                   exact absurd H (by simp)
                 ·
                  rw [if_neg c45] at H
                  exact absurd H (by simp)
              ·
               rw [if_neg c43] at H
               exact absurd H (by simp)
             ·
              rw [if_neg c42] at H
              have c42b0 : decide (x12_3 < (t297.length : Int)) = false := decide_eq_false c42
              clear c42
              have H' := Aside0.mk H
              clear H
              obtain ⟨Ao57, co57, eo57⟩ := Kd.R_slice HO_9.out
              subst eo57
              go_wp2
              go_loopg [14] k3 (fun kq v14 w' => ∃ (x11_4 : List Int) (x14_4 : Int), v14 = .int .i64 x14_4 ∧ Aside0 (satchellaw27_VolumesMissing.l3 kq x7_1 x11_4 x14_4 l0_0 a0_1 a0_2 a0_3 = some r) ∧ Aside0 (kq ≤ k3) ∧ Aside0 (Kd.N (Kd.slice 5 (Kd.int .u8)) 22 w' w.heap.size (fun k_ => some k_ ≠ (v302 : Value).ownBlock ∧ k_ ≠ gb275) (.slice Ao28 x7_1.length co28) x7_1) ∧ Aside0 (Kd.R (Kd.int .i64) 3 w' w.heap.size (fun _ => True) v302 x11_4) ∧ Aside0 (w'.heap[gb275]? = some (.cells #[(.slice A0_0 l0_0.length c0_0), .int .i64 a0_1, .int .u64 a0_2, .bool a0_3] 25 (0, 0))) ∧ Aside0 (Below w.heap.size w w'))
              case atStart => exact ⟨(x11_3), (0), (by first | rfl | (simp; done) | (simp [*]; done)), H', ⟨Nat.le_refl _⟩, ⟨by (with_reducible repeat (first | apply Kd.N_alloc | apply Kd.N_drewN | apply Kd.N_drew)); exact Kd.N_mono HO_7.out (fun _ hk => ⟨hk.2.1, hk.2.2⟩)⟩, ⟨by (with_reducible repeat (first | apply Kd.R_alloc | apply Kd.R_drewN | apply Kd.R_drew)); exact HO_11.out⟩, ⟨by (with_reducible repeat (first | refine blk_drewN ?_ _ | refine blk_drew ?_ | refine blk_alloc ?_ _)); exact BK275.out⟩, ⟨by repeat (first | (with_reducible first | exact HB.out | apply below_alloc | apply pw_below_drewN | apply below_drew1 | refine below_set ?_ GE275.out) | exact HB.out)⟩⟩
              case round =>
               clear H'
               try clear c1
               try clear q1
               try clear c2
               try clear p2
               try clear q2
               try clear hx2
               try clear c3
               try clear p3
               try clear q3
               try clear hx3
               try clear c4
               try clear c5
               try clear p5
               try clear q5
               try clear hx5
               try clear hf5
               try clear p6
               try clear c12
               try clear c14
               try clear c14b0
               try clear c15
               try clear c15b0
               try clear c16
               try clear c16b0
               try clear q17
               try clear c18
               try clear c19
               try clear p28
               try clear q28
               try clear hx28
               try clear c29
               try clear p29
               try clear q29
               try clear hx29
               try clear p30
               try clear q30
               try clear hx30
               try clear c32
               try clear c32b0
               try clear c32b1
               try clear c33
               try clear c34
               try clear c34b0
               try clear c34b1
               try clear c36
               try clear c36b0
               try clear c36b1
               try clear c37
               try clear c37b0
               try clear c37b1
               try clear c38
               try clear c38b0
               try clear c38b1
               try clear c39
               try clear c41
               try clear c42
               try clear c42b0
               try clear c43
               try clear c43b0
               try clear c45
               try clear c45b0
               try clear c46
               try clear c46b0
               try clear c47
               try clear c47b0
               try clear c48
               try clear c48b0
               try clear c49
               try clear c49b0
               try clear c51
               try clear c51b0
               try clear c52
               try clear c52b0
               try clear p53
               try clear q53
               try clear hx53
               try clear hf53
               try clear hcz39_0
               try clear hcz39_1
               try clear hcz39_2
               try clear hcz39_3
               try clear hfz39_0
               try clear hfz39_1
               try clear hfz39_2
               try clear hfz39_3
               try clear hx289_0
               try clear hx290_0
               try clear hx304_0
               try clear hx304_1
               try clear hx305_0
               try clear hx305_1
               try clear hx306_0
               try clear hx53_0
               try clear p2
               try clear p28
               try clear p289
               try clear p29
               try clear p290
               try clear p3
               try clear p30
               try clear p304
               try clear p305
               try clear p306
               try clear p53
               try clear p6
               try clear q1
               try clear q17
               try clear q2
               try clear q28
               try clear q289
               try clear q29
               try clear q290
               try clear q3
               try clear q30
               try clear q304
               try clear q305
               try clear q306
               try clear q53
               obtain ⟨x11_4, x14_4, rfl, HA, HK4, HO_7, HO_11, BK275, HB⟩ := hrel
               cases gk with
               | zero => exact absurd HA.out (by simp [satchellaw27_VolumesMissing.l3])
               | succ k4 =>
                have H := HA.out
                clear HA
                simp only [satchellaw27_VolumesMissing.l3] at H
                by_cases c58 : x14_4 < (x7_1.length : Int)
                ·
                 rw [if_pos c58] at H
                 have c58b0 : decide (x14_4 < (x7_1.length : Int)) = true := decide_eq_true c58
                 clear c58
                 by_cases c59 : 0 ≤ x14_4
                 ·
                  rw [if_pos c59] at H
                  have c59b0 : decide (0 ≤ x14_4) = true := decide_eq_true c59
                  clear c59
                  replace H := Option.bind_eq_some_iff.mp H
                  obtain ⟨⟨t309, t310, t311, t312, t313, t314, t315, t316, t319⟩, A600, H⟩ := H
                  replace H : (if t319 = 0 then (if t315 = (t316.length : Int) then (satchellaw27_VolumesMissing.j5 k4 x7_1 x11_4 x14_4 t316 (t313 != (l0_0.length : Int)) l0_0 a0_1 a0_2 a0_3 t309 t310 t311 t312 t313 t314 t315) else (satchellaw27_VolumesMissing.j5 k4 x7_1 x11_4 x14_4 t316 true l0_0 a0_1 a0_2 a0_3 t309 t310 t311 t312 t313 t314 t315)) else (satchellaw27_VolumesMissing.j5 k4 x7_1 x11_4 x14_4 t316 true l0_0 a0_1 a0_2 a0_3 t309 t310 t311 t312 t313 t314 t315)) = some r := H
                  have A60 := Aside0.mk A600
                  clear A600
                  have HC61 := Aside0.mk H
                  clear H
                  have p308 : 0 ≤ (x14_4 : Int) := of_decide_eq_true (by first | (with_reducible assumption) | assumption)
                  have q308 : x14_4 < (x7_1.length : Int) := of_decide_eq_true (by first | (with_reducible assumption) | assumption)
                  obtain ⟨ad308, A308_0, c308_0, e308, hx308_0, hl308_0, hi308_0⟩ := at_L1 (Kd.N_reads' HO_7.out).2.2 x14_4 p308 q308
                  cases e308
                  obtain ⟨ce308, hce308, hMe308, hcc308⟩ := Kd.N_get HO_7.out [] x14_4 p308 (by first | exact q308 | exact of_decide_eq_true (by first | (with_reducible assumption) | assumption) | (have e_ := (Kd.N_reads' HO_7.out).1; omega))
                  obtain ⟨ua308_0, uc308_0, rfl, ul308_0, ge308_0⟩ := Kd.FK_slice_open hMe308
                  have hv308_0 := hcc308 0 _ rfl
                  rw [Nat.add_zero, show ((Kd.slice 5 (Kd.int .u8))).sz = 1 from rfl, Nat.mul_one] at hv308_0
                  replace hv308_0 := Option.some.inj (hv308_0.symm.trans hx308_0)
                  injection hv308_0 with hva_ hvn_ hvc_
                  rw [hva_] at ge308_0
                  rw [hvc_] at ul308_0
                  have HL308_0 := Aside0.mk (show Kd.V (Kd.int .u8) 5 _ w.heap.size _ _ (rd_L1 x7_1 x14_4) from Kd.V_mk ul308_0 ge308_0)
                  clear hva_ hvn_ hvc_ ge308_0 ul308_0
                  clear hcc308 hce308
                  have HR308_0 := Aside0.mk hi308_0
                  have HC308_0 := Aside0.mk hl308_0
                  clear hi308_0 hl308_0
                  replace p308 := eq_true p308
                  replace q308 := eq_true q308
                  go_upto_region 27 with (first | ((with_reducible refine gate_callee (f := 38) rfl ?_); refine goesL_ (some 129) rfl rfl Try.func38 (by kernel_rfl) rfl #[.slice A308_0 (rd_L1 x7_1 x14_4).length c308_0] rfl (by (try simp only [List.map_toArray, List.map_cons, List.map_nil]); first | done | rfl | (simp only [List.length_drop, List.length_take]; rfl)) ?_; (with_reducible refine (volumes_Read.calls _ _ (rd_L1 x7_1 x14_4) t309 t310 t311 t312 t313 t314 t315 t316 t319 _ ?side1 ?side2 A60.out).mono ?_); (case side1 => repeat (first | exact (by repeat (first | (with_reducible exact HR308_0.out) | (with_reducible refine Kd.C_alloc ?_ _) | (with_reducible refine Kd.C_drewN ?_ _) | (with_reducible refine Kd.C_drew ?_) | exact HR308_0.out)) | (with_reducible refine Kd.C_alloc ?_ _) | (with_reducible refine Kd.C_drewN ?_ _) | (with_reducible refine Kd.C_drew ?_))); (case side2 => exact HC308_0.out); rintro e w62 ⟨v317, rfl, ho0, hb⟩; refine ⟨_, rfl, ?_⟩; have n0_ := Aside0.mk (Kd.N_elder' (by (with_reducible repeat (first | apply Kd.N_alloc | apply Kd.N_drewN | apply Kd.N_drew)); exact HO_7.out) (Kd.R_base ho0) hb); have n1_ := Aside0.mk (Kd.R_below (by (with_reducible repeat (first | apply Kd.R_alloc | apply Kd.R_drewN | apply Kd.R_drew)); exact HO_11.out) hb); have n2_ := Aside0.mk (Kd.V_elder' (by (with_reducible repeat (first | apply Kd.V_alloc | apply Kd.V_drewN | apply Kd.V_drew)); exact HL308_0.out) (Kd.R_base ho0) hb); have n3_ := Aside0.mk (Kd.R_lower ho0 (below_size (by repeat (first | (with_reducible first | exact HB.out | apply below_alloc | apply pw_below_drewN | apply below_drew1 | refine below_set ?_ GE275.out) | exact HB.out)))); have n4_ := Aside0.mk (blk_below (g := gb275) (o := .cells #[.slice A0_0 l0_0.length c0_0, .int .i64 a0_1, .int .u64 a0_2, .bool a0_3] 25 (0, 0)) (by (with_reducible repeat (first | refine blk_drewN ?_ _ | refine blk_drew ?_ | refine blk_alloc ?_ _)); exact BK275.out) hb); have n5_ := Aside0.mk (Kd.C_below (by repeat (first | (with_reducible exact HR308_0.out) | (with_reducible refine Kd.C_alloc ?_ _) | (with_reducible refine Kd.C_drewN ?_ _) | (with_reducible refine Kd.C_drew ?_) | exact HR308_0.out)) hb); have n6_ := Aside0.mk (below_step (by repeat (first | (with_reducible first | exact HB.out | apply below_alloc | apply pw_below_drewN | apply below_drew1 | refine below_set ?_ GE275.out) | exact HB.out)) hb); clear HO_7; clear HO_11; clear HL308_0; clear BK275; clear HR308_0; clear HB; have HO_7 := n0_; have HO_11 := n1_; have HL308_0 := n2_; have HO318 := n3_; have BK275 := n4_; have HR308_0 := n5_; have HB := n6_; clear n0_ n1_ n2_ n3_ n4_ n5_ n6_; (try clear hb); (try clear hb2); (try clear hk); (try clear hi); (try clear ho0)) | ((with_reducible refine gate_dst (N := 15) rfl ?_); (try (refine gate_guard (by rfl) ?_; dsimp only)); refine box_event ?hg (N := 15) ?hd (cs := #[.int .u64 0, .int .i64 0, .int .i64 0, .bool false, .int .i64 0, .int .i64 0, .int .i64 0]) (t := 68) ?hr ?_; (case hd => rfl); (case hg => rfl); (case hr => first | (go_simp; done) | (go_simp; rfl)); intro gb320 hg w63 hbox hb; have n0_ := Aside0.mk (Kd.N_below (Kd.N_elderB (by (with_reducible repeat (first | apply Kd.N_alloc | apply Kd.N_drewN | apply Kd.N_drew)); exact HO_7.out) gb320 (Nat.le_of_eq hg.symm)) hb); have n1_ := Aside0.mk (Kd.R_below (by (with_reducible repeat (first | apply Kd.R_alloc | apply Kd.R_drewN | apply Kd.R_drew)); exact HO_11.out) hb); have n2_ := Aside0.mk (Kd.V_below (Kd.V_elderB (by (with_reducible repeat (first | apply Kd.V_alloc | apply Kd.V_drewN | apply Kd.V_drew)); exact HL308_0.out) gb320 (Nat.le_of_eq hg.symm)) hb); have n3_ := Aside0.mk (Kd.R_below (by (with_reducible repeat (first | apply Kd.R_alloc | apply Kd.R_drewN | apply Kd.R_drew)); exact HO318.out) hb); have n4_ := Aside0.mk (blk_below (g := gb275) (o := .cells #[.slice A0_0 l0_0.length c0_0, .int .i64 a0_1, .int .u64 a0_2, .bool a0_3] 25 (0, 0)) (by (with_reducible repeat (first | refine blk_drewN ?_ _ | refine blk_drew ?_ | refine blk_alloc ?_ _)); exact BK275.out) hb); have n5_ := Aside0.mk (Kd.C_below (by repeat (first | (with_reducible exact HR308_0.out) | (with_reducible refine Kd.C_alloc ?_ _) | (with_reducible refine Kd.C_drewN ?_ _) | (with_reducible refine Kd.C_drew ?_) | exact HR308_0.out)) hb); have n6_ := Aside0.mk (below_step (by repeat (first | (with_reducible first | exact HB.out | apply below_alloc | apply pw_below_drewN | apply below_drew1 | refine below_set ?_ GE275.out) | exact HB.out)) hb); have n7_ := Aside0.mk (hbox); have n8_ := Aside0.mk ((by rw [hg]; exact (below_size (by repeat (first | (with_reducible first | exact HB.out | apply below_alloc | apply pw_below_drewN | apply below_drew1 | refine below_set ?_ GE275.out) | exact HB.out))) : w.heap.size ≤ gb320)); have n9_ := Aside0.mk ((by rw [hg]; exact (below_size (by repeat (first | (with_reducible first | exact HB.out | apply below_alloc | apply pw_below_drewN | apply below_drew1 | refine below_set ?_ GE275.out) | exact HB.out))) : w.heap.size ≤ gb320)); have n10_ := Aside0.mk ((by rw [hg]; exact Nat.ne_of_lt (blk_lt (g := gb275) (o := .cells #[.slice A0_0 l0_0.length c0_0, .int .i64 a0_1, .int .u64 a0_2, .bool a0_3] 25 (0, 0)) (by (with_reducible repeat (first | refine blk_drewN ?_ _ | refine blk_drew ?_ | refine blk_alloc ?_ _)); exact BK275.out)) : gb275 ≠ gb320)); have n11_ := Aside0.mk ((by rw [hg]; exact Nat.ne_of_gt (blk_lt (g := gb275) (o := .cells #[.slice A0_0 l0_0.length c0_0, .int .i64 a0_1, .int .u64 a0_2, .bool a0_3] 25 (0, 0)) (by (with_reducible repeat (first | refine blk_drewN ?_ _ | refine blk_drew ?_ | refine blk_alloc ?_ _)); exact BK275.out)) : gb320 ≠ gb275)); clear HO_7; clear HO_11; clear HL308_0; clear HO318; clear BK275; clear HR308_0; clear HB; have HO_7 := n0_; have HO_11 := n1_; have HL308_0 := n2_; have HO318 := n3_; have BK275 := n4_; have HR308_0 := n5_; have HB := n6_; have BK320 := n7_; have GW320 := n8_; have GE320 := n9_; have NB275_320 := n10_; have NB320_275 := n11_; clear n0_ n1_ n2_ n3_ n4_ n5_ n6_ n7_ n8_ n9_ n10_ n11_; clear hb hbox hg; have hnb64 := NB320_275.out; have hnc64 := NB275_320.out; have hcz65_0 : w63.cell? ⟨gb320, 0, none⟩ = some (.int .u64 0) := (blk_cell BK320.out 0).trans rfl; have hcz65_1 : w63.cell? ⟨gb320, 1, none⟩ = some (.int .i64 0) := (blk_cell BK320.out 1).trans rfl; have hcz65_2 : w63.cell? ⟨gb320, 2, none⟩ = some (.int .i64 0) := (blk_cell BK320.out 2).trans rfl; have hcz65_3 : w63.cell? ⟨gb320, 3, none⟩ = some (.bool false) := (blk_cell BK320.out 3).trans rfl; have hcz65_4 : w63.cell? ⟨gb320, 4, none⟩ = some (.int .i64 0) := (blk_cell BK320.out 4).trans rfl; have hcz65_5 : w63.cell? ⟨gb320, 5, none⟩ = some (.int .i64 0) := (blk_cell BK320.out 5).trans rfl; have hcz65_6 : w63.cell? ⟨gb320, 6, none⟩ = some (.int .i64 0) := (blk_cell BK320.out 6).trans rfl; have hfz65_0 := blk_frozen BK320.out 0; have hfz65_1 := blk_frozen BK320.out 1; have hfz65_2 := blk_frozen BK320.out 2; have hfz65_3 := blk_frozen BK320.out 3; have hfz65_4 := blk_frozen BK320.out 4; have hfz65_5 := blk_frozen BK320.out 5; have hfz65_6 := blk_frozen BK320.out 6))
                  (try simp only [Act.put, List.setIfInBounds_toArray, List.set_cons_zero, List.set_cons_succ])
                  go_cut [149] (fun v149 wc => ∃ (kq : Nat) (x149_60 : Bool), v149 = .bool x149_60 ∧ Aside0 (satchellaw27_VolumesMissing.j5 kq x7_1 x11_4 x14_4 t316 x149_60 l0_0 a0_1 a0_2 a0_3 t309 t310 t311 t312 t313 t314 t315 = some r) ∧ Aside0 (kq ≤ k4) ∧ Aside0 (Kd.N (Kd.slice 5 (Kd.int .u8)) 22 wc w.heap.size (fun k_ => some k_ ≠ (v302 : Value).ownBlock ∧ some k_ ≠ (v317 : Value).ownBlock ∧ k_ ≠ gb275 ∧ k_ ≠ gb320) (.slice (some ad308) x7_1.length co28) x7_1) ∧ Aside0 (Kd.R (Kd.int .i64) 3 wc w.heap.size (fun _ => True) v302 x11_4) ∧ Aside0 (Kd.R (Kd.int .u8) 5 wc w.heap.size (fun _ => True) v317 t316) ∧ Aside0 (wc.heap[gb275]? = some (.cells #[(.slice A0_0 l0_0.length c0_0), .int .i64 a0_1, .int .u64 a0_2, .bool a0_3] 25 (0, 0))) ∧ Aside0 (wc.heap[gb320]? = some (.cells #[.int .u64 t309, .int .i64 t310, .int .i64 t311, .bool t312, .int .i64 t313, .int .i64 t314, .int .i64 t315] 68 (0, 0))) ∧ Aside0 (Kd.C (Kd.int .u8) wc A308_0 (rd_L1 x7_1 x14_4).length (rd_L1 x7_1 x14_4)) ∧ Aside0 (Below w.heap.size w wc))
                  case first =>
                   have H := HC61.out
                   clear HC61
                   by_cases c66 : t319 = 0
                   ·
                    rw [if_pos c66] at H
                    have c66b0 : (t319 == 0) = true := beq_iff_eq.mpr c66
                    have c66b1 : (t319 != 0) = false := bne_eq_false_iff_eq.mpr c66
                    clear c66
                    (first | rw [c66b0] | (simp only [i64_w, i32_w]; rw [c66b0]) | skip)
                    by_cases c67 : t315 = (t316.length : Int)
                    ·
                     rw [if_pos c67] at H
                     have c67b0 : (t315 == (t316.length : Int)) = true := beq_iff_eq.mpr c67
                     have c67b1 : (t315 != (t316.length : Int)) = false := bne_eq_false_iff_eq.mpr c67
                     clear c67
                     have H' := Aside0.mk H
                     clear H
                     have hnb68 := NB320_275.out
                     have hnc68 := NB275_320.out
                     have hcz69_0 : w63.cell? ⟨gb320, 0, none⟩ = some (.int .u64 0) := (blk_cell BK320.out 0).trans rfl
                     have hcz69_1 : w63.cell? ⟨gb320, 1, none⟩ = some (.int .i64 0) := (blk_cell BK320.out 1).trans rfl
                     have hcz69_2 : w63.cell? ⟨gb320, 2, none⟩ = some (.int .i64 0) := (blk_cell BK320.out 2).trans rfl
                     have hcz69_3 : w63.cell? ⟨gb320, 3, none⟩ = some (.bool false) := (blk_cell BK320.out 3).trans rfl
                     have hcz69_4 : w63.cell? ⟨gb320, 4, none⟩ = some (.int .i64 0) := (blk_cell BK320.out 4).trans rfl
                     have hcz69_5 : w63.cell? ⟨gb320, 5, none⟩ = some (.int .i64 0) := (blk_cell BK320.out 5).trans rfl
                     have hcz69_6 : w63.cell? ⟨gb320, 6, none⟩ = some (.int .i64 0) := (blk_cell BK320.out 6).trans rfl
                     have hfz69_0 := blk_frozen BK320.out 0
                     have hfz69_1 := blk_frozen BK320.out 1
                     have hfz69_2 := blk_frozen BK320.out 2
                     have hfz69_3 := blk_frozen BK320.out 3
                     have hfz69_4 := blk_frozen BK320.out 4
                     have hfz69_5 := blk_frozen BK320.out 5
                     have hfz69_6 := blk_frozen BK320.out 6
                     obtain ⟨Ao70, co70, eo70⟩ := Kd.R_slice HO318.out
                     subst eo70
                     have hcz71_0 : w63.cell? ⟨gb275, 0, none⟩ = some (.slice A0_0 l0_0.length c0_0) := (blk_cell BK275.out 0).trans rfl
                     have hcz71_1 : w63.cell? ⟨gb275, 1, none⟩ = some (.int .i64 a0_1) := (blk_cell BK275.out 1).trans rfl
                     have hcz71_2 : w63.cell? ⟨gb275, 2, none⟩ = some (.int .u64 a0_2) := (blk_cell BK275.out 2).trans rfl
                     have hcz71_3 : w63.cell? ⟨gb275, 3, none⟩ = some (.bool a0_3) := (blk_cell BK275.out 3).trans rfl
                     have hfz71_0 := blk_frozen BK275.out 0
                     have hfz71_1 := blk_frozen BK275.out 1
                     have hfz71_2 := blk_frozen BK275.out 2
                     have hfz71_3 := blk_frozen BK275.out 3
                     go_wp2
                     go_meet
                     case rel => exact ⟨_, ((t313 != (l0_0.length : Int))), (by first | rfl | (simp; done) | (simp [*]; done)), H', ⟨by have := HK1.out; have := HJ25.out; have := HK3.out; have := HK4.out; first | omega | exact Nat.le_refl _⟩, ⟨by (with_reducible repeat (first | apply Kd.N_alloc | apply Kd.N_drewN | apply Kd.N_drew)); exact Kd.N_mono (Kd.N_far (p := ⟨gb320, 6, none⟩) (Kd.N_far (p := ⟨gb320, 5, none⟩) (Kd.N_far (p := ⟨gb320, 4, none⟩) (Kd.N_far (p := ⟨gb320, 3, none⟩) (Kd.N_far (p := ⟨gb320, 2, none⟩) (Kd.N_far (p := ⟨gb320, 1, none⟩) (Kd.N_far (p := ⟨gb320, 0, none⟩) (Kd.N_mono HO_7.out (fun k_ hk => (⟨hk, hk.2⟩ : _ ∧ k_ ≠ gb320))) (fun _ hk => hk.2) (.int .u64 t309)) (fun _ hk => hk.2) (.int .i64 t310)) (fun _ hk => hk.2) (.int .i64 t311)) (fun _ hk => hk.2) (.bool t312)) (fun _ hk => hk.2) (.int .i64 t313)) (fun _ hk => hk.2) (.int .i64 t314)) (fun _ hk => hk.2) (.int .i64 t315)) (fun _ hk => ⟨hk.1.1.1.1, ⟨hk.1.1.2, ⟨hk.1.1.1.2, hk.1.2⟩⟩⟩)⟩, ⟨by (with_reducible repeat (first | apply Kd.R_alloc | apply Kd.R_drewN | apply Kd.R_drew)); exact Kd.R_mono (Kd.R_far (p := ⟨gb320, 6, none⟩) (Kd.R_far (p := ⟨gb320, 5, none⟩) (Kd.R_far (p := ⟨gb320, 4, none⟩) (Kd.R_far (p := ⟨gb320, 3, none⟩) (Kd.R_far (p := ⟨gb320, 2, none⟩) (Kd.R_far (p := ⟨gb320, 1, none⟩) (Kd.R_far (p := ⟨gb320, 0, none⟩) (Kd.R_types HO_11.out BK320.out (by decide)) (fun _ hk => hk.2) (.int .u64 t309)) (fun _ hk => hk.2) (.int .i64 t310)) (fun _ hk => hk.2) (.int .i64 t311)) (fun _ hk => hk.2) (.bool t312)) (fun _ hk => hk.2) (.int .i64 t313)) (fun _ hk => hk.2) (.int .i64 t314)) (fun _ hk => hk.2) (.int .i64 t315)) (fun _ hk => trivial)⟩, ⟨by (with_reducible repeat (first | apply Kd.R_alloc | apply Kd.R_drewN | apply Kd.R_drew)); exact Kd.R_mono (Kd.R_far (p := ⟨gb320, 6, none⟩) (Kd.R_far (p := ⟨gb320, 5, none⟩) (Kd.R_far (p := ⟨gb320, 4, none⟩) (Kd.R_far (p := ⟨gb320, 3, none⟩) (Kd.R_far (p := ⟨gb320, 2, none⟩) (Kd.R_far (p := ⟨gb320, 1, none⟩) (Kd.R_far (p := ⟨gb320, 0, none⟩) (Kd.R_types HO318.out BK320.out (by decide)) (fun _ hk => hk.2) (.int .u64 t309)) (fun _ hk => hk.2) (.int .i64 t310)) (fun _ hk => hk.2) (.int .i64 t311)) (fun _ hk => hk.2) (.bool t312)) (fun _ hk => hk.2) (.int .i64 t313)) (fun _ hk => hk.2) (.int .i64 t314)) (fun _ hk => hk.2) (.int .i64 t315)) (fun _ hk => trivial)⟩, ⟨by (with_reducible repeat (first | refine blk_drewN ?_ _ | refine blk_drew ?_ | refine blk_alloc ?_ _)); refine blk_far ?_ NB275_320.out _; (with_reducible repeat (first | refine blk_drewN ?_ _ | refine blk_drew ?_ | refine blk_alloc ?_ _)); refine blk_far ?_ NB275_320.out _; (with_reducible repeat (first | refine blk_drewN ?_ _ | refine blk_drew ?_ | refine blk_alloc ?_ _)); refine blk_far ?_ NB275_320.out _; (with_reducible repeat (first | refine blk_drewN ?_ _ | refine blk_drew ?_ | refine blk_alloc ?_ _)); refine blk_far ?_ NB275_320.out _; (with_reducible repeat (first | refine blk_drewN ?_ _ | refine blk_drew ?_ | refine blk_alloc ?_ _)); refine blk_far ?_ NB275_320.out _; (with_reducible repeat (first | refine blk_drewN ?_ _ | refine blk_drew ?_ | refine blk_alloc ?_ _)); refine blk_far ?_ NB275_320.out _; (with_reducible repeat (first | refine blk_drewN ?_ _ | refine blk_drew ?_ | refine blk_alloc ?_ _)); refine blk_far ?_ NB275_320.out _; (with_reducible repeat (first | refine blk_drewN ?_ _ | refine blk_drew ?_ | refine blk_alloc ?_ _)); exact BK275.out⟩, ⟨by (with_reducible repeat (first | refine blk_drewN ?_ _ | refine blk_drew ?_ | refine blk_alloc ?_ _)); refine blk_put (cs := #[.int .u64 t309, .int .i64 t310, .int .i64 t311, .bool t312, .int .i64 t313, .int .i64 t314, .int .i64 0]) ?_ 6 _ rfl; (with_reducible repeat (first | refine blk_drewN ?_ _ | refine blk_drew ?_ | refine blk_alloc ?_ _)); refine blk_put (cs := #[.int .u64 t309, .int .i64 t310, .int .i64 t311, .bool t312, .int .i64 t313, .int .i64 0, .int .i64 0]) ?_ 5 _ rfl; (with_reducible repeat (first | refine blk_drewN ?_ _ | refine blk_drew ?_ | refine blk_alloc ?_ _)); refine blk_put (cs := #[.int .u64 t309, .int .i64 t310, .int .i64 t311, .bool t312, .int .i64 0, .int .i64 0, .int .i64 0]) ?_ 4 _ rfl; (with_reducible repeat (first | refine blk_drewN ?_ _ | refine blk_drew ?_ | refine blk_alloc ?_ _)); refine blk_put (cs := #[.int .u64 t309, .int .i64 t310, .int .i64 t311, .bool false, .int .i64 0, .int .i64 0, .int .i64 0]) ?_ 3 _ rfl; (with_reducible repeat (first | refine blk_drewN ?_ _ | refine blk_drew ?_ | refine blk_alloc ?_ _)); refine blk_put (cs := #[.int .u64 t309, .int .i64 t310, .int .i64 0, .bool false, .int .i64 0, .int .i64 0, .int .i64 0]) ?_ 2 _ rfl; (with_reducible repeat (first | refine blk_drewN ?_ _ | refine blk_drew ?_ | refine blk_alloc ?_ _)); refine blk_put (cs := #[.int .u64 t309, .int .i64 0, .int .i64 0, .bool false, .int .i64 0, .int .i64 0, .int .i64 0]) ?_ 1 _ rfl; (with_reducible repeat (first | refine blk_drewN ?_ _ | refine blk_drew ?_ | refine blk_alloc ?_ _)); refine blk_put (cs := #[.int .u64 0, .int .i64 0, .int .i64 0, .bool false, .int .i64 0, .int .i64 0, .int .i64 0]) ?_ 0 _ rfl; (with_reducible repeat (first | refine blk_drewN ?_ _ | refine blk_drew ?_ | refine blk_alloc ?_ _)); exact BK320.out⟩, ⟨(Kd.V_reads' (by (with_reducible repeat (first | apply Kd.V_alloc | apply Kd.V_drewN | apply Kd.V_drew)); exact (Kd.V_mono (Kd.V_far (p := ⟨gb320, 6, none⟩) (Kd.V_far (p := ⟨gb320, 5, none⟩) (Kd.V_far (p := ⟨gb320, 4, none⟩) (Kd.V_far (p := ⟨gb320, 3, none⟩) (Kd.V_far (p := ⟨gb320, 2, none⟩) (Kd.V_far (p := ⟨gb320, 1, none⟩) (Kd.V_far (p := ⟨gb320, 0, none⟩) (Kd.V_mono HL308_0.out (fun k_ hk => (⟨hk, hk.2⟩ : _ ∧ k_ ≠ gb320))) (fun _ hk => hk.2) (.int .u64 t309)) (fun _ hk => hk.2) (.int .i64 t310)) (fun _ hk => hk.2) (.int .i64 t311)) (fun _ hk => hk.2) (.bool t312)) (fun _ hk => hk.2) (.int .i64 t313)) (fun _ hk => hk.2) (.int .i64 t314)) (fun _ hk => hk.2) (.int .i64 t315)) (fun _ h_ => h_.1)))).2.2⟩, ⟨by repeat (first | (with_reducible first | exact HB.out | apply below_alloc | apply pw_below_drewN | apply below_drew1 | refine below_set ?_ GE275.out | refine below_set ?_ GE320.out) | exact HB.out)⟩⟩
                    ·
                     rw [if_neg c67] at H
                     have c67b0 : (t315 == (t316.length : Int)) = false := beq_eq_false_iff_ne.mpr c67
                     have c67b1 : (t315 != (t316.length : Int)) = true := bne_iff_ne.mpr c67
                     have H' := Aside0.mk H
                     clear H
                     have hnb72 := NB320_275.out
                     have hnc72 := NB275_320.out
                     have hcz73_0 : w63.cell? ⟨gb320, 0, none⟩ = some (.int .u64 0) := (blk_cell BK320.out 0).trans rfl
                     have hcz73_1 : w63.cell? ⟨gb320, 1, none⟩ = some (.int .i64 0) := (blk_cell BK320.out 1).trans rfl
                     have hcz73_2 : w63.cell? ⟨gb320, 2, none⟩ = some (.int .i64 0) := (blk_cell BK320.out 2).trans rfl
                     have hcz73_3 : w63.cell? ⟨gb320, 3, none⟩ = some (.bool false) := (blk_cell BK320.out 3).trans rfl
                     have hcz73_4 : w63.cell? ⟨gb320, 4, none⟩ = some (.int .i64 0) := (blk_cell BK320.out 4).trans rfl
                     have hcz73_5 : w63.cell? ⟨gb320, 5, none⟩ = some (.int .i64 0) := (blk_cell BK320.out 5).trans rfl
                     have hcz73_6 : w63.cell? ⟨gb320, 6, none⟩ = some (.int .i64 0) := (blk_cell BK320.out 6).trans rfl
                     have hfz73_0 := blk_frozen BK320.out 0
                     have hfz73_1 := blk_frozen BK320.out 1
                     have hfz73_2 := blk_frozen BK320.out 2
                     have hfz73_3 := blk_frozen BK320.out 3
                     have hfz73_4 := blk_frozen BK320.out 4
                     have hfz73_5 := blk_frozen BK320.out 5
                     have hfz73_6 := blk_frozen BK320.out 6
                     obtain ⟨Ao74, co74, eo74⟩ := Kd.R_slice HO318.out
                     subst eo74
                     go_wp2
                     go_meet
                     case rel => exact ⟨_, (true), (by first | rfl | (simp; done) | (simp [*]; done)), H', ⟨by have := HK1.out; have := HJ25.out; have := HK3.out; have := HK4.out; first | omega | exact Nat.le_refl _⟩, ⟨by (with_reducible repeat (first | apply Kd.N_alloc | apply Kd.N_drewN | apply Kd.N_drew)); exact Kd.N_mono (Kd.N_far (p := ⟨gb320, 6, none⟩) (Kd.N_far (p := ⟨gb320, 5, none⟩) (Kd.N_far (p := ⟨gb320, 4, none⟩) (Kd.N_far (p := ⟨gb320, 3, none⟩) (Kd.N_far (p := ⟨gb320, 2, none⟩) (Kd.N_far (p := ⟨gb320, 1, none⟩) (Kd.N_far (p := ⟨gb320, 0, none⟩) (Kd.N_mono HO_7.out (fun k_ hk => (⟨hk, hk.2⟩ : _ ∧ k_ ≠ gb320))) (fun _ hk => hk.2) (.int .u64 t309)) (fun _ hk => hk.2) (.int .i64 t310)) (fun _ hk => hk.2) (.int .i64 t311)) (fun _ hk => hk.2) (.bool t312)) (fun _ hk => hk.2) (.int .i64 t313)) (fun _ hk => hk.2) (.int .i64 t314)) (fun _ hk => hk.2) (.int .i64 t315)) (fun _ hk => ⟨hk.1.1.1.1, ⟨hk.1.1.2, ⟨hk.1.1.1.2, hk.1.2⟩⟩⟩)⟩, ⟨by (with_reducible repeat (first | apply Kd.R_alloc | apply Kd.R_drewN | apply Kd.R_drew)); exact Kd.R_mono (Kd.R_far (p := ⟨gb320, 6, none⟩) (Kd.R_far (p := ⟨gb320, 5, none⟩) (Kd.R_far (p := ⟨gb320, 4, none⟩) (Kd.R_far (p := ⟨gb320, 3, none⟩) (Kd.R_far (p := ⟨gb320, 2, none⟩) (Kd.R_far (p := ⟨gb320, 1, none⟩) (Kd.R_far (p := ⟨gb320, 0, none⟩) (Kd.R_types HO_11.out BK320.out (by decide)) (fun _ hk => hk.2) (.int .u64 t309)) (fun _ hk => hk.2) (.int .i64 t310)) (fun _ hk => hk.2) (.int .i64 t311)) (fun _ hk => hk.2) (.bool t312)) (fun _ hk => hk.2) (.int .i64 t313)) (fun _ hk => hk.2) (.int .i64 t314)) (fun _ hk => hk.2) (.int .i64 t315)) (fun _ hk => trivial)⟩, ⟨by (with_reducible repeat (first | apply Kd.R_alloc | apply Kd.R_drewN | apply Kd.R_drew)); exact Kd.R_mono (Kd.R_far (p := ⟨gb320, 6, none⟩) (Kd.R_far (p := ⟨gb320, 5, none⟩) (Kd.R_far (p := ⟨gb320, 4, none⟩) (Kd.R_far (p := ⟨gb320, 3, none⟩) (Kd.R_far (p := ⟨gb320, 2, none⟩) (Kd.R_far (p := ⟨gb320, 1, none⟩) (Kd.R_far (p := ⟨gb320, 0, none⟩) (Kd.R_types HO318.out BK320.out (by decide)) (fun _ hk => hk.2) (.int .u64 t309)) (fun _ hk => hk.2) (.int .i64 t310)) (fun _ hk => hk.2) (.int .i64 t311)) (fun _ hk => hk.2) (.bool t312)) (fun _ hk => hk.2) (.int .i64 t313)) (fun _ hk => hk.2) (.int .i64 t314)) (fun _ hk => hk.2) (.int .i64 t315)) (fun _ hk => trivial)⟩, ⟨by (with_reducible repeat (first | refine blk_drewN ?_ _ | refine blk_drew ?_ | refine blk_alloc ?_ _)); refine blk_far ?_ NB275_320.out _; (with_reducible repeat (first | refine blk_drewN ?_ _ | refine blk_drew ?_ | refine blk_alloc ?_ _)); refine blk_far ?_ NB275_320.out _; (with_reducible repeat (first | refine blk_drewN ?_ _ | refine blk_drew ?_ | refine blk_alloc ?_ _)); refine blk_far ?_ NB275_320.out _; (with_reducible repeat (first | refine blk_drewN ?_ _ | refine blk_drew ?_ | refine blk_alloc ?_ _)); refine blk_far ?_ NB275_320.out _; (with_reducible repeat (first | refine blk_drewN ?_ _ | refine blk_drew ?_ | refine blk_alloc ?_ _)); refine blk_far ?_ NB275_320.out _; (with_reducible repeat (first | refine blk_drewN ?_ _ | refine blk_drew ?_ | refine blk_alloc ?_ _)); refine blk_far ?_ NB275_320.out _; (with_reducible repeat (first | refine blk_drewN ?_ _ | refine blk_drew ?_ | refine blk_alloc ?_ _)); refine blk_far ?_ NB275_320.out _; (with_reducible repeat (first | refine blk_drewN ?_ _ | refine blk_drew ?_ | refine blk_alloc ?_ _)); exact BK275.out⟩, ⟨by (with_reducible repeat (first | refine blk_drewN ?_ _ | refine blk_drew ?_ | refine blk_alloc ?_ _)); refine blk_put (cs := #[.int .u64 t309, .int .i64 t310, .int .i64 t311, .bool t312, .int .i64 t313, .int .i64 t314, .int .i64 0]) ?_ 6 _ rfl; (with_reducible repeat (first | refine blk_drewN ?_ _ | refine blk_drew ?_ | refine blk_alloc ?_ _)); refine blk_put (cs := #[.int .u64 t309, .int .i64 t310, .int .i64 t311, .bool t312, .int .i64 t313, .int .i64 0, .int .i64 0]) ?_ 5 _ rfl; (with_reducible repeat (first | refine blk_drewN ?_ _ | refine blk_drew ?_ | refine blk_alloc ?_ _)); refine blk_put (cs := #[.int .u64 t309, .int .i64 t310, .int .i64 t311, .bool t312, .int .i64 0, .int .i64 0, .int .i64 0]) ?_ 4 _ rfl; (with_reducible repeat (first | refine blk_drewN ?_ _ | refine blk_drew ?_ | refine blk_alloc ?_ _)); refine blk_put (cs := #[.int .u64 t309, .int .i64 t310, .int .i64 t311, .bool false, .int .i64 0, .int .i64 0, .int .i64 0]) ?_ 3 _ rfl; (with_reducible repeat (first | refine blk_drewN ?_ _ | refine blk_drew ?_ | refine blk_alloc ?_ _)); refine blk_put (cs := #[.int .u64 t309, .int .i64 t310, .int .i64 0, .bool false, .int .i64 0, .int .i64 0, .int .i64 0]) ?_ 2 _ rfl; (with_reducible repeat (first | refine blk_drewN ?_ _ | refine blk_drew ?_ | refine blk_alloc ?_ _)); refine blk_put (cs := #[.int .u64 t309, .int .i64 0, .int .i64 0, .bool false, .int .i64 0, .int .i64 0, .int .i64 0]) ?_ 1 _ rfl; (with_reducible repeat (first | refine blk_drewN ?_ _ | refine blk_drew ?_ | refine blk_alloc ?_ _)); refine blk_put (cs := #[.int .u64 0, .int .i64 0, .int .i64 0, .bool false, .int .i64 0, .int .i64 0, .int .i64 0]) ?_ 0 _ rfl; (with_reducible repeat (first | refine blk_drewN ?_ _ | refine blk_drew ?_ | refine blk_alloc ?_ _)); exact BK320.out⟩, ⟨(Kd.V_reads' (by (with_reducible repeat (first | apply Kd.V_alloc | apply Kd.V_drewN | apply Kd.V_drew)); exact (Kd.V_mono (Kd.V_far (p := ⟨gb320, 6, none⟩) (Kd.V_far (p := ⟨gb320, 5, none⟩) (Kd.V_far (p := ⟨gb320, 4, none⟩) (Kd.V_far (p := ⟨gb320, 3, none⟩) (Kd.V_far (p := ⟨gb320, 2, none⟩) (Kd.V_far (p := ⟨gb320, 1, none⟩) (Kd.V_far (p := ⟨gb320, 0, none⟩) (Kd.V_mono HL308_0.out (fun k_ hk => (⟨hk, hk.2⟩ : _ ∧ k_ ≠ gb320))) (fun _ hk => hk.2) (.int .u64 t309)) (fun _ hk => hk.2) (.int .i64 t310)) (fun _ hk => hk.2) (.int .i64 t311)) (fun _ hk => hk.2) (.bool t312)) (fun _ hk => hk.2) (.int .i64 t313)) (fun _ hk => hk.2) (.int .i64 t314)) (fun _ hk => hk.2) (.int .i64 t315)) (fun _ h_ => h_.1)))).2.2⟩, ⟨by repeat (first | (with_reducible first | exact HB.out | apply below_alloc | apply pw_below_drewN | apply below_drew1 | refine below_set ?_ GE275.out | refine below_set ?_ GE320.out) | exact HB.out)⟩⟩
                   ·
                    rw [if_neg c66] at H
                    have c66b0 : (t319 == 0) = false := beq_eq_false_iff_ne.mpr c66
                    have c66b1 : (t319 != 0) = true := bne_iff_ne.mpr c66
                    (first | rw [c66b0] | (simp only [i64_w, i32_w]; rw [c66b0]) | skip)
                    have H' := Aside0.mk H
                    clear H
                    go_wp2
                    go_meet
                    case rel => exact ⟨_, (true), (by first | rfl | (simp; done) | (simp [*]; done)), H', ⟨by have := HK1.out; have := HJ25.out; have := HK3.out; have := HK4.out; first | omega | exact Nat.le_refl _⟩, ⟨by (with_reducible repeat (first | apply Kd.N_alloc | apply Kd.N_drewN | apply Kd.N_drew)); exact Kd.N_mono (Kd.N_far (p := ⟨gb320, 6, none⟩) (Kd.N_far (p := ⟨gb320, 5, none⟩) (Kd.N_far (p := ⟨gb320, 4, none⟩) (Kd.N_far (p := ⟨gb320, 3, none⟩) (Kd.N_far (p := ⟨gb320, 2, none⟩) (Kd.N_far (p := ⟨gb320, 1, none⟩) (Kd.N_far (p := ⟨gb320, 0, none⟩) (Kd.N_mono HO_7.out (fun k_ hk => (⟨hk, hk.2⟩ : _ ∧ k_ ≠ gb320))) (fun _ hk => hk.2) (.int .u64 t309)) (fun _ hk => hk.2) (.int .i64 t310)) (fun _ hk => hk.2) (.int .i64 t311)) (fun _ hk => hk.2) (.bool t312)) (fun _ hk => hk.2) (.int .i64 t313)) (fun _ hk => hk.2) (.int .i64 t314)) (fun _ hk => hk.2) (.int .i64 t315)) (fun _ hk => ⟨hk.1.1.1.1, ⟨hk.1.1.2, ⟨hk.1.1.1.2, hk.1.2⟩⟩⟩)⟩, ⟨by (with_reducible repeat (first | apply Kd.R_alloc | apply Kd.R_drewN | apply Kd.R_drew)); exact Kd.R_mono (Kd.R_far (p := ⟨gb320, 6, none⟩) (Kd.R_far (p := ⟨gb320, 5, none⟩) (Kd.R_far (p := ⟨gb320, 4, none⟩) (Kd.R_far (p := ⟨gb320, 3, none⟩) (Kd.R_far (p := ⟨gb320, 2, none⟩) (Kd.R_far (p := ⟨gb320, 1, none⟩) (Kd.R_far (p := ⟨gb320, 0, none⟩) (Kd.R_types HO_11.out BK320.out (by decide)) (fun _ hk => hk.2) (.int .u64 t309)) (fun _ hk => hk.2) (.int .i64 t310)) (fun _ hk => hk.2) (.int .i64 t311)) (fun _ hk => hk.2) (.bool t312)) (fun _ hk => hk.2) (.int .i64 t313)) (fun _ hk => hk.2) (.int .i64 t314)) (fun _ hk => hk.2) (.int .i64 t315)) (fun _ hk => trivial)⟩, ⟨by (with_reducible repeat (first | apply Kd.R_alloc | apply Kd.R_drewN | apply Kd.R_drew)); exact Kd.R_mono (Kd.R_far (p := ⟨gb320, 6, none⟩) (Kd.R_far (p := ⟨gb320, 5, none⟩) (Kd.R_far (p := ⟨gb320, 4, none⟩) (Kd.R_far (p := ⟨gb320, 3, none⟩) (Kd.R_far (p := ⟨gb320, 2, none⟩) (Kd.R_far (p := ⟨gb320, 1, none⟩) (Kd.R_far (p := ⟨gb320, 0, none⟩) (Kd.R_types HO318.out BK320.out (by decide)) (fun _ hk => hk.2) (.int .u64 t309)) (fun _ hk => hk.2) (.int .i64 t310)) (fun _ hk => hk.2) (.int .i64 t311)) (fun _ hk => hk.2) (.bool t312)) (fun _ hk => hk.2) (.int .i64 t313)) (fun _ hk => hk.2) (.int .i64 t314)) (fun _ hk => hk.2) (.int .i64 t315)) (fun _ hk => trivial)⟩, ⟨by (with_reducible repeat (first | refine blk_drewN ?_ _ | refine blk_drew ?_ | refine blk_alloc ?_ _)); refine blk_far ?_ NB275_320.out _; (with_reducible repeat (first | refine blk_drewN ?_ _ | refine blk_drew ?_ | refine blk_alloc ?_ _)); refine blk_far ?_ NB275_320.out _; (with_reducible repeat (first | refine blk_drewN ?_ _ | refine blk_drew ?_ | refine blk_alloc ?_ _)); refine blk_far ?_ NB275_320.out _; (with_reducible repeat (first | refine blk_drewN ?_ _ | refine blk_drew ?_ | refine blk_alloc ?_ _)); refine blk_far ?_ NB275_320.out _; (with_reducible repeat (first | refine blk_drewN ?_ _ | refine blk_drew ?_ | refine blk_alloc ?_ _)); refine blk_far ?_ NB275_320.out _; (with_reducible repeat (first | refine blk_drewN ?_ _ | refine blk_drew ?_ | refine blk_alloc ?_ _)); refine blk_far ?_ NB275_320.out _; (with_reducible repeat (first | refine blk_drewN ?_ _ | refine blk_drew ?_ | refine blk_alloc ?_ _)); refine blk_far ?_ NB275_320.out _; (with_reducible repeat (first | refine blk_drewN ?_ _ | refine blk_drew ?_ | refine blk_alloc ?_ _)); exact BK275.out⟩, ⟨by (with_reducible repeat (first | refine blk_drewN ?_ _ | refine blk_drew ?_ | refine blk_alloc ?_ _)); refine blk_put (cs := #[.int .u64 t309, .int .i64 t310, .int .i64 t311, .bool t312, .int .i64 t313, .int .i64 t314, .int .i64 0]) ?_ 6 _ rfl; (with_reducible repeat (first | refine blk_drewN ?_ _ | refine blk_drew ?_ | refine blk_alloc ?_ _)); refine blk_put (cs := #[.int .u64 t309, .int .i64 t310, .int .i64 t311, .bool t312, .int .i64 t313, .int .i64 0, .int .i64 0]) ?_ 5 _ rfl; (with_reducible repeat (first | refine blk_drewN ?_ _ | refine blk_drew ?_ | refine blk_alloc ?_ _)); refine blk_put (cs := #[.int .u64 t309, .int .i64 t310, .int .i64 t311, .bool t312, .int .i64 0, .int .i64 0, .int .i64 0]) ?_ 4 _ rfl; (with_reducible repeat (first | refine blk_drewN ?_ _ | refine blk_drew ?_ | refine blk_alloc ?_ _)); refine blk_put (cs := #[.int .u64 t309, .int .i64 t310, .int .i64 t311, .bool false, .int .i64 0, .int .i64 0, .int .i64 0]) ?_ 3 _ rfl; (with_reducible repeat (first | refine blk_drewN ?_ _ | refine blk_drew ?_ | refine blk_alloc ?_ _)); refine blk_put (cs := #[.int .u64 t309, .int .i64 t310, .int .i64 0, .bool false, .int .i64 0, .int .i64 0, .int .i64 0]) ?_ 2 _ rfl; (with_reducible repeat (first | refine blk_drewN ?_ _ | refine blk_drew ?_ | refine blk_alloc ?_ _)); refine blk_put (cs := #[.int .u64 t309, .int .i64 0, .int .i64 0, .bool false, .int .i64 0, .int .i64 0, .int .i64 0]) ?_ 1 _ rfl; (with_reducible repeat (first | refine blk_drewN ?_ _ | refine blk_drew ?_ | refine blk_alloc ?_ _)); refine blk_put (cs := #[.int .u64 0, .int .i64 0, .int .i64 0, .bool false, .int .i64 0, .int .i64 0, .int .i64 0]) ?_ 0 _ rfl; (with_reducible repeat (first | refine blk_drewN ?_ _ | refine blk_drew ?_ | refine blk_alloc ?_ _)); exact BK320.out⟩, ⟨(Kd.V_reads' (by (with_reducible repeat (first | apply Kd.V_alloc | apply Kd.V_drewN | apply Kd.V_drew)); exact (Kd.V_mono (Kd.V_far (p := ⟨gb320, 6, none⟩) (Kd.V_far (p := ⟨gb320, 5, none⟩) (Kd.V_far (p := ⟨gb320, 4, none⟩) (Kd.V_far (p := ⟨gb320, 3, none⟩) (Kd.V_far (p := ⟨gb320, 2, none⟩) (Kd.V_far (p := ⟨gb320, 1, none⟩) (Kd.V_far (p := ⟨gb320, 0, none⟩) (Kd.V_mono HL308_0.out (fun k_ hk => (⟨hk, hk.2⟩ : _ ∧ k_ ≠ gb320))) (fun _ hk => hk.2) (.int .u64 t309)) (fun _ hk => hk.2) (.int .i64 t310)) (fun _ hk => hk.2) (.int .i64 t311)) (fun _ hk => hk.2) (.bool t312)) (fun _ hk => hk.2) (.int .i64 t313)) (fun _ hk => hk.2) (.int .i64 t314)) (fun _ hk => hk.2) (.int .i64 t315)) (fun _ h_ => h_.1)))).2.2⟩, ⟨by repeat (first | (with_reducible first | exact HB.out | apply below_alloc | apply pw_below_drewN | apply below_drew1 | refine below_set ?_ GE275.out | refine below_set ?_ GE320.out) | exact HB.out)⟩⟩
                  case rest =>
                   clear HC61
                   try clear c1
                   try clear q1
                   try clear c2
                   try clear p2
                   try clear q2
                   try clear hx2
                   try clear c3
                   try clear p3
                   try clear q3
                   try clear hx3
                   try clear c4
                   try clear c5
                   try clear p5
                   try clear q5
                   try clear hx5
                   try clear hf5
                   try clear c6
                   try clear p6
                   try clear c7
                   try clear c12
                   try clear c14
                   try clear c14b0
                   try clear c15
                   try clear c15b0
                   try clear c16
                   try clear c16b0
                   try clear q17
                   try clear c18
                   try clear c19
                   try clear p28
                   try clear q28
                   try clear hx28
                   try clear c29
                   try clear p29
                   try clear q29
                   try clear hx29
                   try clear c30
                   try clear p30
                   try clear q30
                   try clear hx30
                   try clear c32
                   try clear c32b0
                   try clear c32b1
                   try clear c33
                   try clear c34
                   try clear c34b0
                   try clear c34b1
                   try clear c36
                   try clear c36b0
                   try clear c36b1
                   try clear c37
                   try clear c37b0
                   try clear c37b1
                   try clear c38
                   try clear c38b0
                   try clear c38b1
                   try clear c39
                   try clear c41
                   try clear c42
                   try clear c42b0
                   try clear c43
                   try clear c43b0
                   try clear c45
                   try clear c45b0
                   try clear c46
                   try clear c46b0
                   try clear c47
                   try clear c47b0
                   try clear c48
                   try clear c48b0
                   try clear c49
                   try clear c49b0
                   try clear c51
                   try clear c51b0
                   try clear c52
                   try clear c52b0
                   try clear p53
                   try clear q53
                   try clear hx53
                   try clear hf53
                   try clear c58
                   try clear c58b0
                   try clear c59
                   try clear c59b0
                   try clear c64
                   try clear p64
                   try clear c66
                   try clear c66b0
                   try clear c66b1
                   try clear c67
                   try clear c67b0
                   try clear c67b1
                   try clear c68
                   try clear c72
                   try clear hcz39_0
                   try clear hcz39_1
                   try clear hcz39_2
                   try clear hcz39_3
                   try clear hcz65_0
                   try clear hcz65_1
                   try clear hcz65_2
                   try clear hcz65_3
                   try clear hcz65_4
                   try clear hcz65_5
                   try clear hcz65_6
                   try clear hcz69_0
                   try clear hcz69_1
                   try clear hcz69_2
                   try clear hcz69_3
                   try clear hcz69_4
                   try clear hcz69_5
                   try clear hcz69_6
                   try clear hcz71_0
                   try clear hcz71_1
                   try clear hcz71_2
                   try clear hcz71_3
                   try clear hcz73_0
                   try clear hcz73_1
                   try clear hcz73_2
                   try clear hcz73_3
                   try clear hcz73_4
                   try clear hcz73_5
                   try clear hcz73_6
                   try clear hfz39_0
                   try clear hfz39_1
                   try clear hfz39_2
                   try clear hfz39_3
                   try clear hfz65_0
                   try clear hfz65_1
                   try clear hfz65_2
                   try clear hfz65_3
                   try clear hfz65_4
                   try clear hfz65_5
                   try clear hfz65_6
                   try clear hfz69_0
                   try clear hfz69_1
                   try clear hfz69_2
                   try clear hfz69_3
                   try clear hfz69_4
                   try clear hfz69_5
                   try clear hfz69_6
                   try clear hfz71_0
                   try clear hfz71_1
                   try clear hfz71_2
                   try clear hfz71_3
                   try clear hfz73_0
                   try clear hfz73_1
                   try clear hfz73_2
                   try clear hfz73_3
                   try clear hfz73_4
                   try clear hfz73_5
                   try clear hfz73_6
                   try clear hx289_0
                   try clear hx290_0
                   try clear hx304_0
                   try clear hx304_1
                   try clear hx305_0
                   try clear hx305_1
                   try clear hx306_0
                   try clear hx308_0
                   try clear hx53_0
                   try clear p2
                   try clear p28
                   try clear p289
                   try clear p29
                   try clear p290
                   try clear p3
                   try clear p30
                   try clear p304
                   try clear p305
                   try clear p306
                   try clear p308
                   try clear p5
                   try clear p53
                   try clear p6
                   try clear q1
                   try clear q17
                   try clear q2
                   try clear q28
                   try clear q289
                   try clear q29
                   try clear q290
                   try clear q3
                   try clear q30
                   try clear q304
                   try clear q305
                   try clear q306
                   try clear q308
                   try clear q5
                   try clear q53
                   obtain ⟨kq, x149_60, rfl, HA, HJ60, HO_7, HO_11, HO_16, BK275, BK320, HR308_0, HB⟩ := hcut
                   cases kq with
                   | zero => exact absurd HA.out (by simp [satchellaw27_VolumesMissing.j5])
                   | succ kj60 =>
                    have H := HA.out
                    clear HA
                    simp only [satchellaw27_VolumesMissing.j5] at H
                    by_cases c75 : x149_60 = true
                    ·
                     subst c75
                     have H1 : (some false) = some r := by rw [if_pos rfl] at H; exact H
                     clear H
                     have H := H1
                     clear H1
                     obtain rfl := Option.some.inj H
                     go_wp2
                     go_ret
                     exact ⟨by first | rfl | (simp [errW_none, errW_some] <;> rfl) | (simp [*, errW_none, errW_some] <;> rfl), by repeat (first | (with_reducible first | exact HB.out | apply below_alloc | apply pw_below_drewN | apply below_drew1 | refine below_set ?_ GE275.out | refine below_set ?_ GE320.out) | exact HB.out)⟩
                    ·
                     replace c75 := Bool.eq_false_iff.mpr c75
                     subst c75
                     have H1 : (satchellaw27_VolumesMissing.l4 kj60 x7_1 x11_4 x14_4 t316 t314 l0_0 a0_1 a0_2 a0_3 t309 t310 t311 t312 t313 t314 t315) = some r := by rw [if_neg (show ¬ (false = true) by decide)] at H; exact H
                     clear H
                     have H := H1
                     clear H1
                     have H' := Aside0.mk H
                     clear H
                     have hnb76 := NB320_275.out
                     have hnc76 := NB275_320.out
                     have hcz77_0 : wc.cell? ⟨gb320, 0, none⟩ = some (.int .u64 t309) := (blk_cell BK320.out 0).trans rfl
                     have hcz77_1 : wc.cell? ⟨gb320, 1, none⟩ = some (.int .i64 t310) := (blk_cell BK320.out 1).trans rfl
                     have hcz77_2 : wc.cell? ⟨gb320, 2, none⟩ = some (.int .i64 t311) := (blk_cell BK320.out 2).trans rfl
                     have hcz77_3 : wc.cell? ⟨gb320, 3, none⟩ = some (.bool t312) := (blk_cell BK320.out 3).trans rfl
                     have hcz77_4 : wc.cell? ⟨gb320, 4, none⟩ = some (.int .i64 t313) := (blk_cell BK320.out 4).trans rfl
                     have hcz77_5 : wc.cell? ⟨gb320, 5, none⟩ = some (.int .i64 t314) := (blk_cell BK320.out 5).trans rfl
                     have hcz77_6 : wc.cell? ⟨gb320, 6, none⟩ = some (.int .i64 t315) := (blk_cell BK320.out 6).trans rfl
                     have hfz77_0 := blk_frozen BK320.out 0
                     have hfz77_1 := blk_frozen BK320.out 1
                     have hfz77_2 := blk_frozen BK320.out 2
                     have hfz77_3 := blk_frozen BK320.out 3
                     have hfz77_4 := blk_frozen BK320.out 4
                     have hfz77_5 := blk_frozen BK320.out 5
                     have hfz77_6 := blk_frozen BK320.out 6
                     go_wp2
                     go_loopg [18] kj60 (fun kq v18 w' => ∃ (x11_6 : List Int) (x18_6 : Int), v18 = .int .i64 x18_6 ∧ Aside0 (satchellaw27_VolumesMissing.l4 kq x7_1 x11_6 x14_4 t316 x18_6 l0_0 a0_1 a0_2 a0_3 t309 t310 t311 t312 t313 t314 t315 = some r) ∧ Aside0 (kq ≤ kj60) ∧ Aside0 (Kd.N (Kd.slice 5 (Kd.int .u8)) 22 w' w.heap.size (fun k_ => some k_ ≠ (v302 : Value).ownBlock ∧ some k_ ≠ (v317 : Value).ownBlock ∧ k_ ≠ gb275 ∧ k_ ≠ gb320) (.slice (some ad308) x7_1.length co28) x7_1) ∧ Aside0 (Kd.R (Kd.int .i64) 3 w' w.heap.size (fun _ => True) v302 x11_6) ∧ Aside0 (Kd.R (Kd.int .u8) 5 w' w.heap.size (fun _ => True) v317 t316) ∧ Aside0 (w'.heap[gb275]? = some (.cells #[(.slice A0_0 l0_0.length c0_0), .int .i64 a0_1, .int .u64 a0_2, .bool a0_3] 25 (0, 0))) ∧ Aside0 (w'.heap[gb320]? = some (.cells #[.int .u64 t309, .int .i64 t310, .int .i64 t311, .bool t312, .int .i64 t313, .int .i64 t314, .int .i64 t315] 68 (0, 0))) ∧ Aside0 (Below w.heap.size w w'))
                     case atStart => exact ⟨(x11_4), (t314), (by first | rfl | (simp; done) | (simp [*]; done)), H', ⟨Nat.le_refl _⟩, ⟨by (with_reducible repeat (first | apply Kd.N_alloc | apply Kd.N_drewN | apply Kd.N_drew)); exact HO_7.out⟩, ⟨by (with_reducible repeat (first | apply Kd.R_alloc | apply Kd.R_drewN | apply Kd.R_drew)); exact HO_11.out⟩, ⟨by (with_reducible repeat (first | apply Kd.R_alloc | apply Kd.R_drewN | apply Kd.R_drew)); exact HO_16.out⟩, ⟨by (with_reducible repeat (first | refine blk_drewN ?_ _ | refine blk_drew ?_ | refine blk_alloc ?_ _)); exact BK275.out⟩, ⟨by (with_reducible repeat (first | refine blk_drewN ?_ _ | refine blk_drew ?_ | refine blk_alloc ?_ _)); exact BK320.out⟩, ⟨by repeat (first | (with_reducible first | exact HB.out | apply below_alloc | apply pw_below_drewN | apply below_drew1 | refine below_set ?_ GE275.out | refine below_set ?_ GE320.out) | exact HB.out)⟩⟩
                     case round =>
                      clear H'
                      try clear c1
                      try clear q1
                      try clear c2
                      try clear p2
                      try clear q2
                      try clear hx2
                      try clear c3
                      try clear p3
                      try clear q3
                      try clear hx3
                      try clear c4
                      try clear c5
                      try clear p5
                      try clear q5
                      try clear hx5
                      try clear hf5
                      try clear c6
                      try clear p6
                      try clear c7
                      try clear c12
                      try clear c14
                      try clear c14b0
                      try clear c15
                      try clear c15b0
                      try clear c16
                      try clear c16b0
                      try clear q17
                      try clear c18
                      try clear c19
                      try clear p28
                      try clear q28
                      try clear hx28
                      try clear c29
                      try clear p29
                      try clear q29
                      try clear hx29
                      try clear c30
                      try clear p30
                      try clear q30
                      try clear hx30
                      try clear c32
                      try clear c32b0
                      try clear c32b1
                      try clear c33
                      try clear c34
                      try clear c34b0
                      try clear c34b1
                      try clear c36
                      try clear c36b0
                      try clear c36b1
                      try clear c37
                      try clear c37b0
                      try clear c37b1
                      try clear c38
                      try clear c38b0
                      try clear c38b1
                      try clear c39
                      try clear c41
                      try clear c42
                      try clear c42b0
                      try clear c43
                      try clear c43b0
                      try clear c45
                      try clear c45b0
                      try clear c46
                      try clear c46b0
                      try clear c47
                      try clear c47b0
                      try clear c48
                      try clear c48b0
                      try clear c49
                      try clear c49b0
                      try clear c51
                      try clear c51b0
                      try clear c52
                      try clear c52b0
                      try clear p53
                      try clear q53
                      try clear hx53
                      try clear hf53
                      try clear c58
                      try clear c58b0
                      try clear c59
                      try clear c59b0
                      try clear c64
                      try clear p64
                      try clear c66
                      try clear c66b0
                      try clear c66b1
                      try clear c67
                      try clear c67b0
                      try clear c67b1
                      try clear c68
                      try clear c72
                      try clear c75
                      try clear c76
                      try clear hcz39_0
                      try clear hcz39_1
                      try clear hcz39_2
                      try clear hcz39_3
                      try clear hcz65_0
                      try clear hcz65_1
                      try clear hcz65_2
                      try clear hcz65_3
                      try clear hcz65_4
                      try clear hcz65_5
                      try clear hcz65_6
                      try clear hcz69_0
                      try clear hcz69_1
                      try clear hcz69_2
                      try clear hcz69_3
                      try clear hcz69_4
                      try clear hcz69_5
                      try clear hcz69_6
                      try clear hcz71_0
                      try clear hcz71_1
                      try clear hcz71_2
                      try clear hcz71_3
                      try clear hcz73_0
                      try clear hcz73_1
                      try clear hcz73_2
                      try clear hcz73_3
                      try clear hcz73_4
                      try clear hcz73_5
                      try clear hcz73_6
                      try clear hcz77_0
                      try clear hcz77_1
                      try clear hcz77_2
                      try clear hcz77_3
                      try clear hcz77_4
                      try clear hcz77_5
                      try clear hcz77_6
                      try clear hfz39_0
                      try clear hfz39_1
                      try clear hfz39_2
                      try clear hfz39_3
                      try clear hfz65_0
                      try clear hfz65_1
                      try clear hfz65_2
                      try clear hfz65_3
                      try clear hfz65_4
                      try clear hfz65_5
                      try clear hfz65_6
                      try clear hfz69_0
                      try clear hfz69_1
                      try clear hfz69_2
                      try clear hfz69_3
                      try clear hfz69_4
                      try clear hfz69_5
                      try clear hfz69_6
                      try clear hfz71_0
                      try clear hfz71_1
                      try clear hfz71_2
                      try clear hfz71_3
                      try clear hfz73_0
                      try clear hfz73_1
                      try clear hfz73_2
                      try clear hfz73_3
                      try clear hfz73_4
                      try clear hfz73_5
                      try clear hfz73_6
                      try clear hfz77_0
                      try clear hfz77_1
                      try clear hfz77_2
                      try clear hfz77_3
                      try clear hfz77_4
                      try clear hfz77_5
                      try clear hfz77_6
                      try clear hx289_0
                      try clear hx290_0
                      try clear hx304_0
                      try clear hx304_1
                      try clear hx305_0
                      try clear hx305_1
                      try clear hx306_0
                      try clear hx308_0
                      try clear hx53_0
                      try clear p2
                      try clear p28
                      try clear p289
                      try clear p29
                      try clear p290
                      try clear p3
                      try clear p30
                      try clear p304
                      try clear p305
                      try clear p306
                      try clear p308
                      try clear p5
                      try clear p53
                      try clear p6
                      try clear p64
                      try clear q1
                      try clear q17
                      try clear q2
                      try clear q28
                      try clear q289
                      try clear q29
                      try clear q290
                      try clear q3
                      try clear q30
                      try clear q304
                      try clear q305
                      try clear q306
                      try clear q308
                      try clear q5
                      try clear q53
                      obtain ⟨x11_6, x18_6, rfl, HA, HK6, HO_7, HO_11, HO_16, BK275, BK320, HB⟩ := hrel
                      cases gk with
                      | zero => exact absurd HA.out (by simp [satchellaw27_VolumesMissing.l4])
                      | succ k6 =>
                       have H := HA.out
                       clear HA
                       simp only [satchellaw27_VolumesMissing.l4] at H
                       have HC78 := Aside0.mk H
                       clear H
                       go_upto_region 30 with (fail)
                       go_cut [163] (fun v163 wc => ∃ (kq : Nat) (x163_77 : Bool), v163 = .bool x163_77 ∧ Aside0 (satchellaw27_VolumesMissing.j7 kq x7_1 x11_6 x14_4 t316 x18_6 x163_77 l0_0 a0_1 a0_2 a0_3 t309 t310 t311 t312 t313 t314 t315 = some r) ∧ Aside0 (kq ≤ k6) ∧ Aside0 (Kd.N (Kd.slice 5 (Kd.int .u8)) 22 wc w.heap.size (fun k_ => some k_ ≠ (v302 : Value).ownBlock ∧ some k_ ≠ (v317 : Value).ownBlock ∧ k_ ≠ gb275 ∧ k_ ≠ gb320) (.slice (some ad308) x7_1.length co28) x7_1) ∧ Aside0 (Kd.R (Kd.int .i64) 3 wc w.heap.size (fun _ => True) v302 x11_6) ∧ Aside0 (Kd.R (Kd.int .u8) 5 wc w.heap.size (fun _ => True) v317 t316) ∧ Aside0 (wc.heap[gb275]? = some (.cells #[(.slice A0_0 l0_0.length c0_0), .int .i64 a0_1, .int .u64 a0_2, .bool a0_3] 25 (0, 0))) ∧ Aside0 (wc.heap[gb320]? = some (.cells #[.int .u64 t309, .int .i64 t310, .int .i64 t311, .bool t312, .int .i64 t313, .int .i64 t314, .int .i64 t315] 68 (0, 0))) ∧ Aside0 (Below w.heap.size w wc))
                       case first =>
                        have H := HC78.out
                        clear HC78
                        by_cases c79 : x18_6 < (wrap64 (t314 + t315))
                        ·
                         rw [if_pos c79] at H
                         have c79b0 : decide (x18_6 < (wrap64 (t314 + t315))) = true := decide_eq_true c79
                         clear c79
                         (first | rw [c79b0] | (simp only [i64_w, i32_w]; rw [c79b0]) | skip)
                         have H' := Aside0.mk H
                         clear H
                         have hnb80 := NB320_275.out
                         have hnc80 := NB275_320.out
                         have hcz81_0 : wr.cell? ⟨gb320, 0, none⟩ = some (.int .u64 t309) := (blk_cell BK320.out 0).trans rfl
                         have hcz81_1 : wr.cell? ⟨gb320, 1, none⟩ = some (.int .i64 t310) := (blk_cell BK320.out 1).trans rfl
                         have hcz81_2 : wr.cell? ⟨gb320, 2, none⟩ = some (.int .i64 t311) := (blk_cell BK320.out 2).trans rfl
                         have hcz81_3 : wr.cell? ⟨gb320, 3, none⟩ = some (.bool t312) := (blk_cell BK320.out 3).trans rfl
                         have hcz81_4 : wr.cell? ⟨gb320, 4, none⟩ = some (.int .i64 t313) := (blk_cell BK320.out 4).trans rfl
                         have hcz81_5 : wr.cell? ⟨gb320, 5, none⟩ = some (.int .i64 t314) := (blk_cell BK320.out 5).trans rfl
                         have hcz81_6 : wr.cell? ⟨gb320, 6, none⟩ = some (.int .i64 t315) := (blk_cell BK320.out 6).trans rfl
                         have hfz81_0 := blk_frozen BK320.out 0
                         have hfz81_1 := blk_frozen BK320.out 1
                         have hfz81_2 := blk_frozen BK320.out 2
                         have hfz81_3 := blk_frozen BK320.out 3
                         have hfz81_4 := blk_frozen BK320.out 4
                         have hfz81_5 := blk_frozen BK320.out 5
                         have hfz81_6 := blk_frozen BK320.out 6
                         go_wp2
                         go_meet
                         case rel => exact ⟨_, (!t312), (by first | rfl | (simp; done) | (simp [*]; done)), H', ⟨by have := HK1.out; have := HJ25.out; have := HK3.out; have := HK4.out; have := HJ60.out; have := HK6.out; first | omega | exact Nat.le_refl _⟩, ⟨by (with_reducible repeat (first | apply Kd.N_alloc | apply Kd.N_drewN | apply Kd.N_drew)); exact HO_7.out⟩, ⟨by (with_reducible repeat (first | apply Kd.R_alloc | apply Kd.R_drewN | apply Kd.R_drew)); exact HO_11.out⟩, ⟨by (with_reducible repeat (first | apply Kd.R_alloc | apply Kd.R_drewN | apply Kd.R_drew)); exact HO_16.out⟩, ⟨by (with_reducible repeat (first | refine blk_drewN ?_ _ | refine blk_drew ?_ | refine blk_alloc ?_ _)); exact BK275.out⟩, ⟨by (with_reducible repeat (first | refine blk_drewN ?_ _ | refine blk_drew ?_ | refine blk_alloc ?_ _)); exact BK320.out⟩, ⟨by repeat (first | (with_reducible first | exact HB.out | apply below_alloc | apply pw_below_drewN | apply below_drew1 | refine below_set ?_ GE275.out | refine below_set ?_ GE320.out) | exact HB.out)⟩⟩
                        ·
                         rw [if_neg c79] at H
                         have c79b0 : decide (x18_6 < (wrap64 (t314 + t315))) = false := decide_eq_false c79
                         clear c79
                         (first | rw [c79b0] | (simp only [i64_w, i32_w]; rw [c79b0]) | skip)
                         have H' := Aside0.mk H
                         clear H
                         have hnb82 := NB320_275.out
                         have hnc82 := NB275_320.out
                         have hcz83_0 : wr.cell? ⟨gb320, 0, none⟩ = some (.int .u64 t309) := (blk_cell BK320.out 0).trans rfl
                         have hcz83_1 : wr.cell? ⟨gb320, 1, none⟩ = some (.int .i64 t310) := (blk_cell BK320.out 1).trans rfl
                         have hcz83_2 : wr.cell? ⟨gb320, 2, none⟩ = some (.int .i64 t311) := (blk_cell BK320.out 2).trans rfl
                         have hcz83_3 : wr.cell? ⟨gb320, 3, none⟩ = some (.bool t312) := (blk_cell BK320.out 3).trans rfl
                         have hcz83_4 : wr.cell? ⟨gb320, 4, none⟩ = some (.int .i64 t313) := (blk_cell BK320.out 4).trans rfl
                         have hcz83_5 : wr.cell? ⟨gb320, 5, none⟩ = some (.int .i64 t314) := (blk_cell BK320.out 5).trans rfl
                         have hcz83_6 : wr.cell? ⟨gb320, 6, none⟩ = some (.int .i64 t315) := (blk_cell BK320.out 6).trans rfl
                         have hfz83_0 := blk_frozen BK320.out 0
                         have hfz83_1 := blk_frozen BK320.out 1
                         have hfz83_2 := blk_frozen BK320.out 2
                         have hfz83_3 := blk_frozen BK320.out 3
                         have hfz83_4 := blk_frozen BK320.out 4
                         have hfz83_5 := blk_frozen BK320.out 5
                         have hfz83_6 := blk_frozen BK320.out 6
                         go_wp2
                         go_meet
                         case rel => exact ⟨_, (false), (by first | rfl | (simp; done) | (simp [*]; done)), H', ⟨by have := HK1.out; have := HJ25.out; have := HK3.out; have := HK4.out; have := HJ60.out; have := HK6.out; first | omega | exact Nat.le_refl _⟩, ⟨by (with_reducible repeat (first | apply Kd.N_alloc | apply Kd.N_drewN | apply Kd.N_drew)); exact HO_7.out⟩, ⟨by (with_reducible repeat (first | apply Kd.R_alloc | apply Kd.R_drewN | apply Kd.R_drew)); exact HO_11.out⟩, ⟨by (with_reducible repeat (first | apply Kd.R_alloc | apply Kd.R_drewN | apply Kd.R_drew)); exact HO_16.out⟩, ⟨by (with_reducible repeat (first | refine blk_drewN ?_ _ | refine blk_drew ?_ | refine blk_alloc ?_ _)); exact BK275.out⟩, ⟨by (with_reducible repeat (first | refine blk_drewN ?_ _ | refine blk_drew ?_ | refine blk_alloc ?_ _)); exact BK320.out⟩, ⟨by repeat (first | (with_reducible first | exact HB.out | apply below_alloc | apply pw_below_drewN | apply below_drew1 | refine below_set ?_ GE275.out | refine below_set ?_ GE320.out) | exact HB.out)⟩⟩
                       case rest =>
                        clear HC78
                        try clear c1
                        try clear q1
                        try clear c2
                        try clear p2
                        try clear q2
                        try clear hx2
                        try clear c3
                        try clear p3
                        try clear q3
                        try clear hx3
                        try clear c4
                        try clear c5
                        try clear p5
                        try clear q5
                        try clear hx5
                        try clear hf5
                        try clear c6
                        try clear p6
                        try clear c7
                        try clear c8
                        try clear c12
                        try clear c14
                        try clear c14b0
                        try clear c15
                        try clear c15b0
                        try clear c16
                        try clear c16b0
                        try clear q17
                        try clear c18
                        try clear c19
                        try clear p28
                        try clear q28
                        try clear hx28
                        try clear c29
                        try clear p29
                        try clear q29
                        try clear hx29
                        try clear c30
                        try clear p30
                        try clear q30
                        try clear hx30
                        try clear c32
                        try clear c32b0
                        try clear c32b1
                        try clear c33
                        try clear c34
                        try clear c34b0
                        try clear c34b1
                        try clear c36
                        try clear c36b0
                        try clear c36b1
                        try clear c37
                        try clear c37b0
                        try clear c37b1
                        try clear c38
                        try clear c38b0
                        try clear c38b1
                        try clear c39
                        try clear c41
                        try clear c42
                        try clear c42b0
                        try clear c43
                        try clear c43b0
                        try clear c45
                        try clear c45b0
                        try clear c46
                        try clear c46b0
                        try clear c47
                        try clear c47b0
                        try clear c48
                        try clear c48b0
                        try clear c49
                        try clear c49b0
                        try clear c51
                        try clear c51b0
                        try clear c52
                        try clear c52b0
                        try clear p53
                        try clear q53
                        try clear hx53
                        try clear hf53
                        try clear c58
                        try clear c58b0
                        try clear c59
                        try clear c59b0
                        try clear c64
                        try clear p64
                        try clear c66
                        try clear c66b0
                        try clear c66b1
                        try clear c67
                        try clear c67b0
                        try clear c67b1
                        try clear c68
                        try clear c72
                        try clear c75
                        try clear c76
                        try clear c79
                        try clear c79b0
                        try clear c80
                        try clear c82
                        try clear hcz39_0
                        try clear hcz39_1
                        try clear hcz39_2
                        try clear hcz39_3
                        try clear hcz65_0
                        try clear hcz65_1
                        try clear hcz65_2
                        try clear hcz65_3
                        try clear hcz65_4
                        try clear hcz65_5
                        try clear hcz65_6
                        try clear hcz69_0
                        try clear hcz69_1
                        try clear hcz69_2
                        try clear hcz69_3
                        try clear hcz69_4
                        try clear hcz69_5
                        try clear hcz69_6
                        try clear hcz71_0
                        try clear hcz71_1
                        try clear hcz71_2
                        try clear hcz71_3
                        try clear hcz73_0
                        try clear hcz73_1
                        try clear hcz73_2
                        try clear hcz73_3
                        try clear hcz73_4
                        try clear hcz73_5
                        try clear hcz73_6
                        try clear hcz77_0
                        try clear hcz77_1
                        try clear hcz77_2
                        try clear hcz77_3
                        try clear hcz77_4
                        try clear hcz77_5
                        try clear hcz77_6
                        try clear hcz81_0
                        try clear hcz81_1
                        try clear hcz81_2
                        try clear hcz81_3
                        try clear hcz81_4
                        try clear hcz81_5
                        try clear hcz81_6
                        try clear hcz83_0
                        try clear hcz83_1
                        try clear hcz83_2
                        try clear hcz83_3
                        try clear hcz83_4
                        try clear hcz83_5
                        try clear hcz83_6
                        try clear hfz39_0
                        try clear hfz39_1
                        try clear hfz39_2
                        try clear hfz39_3
                        try clear hfz65_0
                        try clear hfz65_1
                        try clear hfz65_2
                        try clear hfz65_3
                        try clear hfz65_4
                        try clear hfz65_5
                        try clear hfz65_6
                        try clear hfz69_0
                        try clear hfz69_1
                        try clear hfz69_2
                        try clear hfz69_3
                        try clear hfz69_4
                        try clear hfz69_5
                        try clear hfz69_6
                        try clear hfz71_0
                        try clear hfz71_1
                        try clear hfz71_2
                        try clear hfz71_3
                        try clear hfz73_0
                        try clear hfz73_1
                        try clear hfz73_2
                        try clear hfz73_3
                        try clear hfz73_4
                        try clear hfz73_5
                        try clear hfz73_6
                        try clear hfz77_0
                        try clear hfz77_1
                        try clear hfz77_2
                        try clear hfz77_3
                        try clear hfz77_4
                        try clear hfz77_5
                        try clear hfz77_6
                        try clear hfz81_0
                        try clear hfz81_1
                        try clear hfz81_2
                        try clear hfz81_3
                        try clear hfz81_4
                        try clear hfz81_5
                        try clear hfz81_6
                        try clear hfz83_0
                        try clear hfz83_1
                        try clear hfz83_2
                        try clear hfz83_3
                        try clear hfz83_4
                        try clear hfz83_5
                        try clear hfz83_6
                        try clear hx289_0
                        try clear hx290_0
                        try clear hx304_0
                        try clear hx304_1
                        try clear hx305_0
                        try clear hx305_1
                        try clear hx306_0
                        try clear hx308_0
                        try clear hx53_0
                        try clear p2
                        try clear p28
                        try clear p289
                        try clear p29
                        try clear p290
                        try clear p3
                        try clear p30
                        try clear p304
                        try clear p305
                        try clear p306
                        try clear p308
                        try clear p5
                        try clear p53
                        try clear p6
                        try clear p64
                        try clear q1
                        try clear q17
                        try clear q2
                        try clear q28
                        try clear q289
                        try clear q29
                        try clear q290
                        try clear q3
                        try clear q30
                        try clear q304
                        try clear q305
                        try clear q306
                        try clear q308
                        try clear q5
                        try clear q53
                        obtain ⟨kq, x163_77, rfl, HA, HJ77, HO_7, HO_11, HO_16, BK275, BK320, HB⟩ := hcut
                        cases kq with
                        | zero => exact absurd HA.out (by simp [satchellaw27_VolumesMissing.j7])
                        | succ kj77 =>
                         have H := HA.out
                         clear HA
                         simp only [satchellaw27_VolumesMissing.j7] at H
                         by_cases c84 : x163_77 = true
                         ·
                          subst c84
                          have H1 : (if x18_6 < 0 then (some false) else (if x18_6 ≥ (x11_6.length : Int) then (some false) else (if 0 ≤ (wrap64 (x18_6 - t314)) then (if (wrap64 (x18_6 - t314)) < (t316.length : Int) then (if 0 ≤ x18_6 then (if x18_6 < (l0_0.length : Int) then (if (rd t316 (wrap64 (x18_6 - t314))) = (rd l0_0 x18_6) then (if x18_6 < (x11_6.length : Int) then (satchellaw27_VolumesMissing.l4 kj77 x7_1 (x11_6.set (x18_6 : Int).toNat (wrap64 ((rd x11_6 x18_6) + 1))) x14_4 t316 (wrap64 (x18_6 + 1)) l0_0 a0_1 a0_2 a0_3 t309 t310 t311 t312 t313 t314 t315) else (none)) else (some false)) else (none)) else (none)) else (none)) else (none)))) = some r := by rw [if_pos rfl] at H; exact H
                          clear H
                          have H := H1
                          clear H1
                          by_cases c85 : x18_6 < 0
                          ·
                           rw [if_pos c85] at H
                           have c85b0 : decide (x18_6 < 0) = true := decide_eq_true c85
                           clear c85
                           obtain rfl := Option.some.inj H
                           try go_wp2
                           have n0_ := Aside0.mk (Kd.N_drew HO_7.out)
                           have n1_ := Aside0.mk (Kd.R_drew HO_11.out)
                           have n2_ := Aside0.mk (Kd.R_drew HO_16.out)
                           have n3_ := Aside0.mk (blk_drew BK275.out)
                           have n4_ := Aside0.mk (blk_drew BK320.out)
                           have n5_ := Aside0.mk (below_drew1 HB.out)
                           clear HO_7
                           clear HO_11
                           clear HO_16
                           clear BK275
                           clear BK320
                           clear HB
                           have HO_7 := n0_
                           have HO_11 := n1_
                           have HO_16 := n2_
                           have BK275 := n3_
                           have BK320 := n4_
                           have HB := n5_
                           clear n0_ n1_ n2_ n3_ n4_ n5_
                           refine start_ (n := 23) (S := fun w' => True) (ds := []) #[false, false, false, false, false, false, false, false, false, false, false, false, false, false, false, false, false, false, false, false, false, false, false] (by kernel_rfl) rfl rfl trivial (fun hHeld => ?_); refine with_tabW satchellaw27_VolumesMissing.tab32 satchellaw27_VolumesMissing.bits32 (fun HT_ HW_ => ?_)
                           generalize wc.drew = w86 at HO_7 HO_11 HO_16 BK275 BK320 HB hHeld ⊢
                           refine pure_ (i := 0) (N := some 166) (v := ?_) (a' := ?_) #[true, false, false, false, false, false, false, false, false, false, false, false, false, false, false, false, false, false, false, false, false, false, false] rfl rfl (any_of HT_.out (by kernel_rfl)) (fun _ _ _ h => h) (Or.inl ⟨by rfl, ?_⟩) ?_ ?_
                           rotate_left
                           ·
                            intro w'
                            go_simp
                            with_reducible rfl
                           rotate_left
                           ·
                            simp only [Act.put, List.setIfInBounds_toArray, List.set_cons_zero, List.set_cons_succ, i64_w, i32_w]
                            rfl
                           refine pure_ (i := 1) (N := some 167) (v := ?_) (a' := ?_) #[true, true, false, false, false, false, false, false, false, false, false, false, false, false, false, false, false, false, false, false, false, false, false] rfl rfl (any_of HT_.out (by kernel_rfl)) (fun _ _ _ h => h) (Or.inl ⟨by rfl, ?_⟩) ?_ ?_
                           rotate_left
                           ·
                            intro w'
                            go_simp
                            with_reducible rfl
                           rotate_left
                           ·
                            simp only [Act.put, List.setIfInBounds_toArray, List.set_cons_zero, List.set_cons_succ, i64_w, i32_w]
                            rfl
                           refine pure_ (i := 2) (N := some 168) (v := ?_) (a' := ?_) #[true, true, true, false, false, false, false, false, false, false, false, false, false, false, false, false, false, false, false, false, false, false, false] rfl rfl (any_of HT_.out (by kernel_rfl)) (fun _ _ _ h => h) (Or.inl ⟨by rfl, ?_⟩) ?_ ?_
                           rotate_left
                           ·
                            intro w'
                            go_simp
                            with_reducible rfl
                           rotate_left
                           ·
                            simp only [Act.put, List.setIfInBounds_toArray, List.set_cons_zero, List.set_cons_succ, i64_w, i32_w]
                            rfl
                           refine pure_ (i := 3) (N := some 169) (v := undef) (a' := ?_) #[true, true, true, true, false, false, false, false, false, false, false, false, false, false, false, false, false, false, false, false, false, false, false] rfl rfl (any_of HT_.out (by kernel_rfl)) (fun _ _ _ h => h) (Or.inr ⟨by rfl, rfl⟩) ?_ ?_
                           rotate_left
                           ·
                            simp only [Act.put, List.setIfInBounds_toArray, List.set_cons_zero, List.set_cons_succ, i64_w, i32_w]
                            rfl
                           refine pure_ (i := 4) (N := some 170) (v := undef) (a' := ?_) #[true, true, true, true, true, false, false, false, false, false, false, false, false, false, false, false, false, false, false, false, false, false, false] rfl rfl (any_of HT_.out (by kernel_rfl)) (fun _ _ _ h => h) (Or.inr ⟨by rfl, rfl⟩) ?_ ?_
                           rotate_left
                           ·
                            simp only [Act.put, List.setIfInBounds_toArray, List.set_cons_zero, List.set_cons_succ, i64_w, i32_w]
                            rfl
                           refine pure_ (i := 5) (N := some 171) (v := undef) (a' := ?_) #[true, true, true, true, true, true, false, false, false, false, false, false, false, false, false, false, false, false, false, false, false, false, false] rfl rfl (any_of HT_.out (by kernel_rfl)) (fun _ _ _ h => h) (Or.inr ⟨by rfl, rfl⟩) ?_ ?_
                           rotate_left
                           ·
                            simp only [Act.put, List.setIfInBounds_toArray, List.set_cons_zero, List.set_cons_succ, i64_w, i32_w]
                            rfl
                           refine pure_ (i := 6) (N := some 172) (v := undef) (a' := ?_) #[true, true, true, true, true, true, true, false, false, false, false, false, false, false, false, false, false, false, false, false, false, false, false] rfl rfl (any_of HT_.out (by kernel_rfl)) (fun _ _ _ h => h) (Or.inr ⟨by rfl, rfl⟩) ?_ ?_
                           rotate_left
                           ·
                            simp only [Act.put, List.setIfInBounds_toArray, List.set_cons_zero, List.set_cons_succ, i64_w, i32_w]
                            rfl
                           refine pure_ (i := 7) (N := some 173) (v := ?_) (a' := ?_) #[true, true, true, true, true, true, true, true, false, false, false, false, false, false, false, false, false, false, false, false, false, false, false] rfl rfl (any_of HT_.out (by kernel_rfl)) (fun _ _ _ h => h) (Or.inl ⟨by rfl, ?_⟩) ?_ ?_
                           rotate_left
                           ·
                            intro w'
                            go_simp
                            with_reducible rfl
                           rotate_left
                           ·
                            simp only [Act.put, List.setIfInBounds_toArray, List.set_cons_zero, List.set_cons_succ, i64_w, i32_w]
                            rfl
                           refine pure_ (i := 8) (N := some 174) (v := ?_) (a' := ?_) #[true, true, true, true, true, true, true, true, true, false, false, false, false, false, false, false, false, false, false, false, false, false, false] rfl rfl (any_of HT_.out (by kernel_rfl)) (fun _ _ _ h => h) (Or.inl ⟨by rfl, ?_⟩) ?_ ?_
                           rotate_left
                           ·
                            intro w'
                            go_simp
                            with_reducible rfl
                           rotate_left
                           ·
                            simp only [Act.put, List.setIfInBounds_toArray, List.set_cons_zero, List.set_cons_succ, i64_w, i32_w]
                            rfl
                           refine pure_ (i := 9) (N := some 175) (v := undef) (a' := ?_) #[true, true, true, true, true, true, true, true, true, true, false, false, false, false, false, false, false, false, false, false, false, false, false] rfl rfl (any_of HT_.out (by kernel_rfl)) (fun _ _ _ h => h) (Or.inr ⟨by rfl, rfl⟩) ?_ ?_
                           rotate_left
                           ·
                            simp only [Act.put, List.setIfInBounds_toArray, List.set_cons_zero, List.set_cons_succ, i64_w, i32_w]
                            rfl
                           refine pure_ (i := 10) (N := some 176) (v := undef) (a' := ?_) #[true, true, true, true, true, true, true, true, true, true, true, false, false, false, false, false, false, false, false, false, false, false, false] rfl rfl (any_of HT_.out (by kernel_rfl)) (fun _ _ _ h => h) (Or.inr ⟨by rfl, rfl⟩) ?_ ?_
                           rotate_left
                           ·
                            simp only [Act.put, List.setIfInBounds_toArray, List.set_cons_zero, List.set_cons_succ, i64_w, i32_w]
                            rfl
                           refine pure_ (i := 11) (N := some 177) (v := undef) (a' := ?_) #[true, true, true, true, true, true, true, true, true, true, true, true, false, false, false, false, false, false, false, false, false, false, false] rfl rfl (any_of HT_.out (by kernel_rfl)) (fun _ _ _ h => h) (Or.inr ⟨by rfl, rfl⟩) ?_ ?_
                           rotate_left
                           ·
                            simp only [Act.put, List.setIfInBounds_toArray, List.set_cons_zero, List.set_cons_succ, i64_w, i32_w]
                            rfl
                           refine pure_ (i := 12) (N := some 178) (v := undef) (a' := ?_) #[true, true, true, true, true, true, true, true, true, true, true, true, true, false, false, false, false, false, false, false, false, false, false] rfl rfl (any_of HT_.out (by kernel_rfl)) (fun _ _ _ h => h) (Or.inr ⟨by rfl, rfl⟩) ?_ ?_
                           rotate_left
                           ·
                            simp only [Act.put, List.setIfInBounds_toArray, List.set_cons_zero, List.set_cons_succ, i64_w, i32_w]
                            rfl
                           refine pure_ (i := 13) (N := some 179) (v := undef) (a' := ?_) #[true, true, true, true, true, true, true, true, true, true, true, true, true, true, false, false, false, false, false, false, false, false, false] rfl rfl (any_of HT_.out (by kernel_rfl)) (fun _ _ _ h => h) (Or.inr ⟨by rfl, rfl⟩) ?_ ?_
                           rotate_left
                           ·
                            simp only [Act.put, List.setIfInBounds_toArray, List.set_cons_zero, List.set_cons_succ, i64_w, i32_w]
                            rfl
                           refine pure_ (i := 14) (N := some 180) (v := undef) (a' := ?_) #[true, true, true, true, true, true, true, true, true, true, true, true, true, true, true, false, false, false, false, false, false, false, false] rfl rfl (any_of HT_.out (by kernel_rfl)) (fun _ _ _ h => h) (Or.inr ⟨by rfl, rfl⟩) ?_ ?_
                           rotate_left
                           ·
                            simp only [Act.put, List.setIfInBounds_toArray, List.set_cons_zero, List.set_cons_succ, i64_w, i32_w]
                            rfl
                           refine pure_ (i := 15) (N := some 181) (v := undef) (a' := ?_) #[true, true, true, true, true, true, true, true, true, true, true, true, true, true, true, true, false, false, false, false, false, false, false] rfl rfl (any_of HT_.out (by kernel_rfl)) (fun _ _ _ h => h) (Or.inr ⟨by rfl, rfl⟩) ?_ ?_
                           rotate_left
                           ·
                            simp only [Act.put, List.setIfInBounds_toArray, List.set_cons_zero, List.set_cons_succ, i64_w, i32_w]
                            rfl
                           refine pure_ (i := 16) (N := some 182) (v := undef) (a' := ?_) #[true, true, true, true, true, true, true, true, true, true, true, true, true, true, true, true, true, false, false, false, false, false, false] rfl rfl (any_of HT_.out (by kernel_rfl)) (fun _ _ _ h => h) (Or.inr ⟨by rfl, rfl⟩) ?_ ?_
                           rotate_left
                           ·
                            simp only [Act.put, List.setIfInBounds_toArray, List.set_cons_zero, List.set_cons_succ, i64_w, i32_w]
                            rfl
                           refine pure_ (i := 17) (N := some 183) (v := undef) (a' := ?_) #[true, true, true, true, true, true, true, true, true, true, true, true, true, true, true, true, true, true, false, false, false, false, false] rfl rfl (any_of HT_.out (by kernel_rfl)) (fun _ _ _ h => h) (Or.inr ⟨by rfl, rfl⟩) ?_ ?_
                           rotate_left
                           ·
                            simp only [Act.put, List.setIfInBounds_toArray, List.set_cons_zero, List.set_cons_succ, i64_w, i32_w]
                            rfl
                           refine pure_ (i := 18) (N := some 184) (v := undef) (a' := ?_) #[true, true, true, true, true, true, true, true, true, true, true, true, true, true, true, true, true, true, true, false, false, false, false] rfl rfl (any_of HT_.out (by kernel_rfl)) (fun _ _ _ h => h) (Or.inr ⟨by rfl, rfl⟩) ?_ ?_
                           rotate_left
                           ·
                            simp only [Act.put, List.setIfInBounds_toArray, List.set_cons_zero, List.set_cons_succ, i64_w, i32_w]
                            rfl
                           refine pure_ (i := 19) (N := some 185) (v := undef) (a' := ?_) #[true, true, true, true, true, true, true, true, true, true, true, true, true, true, true, true, true, true, true, true, false, false, false] rfl rfl (any_of HT_.out (by kernel_rfl)) (fun _ _ _ h => h) (Or.inr ⟨by rfl, rfl⟩) ?_ ?_
                           rotate_left
                           ·
                            simp only [Act.put, List.setIfInBounds_toArray, List.set_cons_zero, List.set_cons_succ, i64_w, i32_w]
                            rfl
                           refine pure_ (i := 20) (N := some 186) (v := undef) (a' := ?_) #[true, true, true, true, true, true, true, true, true, true, true, true, true, true, true, true, true, true, true, true, true, false, false] rfl rfl (any_of HT_.out (by kernel_rfl)) (fun _ _ _ h => h) (Or.inr ⟨by rfl, rfl⟩) ?_ ?_
                           rotate_left
                           ·
                            simp only [Act.put, List.setIfInBounds_toArray, List.set_cons_zero, List.set_cons_succ, i64_w, i32_w]
                            rfl
                           refine pure_ (i := 21) (N := some 187) (v := undef) (a' := ?_) #[true, true, true, true, true, true, true, true, true, true, true, true, true, true, true, true, true, true, true, true, true, true, false] rfl rfl (any_of HT_.out (by kernel_rfl)) (fun _ _ _ h => h) (Or.inr ⟨by rfl, rfl⟩) ?_ ?_
                           rotate_left
                           ·
                            simp only [Act.put, List.setIfInBounds_toArray, List.set_cons_zero, List.set_cons_succ, i64_w, i32_w]
                            rfl
                           refine pure_ (i := 22) (N := some 188) (v := ?_) (a' := ?_) #[true, true, true, true, true, true, true, true, true, true, true, true, true, true, true, true, true, true, true, true, true, true, true] rfl rfl (any_of HT_.out (by kernel_rfl)) (fun _ _ _ h => h) (Or.inl ⟨by rfl, ?_⟩) ?_ ?_
                           rotate_left
                           ·
                            intro w'
                            go_simp
                            with_reducible rfl
                           rotate_left
                           ·
                            simp only [Act.put, List.setIfInBounds_toArray, List.set_cons_zero, List.set_cons_succ, i64_w, i32_w]
                            rfl
                           refine done_ (done_of HT_.out (by kernel_rfl)) ?_
                           try go_wp2
                           go_ret
                           exact ⟨by first | rfl | (simp [errW_none, errW_some] <;> rfl) | (simp [*, errW_none, errW_some] <;> rfl), by repeat (first | (with_reducible first | exact HB.out | apply below_alloc | apply pw_below_drewN | apply below_drew1 | refine below_set ?_ GE275.out | refine below_set ?_ GE320.out) | exact HB.out)⟩
                          ·
                           rw [if_neg c85] at H
                           have c85b0 : decide (x18_6 < 0) = false := decide_eq_false c85
                           clear c85
                           by_cases c87 : x18_6 ≥ (x11_6.length : Int)
                           ·
                            rw [if_pos c87] at H
                            have c87b0 : decide ((x11_6.length : Int) ≤ x18_6) = true := decide_eq_true c87
                            clear c87
                            obtain rfl := Option.some.inj H
                            try go_wp2
                            have n0_ := Aside0.mk (Kd.N_drew HO_7.out)
                            have n1_ := Aside0.mk (Kd.R_drew HO_11.out)
                            have n2_ := Aside0.mk (Kd.R_drew HO_16.out)
                            have n3_ := Aside0.mk (blk_drew BK275.out)
                            have n4_ := Aside0.mk (blk_drew BK320.out)
                            have n5_ := Aside0.mk (below_drew1 HB.out)
                            clear HO_7
                            clear HO_11
                            clear HO_16
                            clear BK275
                            clear BK320
                            clear HB
                            have HO_7 := n0_
                            have HO_11 := n1_
                            have HO_16 := n2_
                            have BK275 := n3_
                            have BK320 := n4_
                            have HB := n5_
                            clear n0_ n1_ n2_ n3_ n4_ n5_
                            obtain ⟨Ao89, co89, eo89⟩ := Kd.R_slice HO_11.out
                            (first | subst eo89 | (injection eo89 with f1_ f2_ f3_; have f4_ := f1_.symm; have f5_ := f3_.symm; clear f1_ f2_ f3_; subst f4_; subst f5_))
                            refine start_ (n := 23) (S := fun w' => True) (ds := []) #[false, false, false, false, false, false, false, false, false, false, false, false, false, false, false, false, false, false, false, false, false, false, false] (by kernel_rfl) rfl rfl trivial (fun hHeld => ?_); refine with_tabW satchellaw27_VolumesMissing.tab32 satchellaw27_VolumesMissing.bits32 (fun HT_ HW_ => ?_)
                            generalize wc.drew = w88 at HO_7 HO_11 HO_16 BK275 BK320 HB hHeld ⊢
                            refine pure_ (i := 0) (N := some 166) (v := ?_) (a' := ?_) #[true, false, false, false, false, false, false, false, false, false, false, false, false, false, false, false, false, false, false, false, false, false, false] rfl rfl (any_of HT_.out (by kernel_rfl)) (fun _ _ _ h => h) (Or.inl ⟨by rfl, ?_⟩) ?_ ?_
                            rotate_left
                            ·
                             intro w'
                             go_simp
                             with_reducible rfl
                            rotate_left
                            ·
                             simp only [Act.put, List.setIfInBounds_toArray, List.set_cons_zero, List.set_cons_succ, i64_w, i32_w]
                             rfl
                            refine pure_ (i := 1) (N := some 167) (v := ?_) (a' := ?_) #[true, true, false, false, false, false, false, false, false, false, false, false, false, false, false, false, false, false, false, false, false, false, false] rfl rfl (any_of HT_.out (by kernel_rfl)) (fun _ _ _ h => h) (Or.inl ⟨by rfl, ?_⟩) ?_ ?_
                            rotate_left
                            ·
                             intro w'
                             go_simp
                             with_reducible rfl
                            rotate_left
                            ·
                             simp only [Act.put, List.setIfInBounds_toArray, List.set_cons_zero, List.set_cons_succ, i64_w, i32_w]
                             rfl
                            refine pure_ (i := 2) (N := some 168) (v := ?_) (a' := ?_) #[true, true, true, false, false, false, false, false, false, false, false, false, false, false, false, false, false, false, false, false, false, false, false] rfl rfl (any_of HT_.out (by kernel_rfl)) (fun _ _ _ h => h) (Or.inl ⟨by rfl, ?_⟩) ?_ ?_
                            rotate_left
                            ·
                             intro w'
                             go_simp
                             with_reducible rfl
                            rotate_left
                            ·
                             simp only [Act.put, List.setIfInBounds_toArray, List.set_cons_zero, List.set_cons_succ, i64_w, i32_w]
                             rfl
                            refine pure_ (i := 3) (N := some 169) (v := ?_) (a' := ?_) #[true, true, true, true, false, false, false, false, false, false, false, false, false, false, false, false, false, false, false, false, false, false, false] rfl rfl (any_of HT_.out (by kernel_rfl)) (fun _ _ _ h => h) (Or.inl ⟨by rfl, ?_⟩) ?_ ?_
                            rotate_left
                            ·
                             intro w'
                             go_simp
                             with_reducible rfl
                            rotate_left
                            ·
                             simp only [Act.put, List.setIfInBounds_toArray, List.set_cons_zero, List.set_cons_succ, i64_w, i32_w]
                             rfl
                            refine pure_ (i := 4) (N := some 170) (v := ?_) (a' := ?_) #[true, true, true, true, true, false, false, false, false, false, false, false, false, false, false, false, false, false, false, false, false, false, false] rfl rfl (any_of HT_.out (by kernel_rfl)) (fun _ _ _ h => h) (Or.inl ⟨by rfl, ?_⟩) ?_ ?_
                            rotate_left
                            ·
                             intro w'
                             go_simp
                             with_reducible rfl
                            rotate_left
                            ·
                             simp only [Act.put, List.setIfInBounds_toArray, List.set_cons_zero, List.set_cons_succ, i64_w, i32_w]
                             rfl
                            refine pure_ (i := 5) (N := some 171) (v := ?_) (a' := ?_) #[true, true, true, true, true, true, false, false, false, false, false, false, false, false, false, false, false, false, false, false, false, false, false] rfl rfl (any_of HT_.out (by kernel_rfl)) (fun _ _ _ h => h) (Or.inl ⟨by rfl, ?_⟩) ?_ ?_
                            rotate_left
                            ·
                             intro w'
                             go_simp
                             with_reducible rfl
                            rotate_left
                            ·
                             simp only [Act.put, List.setIfInBounds_toArray, List.set_cons_zero, List.set_cons_succ, i64_w, i32_w]
                             rfl
                            refine pure_ (i := 6) (N := some 172) (v := ?_) (a' := ?_) #[true, true, true, true, true, true, true, false, false, false, false, false, false, false, false, false, false, false, false, false, false, false, false] rfl rfl (any_of HT_.out (by kernel_rfl)) (fun _ _ _ h => h) (Or.inl ⟨by rfl, ?_⟩) ?_ ?_
                            rotate_left
                            ·
                             intro w'
                             go_simp
                             with_reducible rfl
                            rotate_left
                            ·
                             simp only [Act.put, List.setIfInBounds_toArray, List.set_cons_zero, List.set_cons_succ, i64_w, i32_w]
                             rfl
                            refine pure_ (i := 7) (N := some 173) (v := ?_) (a' := ?_) #[true, true, true, true, true, true, true, true, false, false, false, false, false, false, false, false, false, false, false, false, false, false, false] rfl rfl (any_of HT_.out (by kernel_rfl)) (fun _ _ _ h => h) (Or.inl ⟨by rfl, ?_⟩) ?_ ?_
                            rotate_left
                            ·
                             intro w'
                             go_simp
                             with_reducible rfl
                            rotate_left
                            ·
                             simp only [Act.put, List.setIfInBounds_toArray, List.set_cons_zero, List.set_cons_succ, i64_w, i32_w]
                             rfl
                            refine pure_ (i := 8) (N := some 174) (v := ?_) (a' := ?_) #[true, true, true, true, true, true, true, true, true, false, false, false, false, false, false, false, false, false, false, false, false, false, false] rfl rfl (any_of HT_.out (by kernel_rfl)) (fun _ _ _ h => h) (Or.inl ⟨by rfl, ?_⟩) ?_ ?_
                            rotate_left
                            ·
                             intro w'
                             go_simp
                             with_reducible rfl
                            rotate_left
                            ·
                             simp only [Act.put, List.setIfInBounds_toArray, List.set_cons_zero, List.set_cons_succ, i64_w, i32_w]
                             rfl
                            refine pure_ (i := 9) (N := some 175) (v := undef) (a' := ?_) #[true, true, true, true, true, true, true, true, true, true, false, false, false, false, false, false, false, false, false, false, false, false, false] rfl rfl (any_of HT_.out (by kernel_rfl)) (fun _ _ _ h => h) (Or.inr ⟨by rfl, rfl⟩) ?_ ?_
                            rotate_left
                            ·
                             simp only [Act.put, List.setIfInBounds_toArray, List.set_cons_zero, List.set_cons_succ, i64_w, i32_w]
                             rfl
                            refine pure_ (i := 10) (N := some 176) (v := undef) (a' := ?_) #[true, true, true, true, true, true, true, true, true, true, true, false, false, false, false, false, false, false, false, false, false, false, false] rfl rfl (any_of HT_.out (by kernel_rfl)) (fun _ _ _ h => h) (Or.inr ⟨by rfl, rfl⟩) ?_ ?_
                            rotate_left
                            ·
                             simp only [Act.put, List.setIfInBounds_toArray, List.set_cons_zero, List.set_cons_succ, i64_w, i32_w]
                             rfl
                            refine pure_ (i := 11) (N := some 177) (v := undef) (a' := ?_) #[true, true, true, true, true, true, true, true, true, true, true, true, false, false, false, false, false, false, false, false, false, false, false] rfl rfl (any_of HT_.out (by kernel_rfl)) (fun _ _ _ h => h) (Or.inr ⟨by rfl, rfl⟩) ?_ ?_
                            rotate_left
                            ·
                             simp only [Act.put, List.setIfInBounds_toArray, List.set_cons_zero, List.set_cons_succ, i64_w, i32_w]
                             rfl
                            refine pure_ (i := 12) (N := some 178) (v := undef) (a' := ?_) #[true, true, true, true, true, true, true, true, true, true, true, true, true, false, false, false, false, false, false, false, false, false, false] rfl rfl (any_of HT_.out (by kernel_rfl)) (fun _ _ _ h => h) (Or.inr ⟨by rfl, rfl⟩) ?_ ?_
                            rotate_left
                            ·
                             simp only [Act.put, List.setIfInBounds_toArray, List.set_cons_zero, List.set_cons_succ, i64_w, i32_w]
                             rfl
                            refine pure_ (i := 13) (N := some 179) (v := undef) (a' := ?_) #[true, true, true, true, true, true, true, true, true, true, true, true, true, true, false, false, false, false, false, false, false, false, false] rfl rfl (any_of HT_.out (by kernel_rfl)) (fun _ _ _ h => h) (Or.inr ⟨by rfl, rfl⟩) ?_ ?_
                            rotate_left
                            ·
                             simp only [Act.put, List.setIfInBounds_toArray, List.set_cons_zero, List.set_cons_succ, i64_w, i32_w]
                             rfl
                            refine pure_ (i := 14) (N := some 180) (v := undef) (a' := ?_) #[true, true, true, true, true, true, true, true, true, true, true, true, true, true, true, false, false, false, false, false, false, false, false] rfl rfl (any_of HT_.out (by kernel_rfl)) (fun _ _ _ h => h) (Or.inr ⟨by rfl, rfl⟩) ?_ ?_
                            rotate_left
                            ·
                             simp only [Act.put, List.setIfInBounds_toArray, List.set_cons_zero, List.set_cons_succ, i64_w, i32_w]
                             rfl
                            refine pure_ (i := 15) (N := some 181) (v := undef) (a' := ?_) #[true, true, true, true, true, true, true, true, true, true, true, true, true, true, true, true, false, false, false, false, false, false, false] rfl rfl (any_of HT_.out (by kernel_rfl)) (fun _ _ _ h => h) (Or.inr ⟨by rfl, rfl⟩) ?_ ?_
                            rotate_left
                            ·
                             simp only [Act.put, List.setIfInBounds_toArray, List.set_cons_zero, List.set_cons_succ, i64_w, i32_w]
                             rfl
                            refine pure_ (i := 16) (N := some 182) (v := undef) (a' := ?_) #[true, true, true, true, true, true, true, true, true, true, true, true, true, true, true, true, true, false, false, false, false, false, false] rfl rfl (any_of HT_.out (by kernel_rfl)) (fun _ _ _ h => h) (Or.inr ⟨by rfl, rfl⟩) ?_ ?_
                            rotate_left
                            ·
                             simp only [Act.put, List.setIfInBounds_toArray, List.set_cons_zero, List.set_cons_succ, i64_w, i32_w]
                             rfl
                            refine pure_ (i := 17) (N := some 183) (v := undef) (a' := ?_) #[true, true, true, true, true, true, true, true, true, true, true, true, true, true, true, true, true, true, false, false, false, false, false] rfl rfl (any_of HT_.out (by kernel_rfl)) (fun _ _ _ h => h) (Or.inr ⟨by rfl, rfl⟩) ?_ ?_
                            rotate_left
                            ·
                             simp only [Act.put, List.setIfInBounds_toArray, List.set_cons_zero, List.set_cons_succ, i64_w, i32_w]
                             rfl
                            refine pure_ (i := 18) (N := some 184) (v := undef) (a' := ?_) #[true, true, true, true, true, true, true, true, true, true, true, true, true, true, true, true, true, true, true, false, false, false, false] rfl rfl (any_of HT_.out (by kernel_rfl)) (fun _ _ _ h => h) (Or.inr ⟨by rfl, rfl⟩) ?_ ?_
                            rotate_left
                            ·
                             simp only [Act.put, List.setIfInBounds_toArray, List.set_cons_zero, List.set_cons_succ, i64_w, i32_w]
                             rfl
                            refine pure_ (i := 19) (N := some 185) (v := undef) (a' := ?_) #[true, true, true, true, true, true, true, true, true, true, true, true, true, true, true, true, true, true, true, true, false, false, false] rfl rfl (any_of HT_.out (by kernel_rfl)) (fun _ _ _ h => h) (Or.inr ⟨by rfl, rfl⟩) ?_ ?_
                            rotate_left
                            ·
                             simp only [Act.put, List.setIfInBounds_toArray, List.set_cons_zero, List.set_cons_succ, i64_w, i32_w]
                             rfl
                            refine pure_ (i := 20) (N := some 186) (v := undef) (a' := ?_) #[true, true, true, true, true, true, true, true, true, true, true, true, true, true, true, true, true, true, true, true, true, false, false] rfl rfl (any_of HT_.out (by kernel_rfl)) (fun _ _ _ h => h) (Or.inr ⟨by rfl, rfl⟩) ?_ ?_
                            rotate_left
                            ·
                             simp only [Act.put, List.setIfInBounds_toArray, List.set_cons_zero, List.set_cons_succ, i64_w, i32_w]
                             rfl
                            refine pure_ (i := 21) (N := some 187) (v := undef) (a' := ?_) #[true, true, true, true, true, true, true, true, true, true, true, true, true, true, true, true, true, true, true, true, true, true, false] rfl rfl (any_of HT_.out (by kernel_rfl)) (fun _ _ _ h => h) (Or.inr ⟨by rfl, rfl⟩) ?_ ?_
                            rotate_left
                            ·
                             simp only [Act.put, List.setIfInBounds_toArray, List.set_cons_zero, List.set_cons_succ, i64_w, i32_w]
                             rfl
                            refine pure_ (i := 22) (N := some 188) (v := ?_) (a' := ?_) #[true, true, true, true, true, true, true, true, true, true, true, true, true, true, true, true, true, true, true, true, true, true, true] rfl rfl (any_of HT_.out (by kernel_rfl)) (fun _ _ _ h => h) (Or.inl ⟨by rfl, ?_⟩) ?_ ?_
                            rotate_left
                            ·
                             intro w'
                             go_simp
                             with_reducible rfl
                            rotate_left
                            ·
                             simp only [Act.put, List.setIfInBounds_toArray, List.set_cons_zero, List.set_cons_succ, i64_w, i32_w]
                             rfl
                            refine done_ (done_of HT_.out (by kernel_rfl)) ?_
                            try go_wp2
                            go_ret
                            exact ⟨by first | rfl | (simp [errW_none, errW_some] <;> rfl) | (simp [*, errW_none, errW_some] <;> rfl), by repeat (first | (with_reducible first | exact HB.out | apply below_alloc | apply pw_below_drewN | apply below_drew1 | refine below_set ?_ GE275.out | refine below_set ?_ GE320.out) | exact HB.out)⟩
                           ·
                            rw [if_neg c87] at H
                            have c87b0 : decide ((x11_6.length : Int) ≤ x18_6) = false := decide_eq_false c87
                            clear c87
                            obtain ⟨ji90, hji90⟩ : ∃ j_ : Int, (wrap64 (x18_6 - t314)) = j_ := ⟨_, rfl⟩
                            replace H : (if 0 ≤ (ji90) then (if (ji90) < (t316.length : Int) then (if 0 ≤ x18_6 then (if x18_6 < (l0_0.length : Int) then (if (rd t316 (ji90)) = (rd l0_0 x18_6) then (if x18_6 < (x11_6.length : Int) then (satchellaw27_VolumesMissing.l4 kj77 x7_1 (x11_6.set (x18_6 : Int).toNat (wrap64 ((rd x11_6 x18_6) + 1))) x14_4 t316 (wrap64 (x18_6 + 1)) l0_0 a0_1 a0_2 a0_3 t309 t310 t311 t312 t313 t314 t315) else (none)) else (some false)) else (none)) else (none)) else (none)) else (none)) = some r := by first | (rw [hji90] at H; exact H) | (simp only [hji90] at H ⊢; exact H)
                            have hji90w : (IntKind.i64.wrap (x18_6 - t314)) = ji90 := (i64_w _).trans hji90
                            by_cases c91 : 0 ≤ (ji90)
                            ·
                             rw [if_pos c91] at H
                             have c91b0 : decide (0 ≤ (ji90)) = true := decide_eq_true c91
                             clear c91
                             by_cases c92 : (ji90) < (t316.length : Int)
                             ·
                              rw [if_pos c92] at H
                              have c92b0 : decide ((ji90) < (t316.length : Int)) = true := decide_eq_true c92
                              clear c92
                              by_cases c93 : 0 ≤ x18_6
                              ·
                               rw [if_pos c93] at H
                               have c93b0 : decide (0 ≤ x18_6) = true := decide_eq_true c93
                               clear c93
                               by_cases c94 : x18_6 < (l0_0.length : Int)
                               ·
                                rw [if_pos c94] at H
                                have c94b0 : decide (x18_6 < (l0_0.length : Int)) = true := decide_eq_true c94
                                clear c94
                                by_cases c95 : (rd t316 (ji90)) = (rd l0_0 x18_6)
                                ·
                                 rw [if_pos c95] at H
                                 have c95b0 : ((rd t316 (ji90)) == (rd l0_0 x18_6)) = true := beq_iff_eq.mpr c95
                                 have c95b1 : ((rd t316 (ji90)) != (rd l0_0 x18_6)) = false := bne_eq_false_iff_eq.mpr c95
                                 clear c95
                                 by_cases c96 : x18_6 < (x11_6.length : Int)
                                 ·
                                  rw [if_pos c96] at H
                                  have c96b0 : decide (x18_6 < (x11_6.length : Int)) = true := decide_eq_true c96
                                  clear c96
                                  obtain ⟨y324, hy324⟩ : ∃ y_ : List Int, y_ = (x11_6.set (x18_6 : Int).toNat (wrap64 ((rd x11_6 x18_6) + 1))) := ⟨_, rfl⟩
                                  replace H : (satchellaw27_VolumesMissing.l4 kj77 x7_1 y324 x14_4 t316 (wrap64 (x18_6 + 1)) l0_0 a0_1 a0_2 a0_3 t309 t310 t311 t312 t313 t314 t315) = some r := by first | (rw [hy324]; with_reducible exact H) | (have H2_ := (Option.bind_some _ _).symm.trans H; rw [hy324]; with_reducible exact H2_) | (have H2_ := (Option.bind_some _ _).symm.trans H; with_reducible exact H2_) | with_reducible exact H | (rw [hy324]; exact H) | exact H
                                  have Ny324 := Aside0.mk hy324
                                  clear hy324
                                  have H' := Aside0.mk H
                                  clear H
                                  try go_wp2
                                  have n0_ := Aside0.mk (Kd.N_drew HO_7.out)
                                  have n1_ := Aside0.mk (Kd.R_drew HO_11.out)
                                  have n2_ := Aside0.mk (Kd.R_drew HO_16.out)
                                  have n3_ := Aside0.mk (blk_drew BK275.out)
                                  have n4_ := Aside0.mk (blk_drew BK320.out)
                                  have n5_ := Aside0.mk (below_drew1 HB.out)
                                  clear HO_7
                                  clear HO_11
                                  clear HO_16
                                  clear BK275
                                  clear BK320
                                  clear HB
                                  have HO_7 := n0_
                                  have HO_11 := n1_
                                  have HO_16 := n2_
                                  have BK275 := n3_
                                  have BK320 := n4_
                                  have HB := n5_
                                  clear n0_ n1_ n2_ n3_ n4_ n5_
                                  obtain ⟨Ao99, co99, eo99⟩ := Kd.R_slice HO_11.out
                                  (first | subst eo99 | (injection eo99 with f1_ f2_ f3_; have f4_ := f1_.symm; have f5_ := f3_.symm; clear f1_ f2_ f3_; subst f4_; subst f5_))
                                  obtain ⟨Ao100, co100, eo100⟩ := Kd.R_slice HO_16.out
                                  (first | subst eo100 | (injection eo100 with f1_ f2_ f3_; have f4_ := f1_.symm; have f5_ := f3_.symm; clear f1_ f2_ f3_; subst f4_; subst f5_))
                                  have p321 : 0 ≤ ((ji90) : Int) := of_decide_eq_true (by first | (with_reducible assumption) | assumption)
                                  have q321 : (ji90) < (t316.length : Int) := of_decide_eq_true (by first | (with_reducible assumption) | assumption)
                                  obtain ⟨ad321, e321, hx321_0⟩ := Kd.at_int (Kd.R_reads' HO_16.out).2.2 (ji90) p321 q321
                                  cases e321
                                  replace p321 := eq_true p321
                                  replace q321 := eq_true q321
                                  have p322 : 0 ≤ (x18_6 : Int) := of_decide_eq_true (by first | (with_reducible assumption) | assumption)
                                  have q322 : x18_6 < (l0_0.length : Int) := of_decide_eq_true (by first | (with_reducible assumption) | assumption)
                                  obtain ⟨ad322, e322, hx322_0⟩ := Kd.at_int HR0_0.out x18_6 p322 q322
                                  have hw322_0 := hx322_0
                                  cases e322
                                  replace hx322_0 := (HB.out.cell (World.block_lt_of_cell? w _ hx322_0)).trans hx322_0
                                  replace p322 := eq_true p322
                                  replace q322 := eq_true q322
                                  refine start_ (n := 23) (S := fun w' => w'.cell? ⟨gb320, 0, none⟩ = some (.int .u64 t309) ∧ w'.cell? ⟨gb320, 1, none⟩ = some (.int .i64 t310) ∧ w'.cell? ⟨gb320, 2, none⟩ = some (.int .i64 t311) ∧ w'.cell? ⟨gb320, 3, none⟩ = some (.bool t312) ∧ w'.cell? ⟨gb320, 4, none⟩ = some (.int .i64 t313) ∧ w'.cell? ⟨gb320, 5, none⟩ = some (.int .i64 t314) ∧ w'.cell? ⟨gb320, 6, none⟩ = some (.int .i64 t315) ∧ w'.cell? ⟨gb275, 0, none⟩ = some (.slice (some ad322) l0_0.length c0_0) ∧ w'.cell? ⟨gb275, 1, none⟩ = some (.int .i64 a0_1) ∧ w'.cell? ⟨gb275, 2, none⟩ = some (.int .u64 a0_2) ∧ w'.cell? ⟨gb275, 3, none⟩ = some (.bool a0_3) ∧ w'.cell? (ad321.add ((ji90)).toNat) = some (.int .u8 (rd t316 (ji90))) ∧ w'.cell? (ad322.add (x18_6).toNat) = some (.int .u8 (rd l0_0 x18_6))) (ds := []) #[false, false, false, false, false, false, false, false, false, false, false, false, false, false, false, false, false, false, false, false, false, false, false] (by kernel_rfl) rfl rfl ⟨(blk_cell BK320.out 0).trans rfl, (blk_cell BK320.out 1).trans rfl, (blk_cell BK320.out 2).trans rfl, (blk_cell BK320.out 3).trans rfl, (blk_cell BK320.out 4).trans rfl, (blk_cell BK320.out 5).trans rfl, (blk_cell BK320.out 6).trans rfl, (blk_cell BK275.out 0).trans rfl, (blk_cell BK275.out 1).trans rfl, (blk_cell BK275.out 2).trans rfl, (blk_cell BK275.out 3).trans rfl, hx321_0, ((HB.out.cell (World.block_lt_of_cell? w _ hw322_0)).trans hw322_0)⟩ (fun hHeld => ?_); refine with_tabW satchellaw27_VolumesMissing.tab32 satchellaw27_VolumesMissing.bits32 (fun HT_ HW_ => ?_)
                                  generalize wc.drew = w98 at HO_7 HO_11 HO_16 BK275 BK320 HB hx321_0 hx322_0 hHeld ⊢
                                  refine pure_ (i := 0) (N := some 166) (v := ?_) (a' := ?_) #[true, false, false, false, false, false, false, false, false, false, false, false, false, false, false, false, false, false, false, false, false, false, false] rfl rfl (any_of HT_.out (by kernel_rfl)) (fun _ _ _ h => h) (Or.inl ⟨by rfl, ?_⟩) ?_ ?_
                                  rotate_left
                                  ·
                                   intro w'
                                   go_simp
                                   with_reducible rfl
                                  rotate_left
                                  ·
                                   simp only [Act.put, List.setIfInBounds_toArray, List.set_cons_zero, List.set_cons_succ, i64_w, i32_w]
                                   rfl
                                  refine pure_ (i := 1) (N := some 167) (v := ?_) (a' := ?_) #[true, true, false, false, false, false, false, false, false, false, false, false, false, false, false, false, false, false, false, false, false, false, false] rfl rfl (any_of HT_.out (by kernel_rfl)) (fun _ _ _ h => h) (Or.inl ⟨by rfl, ?_⟩) ?_ ?_
                                  rotate_left
                                  ·
                                   intro w'
                                   go_simp
                                   with_reducible rfl
                                  rotate_left
                                  ·
                                   simp only [Act.put, List.setIfInBounds_toArray, List.set_cons_zero, List.set_cons_succ, i64_w, i32_w]
                                   rfl
                                  refine pure_ (i := 2) (N := some 168) (v := ?_) (a' := ?_) #[true, true, true, false, false, false, false, false, false, false, false, false, false, false, false, false, false, false, false, false, false, false, false] rfl rfl (any_of HT_.out (by kernel_rfl)) (fun _ _ _ h => h) (Or.inl ⟨by rfl, ?_⟩) ?_ ?_
                                  rotate_left
                                  ·
                                   intro w'
                                   go_simp
                                   with_reducible rfl
                                  rotate_left
                                  ·
                                   simp only [Act.put, List.setIfInBounds_toArray, List.set_cons_zero, List.set_cons_succ, i64_w, i32_w]
                                   rfl
                                  refine pure_ (i := 3) (N := some 169) (v := ?_) (a' := ?_) #[true, true, true, true, false, false, false, false, false, false, false, false, false, false, false, false, false, false, false, false, false, false, false] rfl rfl (any_of HT_.out (by kernel_rfl)) (fun _ _ _ h => h) (Or.inl ⟨by rfl, ?_⟩) ?_ ?_
                                  rotate_left
                                  ·
                                   intro w'
                                   go_simp
                                   with_reducible rfl
                                  rotate_left
                                  ·
                                   simp only [Act.put, List.setIfInBounds_toArray, List.set_cons_zero, List.set_cons_succ, i64_w, i32_w]
                                   rfl
                                  refine pure_ (i := 4) (N := some 170) (v := ?_) (a' := ?_) #[true, true, true, true, true, false, false, false, false, false, false, false, false, false, false, false, false, false, false, false, false, false, false] rfl rfl (any_of HT_.out (by kernel_rfl)) (fun _ _ _ h => h) (Or.inl ⟨by rfl, ?_⟩) ?_ ?_
                                  rotate_left
                                  ·
                                   intro w'
                                   go_simp
                                   with_reducible rfl
                                  rotate_left
                                  ·
                                   simp only [Act.put, List.setIfInBounds_toArray, List.set_cons_zero, List.set_cons_succ, i64_w, i32_w]
                                   rfl
                                  refine pure_ (i := 5) (N := some 171) (v := ?_) (a' := ?_) #[true, true, true, true, true, true, false, false, false, false, false, false, false, false, false, false, false, false, false, false, false, false, false] rfl rfl (any_of HT_.out (by kernel_rfl)) (fun _ _ _ h => h) (Or.inl ⟨by rfl, ?_⟩) ?_ ?_
                                  rotate_left
                                  ·
                                   intro w'
                                   go_simp
                                   with_reducible rfl
                                  rotate_left
                                  ·
                                   simp only [Act.put, List.setIfInBounds_toArray, List.set_cons_zero, List.set_cons_succ, i64_w, i32_w]
                                   rfl
                                  refine pure_ (i := 6) (N := some 172) (v := ?_) (a' := ?_) #[true, true, true, true, true, true, true, false, false, false, false, false, false, false, false, false, false, false, false, false, false, false, false] rfl rfl (any_of HT_.out (by kernel_rfl)) (fun _ _ _ h => h) (Or.inl ⟨by rfl, ?_⟩) ?_ ?_
                                  rotate_left
                                  ·
                                   intro w'
                                   go_simp
                                   with_reducible rfl
                                  rotate_left
                                  ·
                                   simp only [Act.put, List.setIfInBounds_toArray, List.set_cons_zero, List.set_cons_succ, i64_w, i32_w]
                                   rfl
                                  refine pure_ (i := 7) (N := some 173) (v := ?_) (a' := ?_) #[true, true, true, true, true, true, true, true, false, false, false, false, false, false, false, false, false, false, false, false, false, false, false] rfl rfl (any_of HT_.out (by kernel_rfl)) (fun _ _ _ h => h) (Or.inl ⟨by rfl, ?_⟩) ?_ ?_
                                  rotate_left
                                  ·
                                   intro w'
                                   go_simp
                                   with_reducible rfl
                                  rotate_left
                                  ·
                                   simp only [Act.put, List.setIfInBounds_toArray, List.set_cons_zero, List.set_cons_succ, i64_w, i32_w]
                                   rfl
                                  refine pure_ (i := 8) (N := some 174) (v := ?_) (a' := ?_) #[true, true, true, true, true, true, true, true, true, false, false, false, false, false, false, false, false, false, false, false, false, false, false] rfl rfl (any_of HT_.out (by kernel_rfl)) (fun _ _ _ h => h) (Or.inl ⟨by rfl, ?_⟩) ?_ ?_
                                  rotate_left
                                  ·
                                   intro w'
                                   go_simp
                                   with_reducible rfl
                                  rotate_left
                                  ·
                                   simp only [Act.put, List.setIfInBounds_toArray, List.set_cons_zero, List.set_cons_succ, i64_w, i32_w]
                                   rfl
                                  refine pure_ (i := 9) (N := some 175) (v := ?_) (a' := ?_) #[true, true, true, true, true, true, true, true, true, true, false, false, false, false, false, false, false, false, false, false, false, false, false] rfl rfl (any_of HT_.out (by kernel_rfl)) (fun _ _ _ h => h) (Or.inl ⟨by rfl, ?_⟩) ?_ ?_
                                  rotate_left
                                  ·
                                   intro w'
                                   go_simp
                                   with_reducible rfl
                                  rotate_left
                                  ·
                                   simp only [Act.put, List.setIfInBounds_toArray, List.set_cons_zero, List.set_cons_succ, i64_w, i32_w]
                                   rfl
                                  refine pure_ (i := 10) (N := some 176) (v := ?_) (a' := ?_) #[true, true, true, true, true, true, true, true, true, true, true, false, false, false, false, false, false, false, false, false, false, false, false] rfl rfl (any_of HT_.out (by kernel_rfl)) (fun _ _ _ h => h) (Or.inl ⟨by rfl, ?_⟩) ?_ ?_
                                  rotate_left
                                  ·
                                   intro w'
                                   go_simp
                                   with_reducible rfl
                                  rotate_left
                                  ·
                                   simp only [Act.put, List.setIfInBounds_toArray, List.set_cons_zero, List.set_cons_succ, i64_w, i32_w]
                                   rfl
                                  refine pure_ (i := 11) (N := some 177) (v := ?_) (a' := ?_) #[true, true, true, true, true, true, true, true, true, true, true, true, false, false, false, false, false, false, false, false, false, false, false] rfl rfl (any_of HT_.out (by kernel_rfl)) (fun _ _ _ h => h) (Or.inl ⟨by rfl, ?_⟩) ?_ ?_
                                  rotate_left
                                  ·
                                   intro w'
                                   go_simp
                                   with_reducible rfl
                                  rotate_left
                                  ·
                                   simp only [Act.put, List.setIfInBounds_toArray, List.set_cons_zero, List.set_cons_succ, i64_w, i32_w]
                                   rfl
                                  refine pure_ (i := 16) (N := some 182) (v := ?_) (a' := ?_) #[true, true, true, true, true, true, true, true, true, true, true, true, false, false, false, false, true, false, false, false, false, false, false] rfl rfl (any_of HT_.out (by kernel_rfl)) (fun _ _ _ h => h) (Or.inl ⟨by rfl, ?_⟩) ?_ ?_
                                  rotate_left
                                  ·
                                   intro w'
                                   go_simp
                                   with_reducible rfl
                                  rotate_left
                                  ·
                                   simp only [Act.put, List.setIfInBounds_toArray, List.set_cons_zero, List.set_cons_succ, i64_w, i32_w]
                                   rfl
                                  refine pure_ (i := 18) (N := some 184) (v := ?_) (a' := ?_) #[true, true, true, true, true, true, true, true, true, true, true, true, false, false, false, false, true, false, true, false, false, false, false] rfl rfl (any_of HT_.out (by kernel_rfl)) (fun _ _ _ h => h) (Or.inl ⟨by rfl, ?_⟩) ?_ ?_
                                  rotate_left
                                  ·
                                   intro w'
                                   go_simp
                                   with_reducible rfl
                                  rotate_left
                                  ·
                                   simp only [Act.put, List.setIfInBounds_toArray, List.set_cons_zero, List.set_cons_succ, i64_w, i32_w]
                                   rfl
                                  refine take_ (i := 12) (N := some 178) (v := ?_) (a' := ?_) #[true, true, true, true, true, true, true, true, true, true, true, true, true, false, false, false, true, false, true, false, false, false, false] rfl rfl (take_ofW HT_.out HW_.out (by kernel_rfl)) (fun _ _ _ h => h) (Or.inl ⟨by rfl, ?_⟩) hHeld ?_ ?_
                                  rotate_left
                                  ·
                                   rintro w' ⟨s0, s1, s2, s3, s4, s5, s6, s7, s8, s9, s10, s11, s12⟩
                                   go_simp
                                   with_reducible rfl
                                  rotate_left
                                  ·
                                   simp only [Act.put, List.setIfInBounds_toArray, List.set_cons_zero, List.set_cons_succ, i64_w, i32_w]
                                   rfl
                                  refine pure_ (i := 13) (N := some 179) (v := ?_) (a' := ?_) #[true, true, true, true, true, true, true, true, true, true, true, true, true, true, false, false, true, false, true, false, false, false, false] rfl rfl (any_of HT_.out (by kernel_rfl)) (fun _ _ _ h => h) (Or.inl ⟨by rfl, ?_⟩) ?_ ?_
                                  rotate_left
                                  ·
                                   intro w'
                                   go_simp
                                   with_reducible rfl
                                  rotate_left
                                  ·
                                   simp only [Act.put, List.setIfInBounds_toArray, List.set_cons_zero, List.set_cons_succ, i64_w, i32_w]
                                   rfl
                                  refine pure_ (i := 14) (N := some 180) (v := ?_) (a' := ?_) #[true, true, true, true, true, true, true, true, true, true, true, true, true, true, true, false, true, false, true, false, false, false, false] rfl rfl (any_of HT_.out (by kernel_rfl)) (fun _ _ _ h => h) (Or.inl ⟨by rfl, ?_⟩) ?_ ?_
                                  rotate_left
                                  ·
                                   intro w'
                                   go_simp
                                   with_reducible rfl
                                  rotate_left
                                  ·
                                   simp only [Act.put, List.setIfInBounds_toArray, List.set_cons_zero, List.set_cons_succ, i64_w, i32_w]
                                   rfl
                                  refine take_ (i := 15) (N := some 181) (v := ?_) (a' := ?_) #[true, true, true, true, true, true, true, true, true, true, true, true, true, true, true, true, true, false, true, false, false, false, false] rfl rfl (take_ofW HT_.out HW_.out (by kernel_rfl)) (fun _ _ _ h => h) (Or.inl ⟨by rfl, ?_⟩) hHeld ?_ ?_
                                  rotate_left
                                  ·
                                   rintro w' ⟨s0, s1, s2, s3, s4, s5, s6, s7, s8, s9, s10, s11, s12⟩
                                   go_simp
                                   with_reducible rfl
                                  rotate_left
                                  ·
                                   simp only [Act.put, List.setIfInBounds_toArray, List.set_cons_zero, List.set_cons_succ, i64_w, i32_w]
                                   rfl
                                  refine take_ (i := 17) (N := some 183) (v := ?_) (a' := ?_) #[true, true, true, true, true, true, true, true, true, true, true, true, true, true, true, true, true, true, true, false, false, false, false] rfl rfl (take_ofW HT_.out HW_.out (by kernel_rfl)) (fun _ _ _ h => h) (Or.inl ⟨by rfl, ?_⟩) hHeld ?_ ?_
                                  rotate_left
                                  ·
                                   rintro w' ⟨s0, s1, s2, s3, s4, s5, s6, s7, s8, s9, s10, s11, s12⟩
                                   go_simp
                                   with_reducible rfl
                                  rotate_left
                                  ·
                                   simp only [Act.put, List.setIfInBounds_toArray, List.set_cons_zero, List.set_cons_succ, i64_w, i32_w]
                                   rfl
                                  refine pure_ (i := 19) (N := some 185) (v := ?_) (a' := ?_) #[true, true, true, true, true, true, true, true, true, true, true, true, true, true, true, true, true, true, true, true, false, false, false] rfl rfl (any_of HT_.out (by kernel_rfl)) (fun _ _ _ h => h) (Or.inl ⟨by rfl, ?_⟩) ?_ ?_
                                  rotate_left
                                  ·
                                   intro w'
                                   go_simp
                                   with_reducible rfl
                                  rotate_left
                                  ·
                                   simp only [Act.put, List.setIfInBounds_toArray, List.set_cons_zero, List.set_cons_succ, i64_w, i32_w]
                                   rfl
                                  refine take_ (i := 20) (N := some 186) (v := ?_) (a' := ?_) #[true, true, true, true, true, true, true, true, true, true, true, true, true, true, true, true, true, true, true, true, true, false, false] rfl rfl (take_ofW HT_.out HW_.out (by kernel_rfl)) (fun _ _ _ h => h) (Or.inl ⟨by rfl, ?_⟩) hHeld ?_ ?_
                                  rotate_left
                                  ·
                                   rintro w' ⟨s0, s1, s2, s3, s4, s5, s6, s7, s8, s9, s10, s11, s12⟩
                                   go_simp
                                   with_reducible rfl
                                  rotate_left
                                  ·
                                   simp only [Act.put, List.setIfInBounds_toArray, List.set_cons_zero, List.set_cons_succ, i64_w, i32_w]
                                   rfl
                                  refine pure_ (i := 21) (N := some 187) (v := ?_) (a' := ?_) #[true, true, true, true, true, true, true, true, true, true, true, true, true, true, true, true, true, true, true, true, true, true, false] rfl rfl (any_of HT_.out (by kernel_rfl)) (fun _ _ _ h => h) (Or.inl ⟨by rfl, ?_⟩) ?_ ?_
                                  rotate_left
                                  ·
                                   intro w'
                                   go_simp
                                   with_reducible rfl
                                  rotate_left
                                  ·
                                   simp only [Act.put, List.setIfInBounds_toArray, List.set_cons_zero, List.set_cons_succ, i64_w, i32_w]
                                   rfl
                                  refine pure_ (i := 22) (N := some 188) (v := ?_) (a' := ?_) #[true, true, true, true, true, true, true, true, true, true, true, true, true, true, true, true, true, true, true, true, true, true, true] rfl rfl (any_of HT_.out (by kernel_rfl)) (fun _ _ _ h => h) (Or.inl ⟨by rfl, ?_⟩) ?_ ?_
                                  rotate_left
                                  ·
                                   intro w'
                                   go_simp
                                   with_reducible rfl
                                  rotate_left
                                  ·
                                   simp only [Act.put, List.setIfInBounds_toArray, List.set_cons_zero, List.set_cons_succ, i64_w, i32_w]
                                   rfl
                                  refine done_ (done_of HT_.out (by kernel_rfl)) ?_
                                  have p323 : 0 ≤ (x18_6 : Int) := of_decide_eq_true (by first | (with_reducible assumption) | assumption)
                                  have q323 : x18_6 < (x11_6.length : Int) := of_decide_eq_true (by first | (with_reducible assumption) | assumption)
                                  obtain ⟨ad323, e323, hx323_0⟩ := Kd.at_int (Kd.R_reads' HO_11.out).2.2 x18_6 p323 q323
                                  cases e323
                                  replace p323 := eq_true p323
                                  replace q323 := eq_true q323
                                  have p97 : 0 ≤ (x18_6 : Int) := of_decide_eq_true (by first | (with_reducible assumption) | assumption)
                                  have q97 : (x18_6 : Int) < ((x11_6.length : Int) : Int) := of_decide_eq_true (by first | (with_reducible assumption) | assumption)
                                  obtain ⟨go97, co97, eo97, gb97, gl97, cl97, HG97⟩ := Kd.R_form HO_11.out (by omega)
                                  (first | cases eo97 | (injection eo97 with ea_ en_ ec_; (first | subst ea_ | (injection ea_ with ea_; subst ea_)); subst ec_; clear en_))
                                  have GB97 := Aside0.mk gb97
                                  have GG97 := Aside0.mk HG97
                                  clear gb97 gl97 HG97
                                  (first | simp only [add_plain] at hx323_0 | skip)
                                  obtain ⟨hx97_0, hf97_0⟩ := Kd.R_celln 0 HO_11.out (x18_6 : Int) p97 q97
                                  replace p97 := eq_true p97
                                  replace q97 := eq_true q97
                                  obtain ⟨hy101_, hz101_⟩ := Kd.R_celln 0 HO_11.out (x18_6 : Int) (of_decide_eq_true (by first | (with_reducible assumption) | assumption)) (of_decide_eq_true (by first | (with_reducible assumption) | assumption))
                                  have HP101 := Kd.R_putg HO_11.out (x18_6 : Int) (wrap64 ((rd x11_6 x18_6) + 1))
                                  try go_wp2_with (first | ((with_reducible refine gate_store (t := 3) (p := 194) rfl ?_); refine store_event (t := 3) (p := 194) (v := ?vo_w102) (w1 := (w98.setCell ⟨go97, (x18_6 : Int).toNat, none⟩ (.int .i64 (wrap64 ((rd x11_6 x18_6) + 1))))) ?hg ?ho ?hn ?hr ?_; (case ho => rfl); (case hg => rfl); (case hn => rfl); (case hr => first | (go_simp; done) | (go_simp; rfl)); intro w102 hw; have hg : w98.grownBy w102 (some go97) := (by rw [hw]; exact HP101.2); have hp_ : Kd.R (Kd.int .i64) 3 w102 w.heap.size (fun _ => True) (.slice (some ⟨go97, 0, none⟩) x11_6.length co99) y324 := (by rw [hw, Ny324.out]; exact HP101.1); clear HP101; have n0_ := Aside0.mk (Kd.N_afterv (v := (.slice (some ⟨go97, 0, none⟩) x11_6.length co99)) (v1 := (.slice (some ⟨go97, 0, none⟩) x11_6.length co99)) (ok := (fun k_ => some k_ ≠ (.slice (some ad321) t316.length co100 : Value).ownBlock ∧ k_ ≠ gb275 ∧ k_ ≠ gb320)) (by (with_reducible repeat (first | apply Kd.N_alloc | apply Kd.N_drewN | apply Kd.N_drew)); exact Kd.N_mono HO_7.out (fun _ hk => ⟨⟨hk.2.1, ⟨hk.2.2.1, hk.2.2.2⟩⟩, hk.1⟩)) hg (.inl rfl)); have n1_ := Aside0.mk (hp_); have n2_ := Aside0.mk (Kd.R_over' (v := (.slice (some ⟨go97, 0, none⟩) x11_6.length co99)) (by (with_reducible repeat (first | apply Kd.R_alloc | apply Kd.R_drewN | apply Kd.R_drew)); exact HO_16.out) (Kd.R_typed HO_11.out) (by decide) hg); have n3_ := Aside0.mk (blk_grown (g := gb275) (o := .cells #[.slice (some ad322) l0_0.length c0_0, .int .i64 a0_1, .int .u64 a0_2, .bool a0_3] 25 (0, 0)) (by (with_reducible repeat (first | refine blk_drewN ?_ _ | refine blk_drew ?_ | refine blk_alloc ?_ _)); exact BK275.out) hg (Kd.R_ne HO_11.out BK275.out (by decide))); have n4_ := Aside0.mk (blk_grown (g := gb320) (o := .cells #[.int .u64 t309, .int .i64 t310, .int .i64 t311, .bool t312, .int .i64 t313, .int .i64 t314, .int .i64 t315] 68 (0, 0)) (by (with_reducible repeat (first | refine blk_drewN ?_ _ | refine blk_drew ?_ | refine blk_alloc ?_ _)); exact BK320.out) hg (Kd.R_ne HO_11.out BK320.out (by decide))); have n5_ := Aside0.mk ((by rw [hw]; exact below_set (HB.out) GB97.out : Below w.heap.size w w102)); clear HO_7; clear HO_11; clear HO_16; clear BK275; clear BK320; clear HB; have HO_7 := n0_; have HO_11 := n1_; have HO_16 := n2_; have BK275 := n3_; have BK320 := n4_; have HB := n5_; clear n0_ n1_ n2_ n3_ n4_ n5_; clear hg hw hp_))
                                  go_roundg kj77
                                  case measure => have := HK1.out; have := HJ25.out; have := HK3.out; have := HK4.out; have := HJ60.out; have := HK6.out; have := HJ77.out; omega
                                  case rel => exact ⟨(y324), (wrap64 (x18_6 + 1)), (by first | rfl | (simp; done) | (simp [*]; done)), H', ⟨by have := HK1.out; have := HJ25.out; have := HK3.out; have := HK4.out; have := HJ60.out; have := HK6.out; have := HJ77.out; omega⟩, ⟨by (with_reducible repeat (first | apply Kd.N_alloc | apply Kd.N_drewN | apply Kd.N_drew)); exact Kd.N_mono HO_7.out (fun _ hk => ⟨hk.2, ⟨hk.1.1, ⟨hk.1.2.1, hk.1.2.2⟩⟩⟩)⟩, ⟨by (with_reducible repeat (first | apply Kd.R_alloc | apply Kd.R_drewN | apply Kd.R_drew)); exact HO_11.out⟩, ⟨by (with_reducible repeat (first | apply Kd.R_alloc | apply Kd.R_drewN | apply Kd.R_drew)); exact HO_16.out⟩, ⟨by (with_reducible repeat (first | refine blk_drewN ?_ _ | refine blk_drew ?_ | refine blk_alloc ?_ _)); exact BK275.out⟩, ⟨by (with_reducible repeat (first | refine blk_drewN ?_ _ | refine blk_drew ?_ | refine blk_alloc ?_ _)); exact BK320.out⟩, ⟨by repeat (first | (with_reducible first | exact HB.out | apply below_alloc | apply pw_below_drewN | apply below_drew1 | refine below_set ?_ GE275.out | refine below_set ?_ GE320.out) | exact HB.out)⟩⟩
                                 ·
                                  rw [if_neg c96] at H
                                  exact absurd H (by simp)
                                ·
                                 rw [if_neg c95] at H
                                 have c95b0 : ((rd t316 (ji90)) == (rd l0_0 x18_6)) = false := beq_eq_false_iff_ne.mpr c95
                                 have c95b1 : ((rd t316 (ji90)) != (rd l0_0 x18_6)) = true := bne_iff_ne.mpr c95
                                 obtain rfl := Option.some.inj H
                                 try go_wp2
                                 have n0_ := Aside0.mk (Kd.N_drew HO_7.out)
                                 have n1_ := Aside0.mk (Kd.R_drew HO_11.out)
                                 have n2_ := Aside0.mk (Kd.R_drew HO_16.out)
                                 have n3_ := Aside0.mk (blk_drew BK275.out)
                                 have n4_ := Aside0.mk (blk_drew BK320.out)
                                 have n5_ := Aside0.mk (below_drew1 HB.out)
                                 clear HO_7
                                 clear HO_11
                                 clear HO_16
                                 clear BK275
                                 clear BK320
                                 clear HB
                                 have HO_7 := n0_
                                 have HO_11 := n1_
                                 have HO_16 := n2_
                                 have BK275 := n3_
                                 have BK320 := n4_
                                 have HB := n5_
                                 clear n0_ n1_ n2_ n3_ n4_ n5_
                                 obtain ⟨Ao104, co104, eo104⟩ := Kd.R_slice HO_11.out
                                 (first | subst eo104 | (injection eo104 with f1_ f2_ f3_; have f4_ := f1_.symm; have f5_ := f3_.symm; clear f1_ f2_ f3_; subst f4_; subst f5_))
                                 obtain ⟨Ao105, co105, eo105⟩ := Kd.R_slice HO_16.out
                                 (first | subst eo105 | (injection eo105 with f1_ f2_ f3_; have f4_ := f1_.symm; have f5_ := f3_.symm; clear f1_ f2_ f3_; subst f4_; subst f5_))
                                 have p321 : 0 ≤ ((ji90) : Int) := of_decide_eq_true (by first | (with_reducible assumption) | assumption)
                                 have q321 : (ji90) < (t316.length : Int) := of_decide_eq_true (by first | (with_reducible assumption) | assumption)
                                 obtain ⟨ad321, e321, hx321_0⟩ := Kd.at_int (Kd.R_reads' HO_16.out).2.2 (ji90) p321 q321
                                 cases e321
                                 replace p321 := eq_true p321
                                 replace q321 := eq_true q321
                                 have p322 : 0 ≤ (x18_6 : Int) := of_decide_eq_true (by first | (with_reducible assumption) | assumption)
                                 have q322 : x18_6 < (l0_0.length : Int) := of_decide_eq_true (by first | (with_reducible assumption) | assumption)
                                 obtain ⟨ad322, e322, hx322_0⟩ := Kd.at_int HR0_0.out x18_6 p322 q322
                                 have hw322_0 := hx322_0
                                 cases e322
                                 replace hx322_0 := (HB.out.cell (World.block_lt_of_cell? w _ hx322_0)).trans hx322_0
                                 replace p322 := eq_true p322
                                 replace q322 := eq_true q322
                                 refine start_ (n := 23) (S := fun w' => w'.cell? ⟨gb320, 0, none⟩ = some (.int .u64 t309) ∧ w'.cell? ⟨gb320, 1, none⟩ = some (.int .i64 t310) ∧ w'.cell? ⟨gb320, 2, none⟩ = some (.int .i64 t311) ∧ w'.cell? ⟨gb320, 3, none⟩ = some (.bool t312) ∧ w'.cell? ⟨gb320, 4, none⟩ = some (.int .i64 t313) ∧ w'.cell? ⟨gb320, 5, none⟩ = some (.int .i64 t314) ∧ w'.cell? ⟨gb320, 6, none⟩ = some (.int .i64 t315) ∧ w'.cell? ⟨gb275, 0, none⟩ = some (.slice (some ad322) l0_0.length c0_0) ∧ w'.cell? ⟨gb275, 1, none⟩ = some (.int .i64 a0_1) ∧ w'.cell? ⟨gb275, 2, none⟩ = some (.int .u64 a0_2) ∧ w'.cell? ⟨gb275, 3, none⟩ = some (.bool a0_3) ∧ w'.cell? (ad321.add ((ji90)).toNat) = some (.int .u8 (rd t316 (ji90))) ∧ w'.cell? (ad322.add (x18_6).toNat) = some (.int .u8 (rd l0_0 x18_6))) (ds := []) #[false, false, false, false, false, false, false, false, false, false, false, false, false, false, false, false, false, false, false, false, false, false, false] (by kernel_rfl) rfl rfl ⟨(blk_cell BK320.out 0).trans rfl, (blk_cell BK320.out 1).trans rfl, (blk_cell BK320.out 2).trans rfl, (blk_cell BK320.out 3).trans rfl, (blk_cell BK320.out 4).trans rfl, (blk_cell BK320.out 5).trans rfl, (blk_cell BK320.out 6).trans rfl, (blk_cell BK275.out 0).trans rfl, (blk_cell BK275.out 1).trans rfl, (blk_cell BK275.out 2).trans rfl, (blk_cell BK275.out 3).trans rfl, hx321_0, ((HB.out.cell (World.block_lt_of_cell? w _ hw322_0)).trans hw322_0)⟩ (fun hHeld => ?_); refine with_tabW satchellaw27_VolumesMissing.tab32 satchellaw27_VolumesMissing.bits32 (fun HT_ HW_ => ?_)
                                 generalize wc.drew = w103 at HO_7 HO_11 HO_16 BK275 BK320 HB hx321_0 hx322_0 hHeld ⊢
                                 refine pure_ (i := 0) (N := some 166) (v := ?_) (a' := ?_) #[true, false, false, false, false, false, false, false, false, false, false, false, false, false, false, false, false, false, false, false, false, false, false] rfl rfl (any_of HT_.out (by kernel_rfl)) (fun _ _ _ h => h) (Or.inl ⟨by rfl, ?_⟩) ?_ ?_
                                 rotate_left
                                 ·
                                  intro w'
                                  go_simp
                                  with_reducible rfl
                                 rotate_left
                                 ·
                                  simp only [Act.put, List.setIfInBounds_toArray, List.set_cons_zero, List.set_cons_succ, i64_w, i32_w]
                                  rfl
                                 refine pure_ (i := 1) (N := some 167) (v := ?_) (a' := ?_) #[true, true, false, false, false, false, false, false, false, false, false, false, false, false, false, false, false, false, false, false, false, false, false] rfl rfl (any_of HT_.out (by kernel_rfl)) (fun _ _ _ h => h) (Or.inl ⟨by rfl, ?_⟩) ?_ ?_
                                 rotate_left
                                 ·
                                  intro w'
                                  go_simp
                                  with_reducible rfl
                                 rotate_left
                                 ·
                                  simp only [Act.put, List.setIfInBounds_toArray, List.set_cons_zero, List.set_cons_succ, i64_w, i32_w]
                                  rfl
                                 refine pure_ (i := 2) (N := some 168) (v := ?_) (a' := ?_) #[true, true, true, false, false, false, false, false, false, false, false, false, false, false, false, false, false, false, false, false, false, false, false] rfl rfl (any_of HT_.out (by kernel_rfl)) (fun _ _ _ h => h) (Or.inl ⟨by rfl, ?_⟩) ?_ ?_
                                 rotate_left
                                 ·
                                  intro w'
                                  go_simp
                                  with_reducible rfl
                                 rotate_left
                                 ·
                                  simp only [Act.put, List.setIfInBounds_toArray, List.set_cons_zero, List.set_cons_succ, i64_w, i32_w]
                                  rfl
                                 refine pure_ (i := 3) (N := some 169) (v := ?_) (a' := ?_) #[true, true, true, true, false, false, false, false, false, false, false, false, false, false, false, false, false, false, false, false, false, false, false] rfl rfl (any_of HT_.out (by kernel_rfl)) (fun _ _ _ h => h) (Or.inl ⟨by rfl, ?_⟩) ?_ ?_
                                 rotate_left
                                 ·
                                  intro w'
                                  go_simp
                                  with_reducible rfl
                                 rotate_left
                                 ·
                                  simp only [Act.put, List.setIfInBounds_toArray, List.set_cons_zero, List.set_cons_succ, i64_w, i32_w]
                                  rfl
                                 refine pure_ (i := 4) (N := some 170) (v := ?_) (a' := ?_) #[true, true, true, true, true, false, false, false, false, false, false, false, false, false, false, false, false, false, false, false, false, false, false] rfl rfl (any_of HT_.out (by kernel_rfl)) (fun _ _ _ h => h) (Or.inl ⟨by rfl, ?_⟩) ?_ ?_
                                 rotate_left
                                 ·
                                  intro w'
                                  go_simp
                                  with_reducible rfl
                                 rotate_left
                                 ·
                                  simp only [Act.put, List.setIfInBounds_toArray, List.set_cons_zero, List.set_cons_succ, i64_w, i32_w]
                                  rfl
                                 refine pure_ (i := 5) (N := some 171) (v := ?_) (a' := ?_) #[true, true, true, true, true, true, false, false, false, false, false, false, false, false, false, false, false, false, false, false, false, false, false] rfl rfl (any_of HT_.out (by kernel_rfl)) (fun _ _ _ h => h) (Or.inl ⟨by rfl, ?_⟩) ?_ ?_
                                 rotate_left
                                 ·
                                  intro w'
                                  go_simp
                                  with_reducible rfl
                                 rotate_left
                                 ·
                                  simp only [Act.put, List.setIfInBounds_toArray, List.set_cons_zero, List.set_cons_succ, i64_w, i32_w]
                                  rfl
                                 refine pure_ (i := 6) (N := some 172) (v := ?_) (a' := ?_) #[true, true, true, true, true, true, true, false, false, false, false, false, false, false, false, false, false, false, false, false, false, false, false] rfl rfl (any_of HT_.out (by kernel_rfl)) (fun _ _ _ h => h) (Or.inl ⟨by rfl, ?_⟩) ?_ ?_
                                 rotate_left
                                 ·
                                  intro w'
                                  go_simp
                                  with_reducible rfl
                                 rotate_left
                                 ·
                                  simp only [Act.put, List.setIfInBounds_toArray, List.set_cons_zero, List.set_cons_succ, i64_w, i32_w]
                                  rfl
                                 refine pure_ (i := 7) (N := some 173) (v := ?_) (a' := ?_) #[true, true, true, true, true, true, true, true, false, false, false, false, false, false, false, false, false, false, false, false, false, false, false] rfl rfl (any_of HT_.out (by kernel_rfl)) (fun _ _ _ h => h) (Or.inl ⟨by rfl, ?_⟩) ?_ ?_
                                 rotate_left
                                 ·
                                  intro w'
                                  go_simp
                                  with_reducible rfl
                                 rotate_left
                                 ·
                                  simp only [Act.put, List.setIfInBounds_toArray, List.set_cons_zero, List.set_cons_succ, i64_w, i32_w]
                                  rfl
                                 refine pure_ (i := 8) (N := some 174) (v := ?_) (a' := ?_) #[true, true, true, true, true, true, true, true, true, false, false, false, false, false, false, false, false, false, false, false, false, false, false] rfl rfl (any_of HT_.out (by kernel_rfl)) (fun _ _ _ h => h) (Or.inl ⟨by rfl, ?_⟩) ?_ ?_
                                 rotate_left
                                 ·
                                  intro w'
                                  go_simp
                                  with_reducible rfl
                                 rotate_left
                                 ·
                                  simp only [Act.put, List.setIfInBounds_toArray, List.set_cons_zero, List.set_cons_succ, i64_w, i32_w]
                                  rfl
                                 refine pure_ (i := 9) (N := some 175) (v := ?_) (a' := ?_) #[true, true, true, true, true, true, true, true, true, true, false, false, false, false, false, false, false, false, false, false, false, false, false] rfl rfl (any_of HT_.out (by kernel_rfl)) (fun _ _ _ h => h) (Or.inl ⟨by rfl, ?_⟩) ?_ ?_
                                 rotate_left
                                 ·
                                  intro w'
                                  go_simp
                                  with_reducible rfl
                                 rotate_left
                                 ·
                                  simp only [Act.put, List.setIfInBounds_toArray, List.set_cons_zero, List.set_cons_succ, i64_w, i32_w]
                                  rfl
                                 refine pure_ (i := 10) (N := some 176) (v := ?_) (a' := ?_) #[true, true, true, true, true, true, true, true, true, true, true, false, false, false, false, false, false, false, false, false, false, false, false] rfl rfl (any_of HT_.out (by kernel_rfl)) (fun _ _ _ h => h) (Or.inl ⟨by rfl, ?_⟩) ?_ ?_
                                 rotate_left
                                 ·
                                  intro w'
                                  go_simp
                                  with_reducible rfl
                                 rotate_left
                                 ·
                                  simp only [Act.put, List.setIfInBounds_toArray, List.set_cons_zero, List.set_cons_succ, i64_w, i32_w]
                                  rfl
                                 refine pure_ (i := 11) (N := some 177) (v := ?_) (a' := ?_) #[true, true, true, true, true, true, true, true, true, true, true, true, false, false, false, false, false, false, false, false, false, false, false] rfl rfl (any_of HT_.out (by kernel_rfl)) (fun _ _ _ h => h) (Or.inl ⟨by rfl, ?_⟩) ?_ ?_
                                 rotate_left
                                 ·
                                  intro w'
                                  go_simp
                                  with_reducible rfl
                                 rotate_left
                                 ·
                                  simp only [Act.put, List.setIfInBounds_toArray, List.set_cons_zero, List.set_cons_succ, i64_w, i32_w]
                                  rfl
                                 refine pure_ (i := 16) (N := some 182) (v := ?_) (a' := ?_) #[true, true, true, true, true, true, true, true, true, true, true, true, false, false, false, false, true, false, false, false, false, false, false] rfl rfl (any_of HT_.out (by kernel_rfl)) (fun _ _ _ h => h) (Or.inl ⟨by rfl, ?_⟩) ?_ ?_
                                 rotate_left
                                 ·
                                  intro w'
                                  go_simp
                                  with_reducible rfl
                                 rotate_left
                                 ·
                                  simp only [Act.put, List.setIfInBounds_toArray, List.set_cons_zero, List.set_cons_succ, i64_w, i32_w]
                                  rfl
                                 refine pure_ (i := 18) (N := some 184) (v := ?_) (a' := ?_) #[true, true, true, true, true, true, true, true, true, true, true, true, false, false, false, false, true, false, true, false, false, false, false] rfl rfl (any_of HT_.out (by kernel_rfl)) (fun _ _ _ h => h) (Or.inl ⟨by rfl, ?_⟩) ?_ ?_
                                 rotate_left
                                 ·
                                  intro w'
                                  go_simp
                                  with_reducible rfl
                                 rotate_left
                                 ·
                                  simp only [Act.put, List.setIfInBounds_toArray, List.set_cons_zero, List.set_cons_succ, i64_w, i32_w]
                                  rfl
                                 refine take_ (i := 12) (N := some 178) (v := ?_) (a' := ?_) #[true, true, true, true, true, true, true, true, true, true, true, true, true, false, false, false, true, false, true, false, false, false, false] rfl rfl (take_ofW HT_.out HW_.out (by kernel_rfl)) (fun _ _ _ h => h) (Or.inl ⟨by rfl, ?_⟩) hHeld ?_ ?_
                                 rotate_left
                                 ·
                                  rintro w' ⟨s0, s1, s2, s3, s4, s5, s6, s7, s8, s9, s10, s11, s12⟩
                                  go_simp
                                  with_reducible rfl
                                 rotate_left
                                 ·
                                  simp only [Act.put, List.setIfInBounds_toArray, List.set_cons_zero, List.set_cons_succ, i64_w, i32_w]
                                  rfl
                                 refine pure_ (i := 13) (N := some 179) (v := ?_) (a' := ?_) #[true, true, true, true, true, true, true, true, true, true, true, true, true, true, false, false, true, false, true, false, false, false, false] rfl rfl (any_of HT_.out (by kernel_rfl)) (fun _ _ _ h => h) (Or.inl ⟨by rfl, ?_⟩) ?_ ?_
                                 rotate_left
                                 ·
                                  intro w'
                                  go_simp
                                  with_reducible rfl
                                 rotate_left
                                 ·
                                  simp only [Act.put, List.setIfInBounds_toArray, List.set_cons_zero, List.set_cons_succ, i64_w, i32_w]
                                  rfl
                                 refine pure_ (i := 14) (N := some 180) (v := ?_) (a' := ?_) #[true, true, true, true, true, true, true, true, true, true, true, true, true, true, true, false, true, false, true, false, false, false, false] rfl rfl (any_of HT_.out (by kernel_rfl)) (fun _ _ _ h => h) (Or.inl ⟨by rfl, ?_⟩) ?_ ?_
                                 rotate_left
                                 ·
                                  intro w'
                                  go_simp
                                  with_reducible rfl
                                 rotate_left
                                 ·
                                  simp only [Act.put, List.setIfInBounds_toArray, List.set_cons_zero, List.set_cons_succ, i64_w, i32_w]
                                  rfl
                                 refine take_ (i := 15) (N := some 181) (v := ?_) (a' := ?_) #[true, true, true, true, true, true, true, true, true, true, true, true, true, true, true, true, true, false, true, false, false, false, false] rfl rfl (take_ofW HT_.out HW_.out (by kernel_rfl)) (fun _ _ _ h => h) (Or.inl ⟨by rfl, ?_⟩) hHeld ?_ ?_
                                 rotate_left
                                 ·
                                  rintro w' ⟨s0, s1, s2, s3, s4, s5, s6, s7, s8, s9, s10, s11, s12⟩
                                  go_simp
                                  with_reducible rfl
                                 rotate_left
                                 ·
                                  simp only [Act.put, List.setIfInBounds_toArray, List.set_cons_zero, List.set_cons_succ, i64_w, i32_w]
                                  rfl
                                 refine take_ (i := 17) (N := some 183) (v := ?_) (a' := ?_) #[true, true, true, true, true, true, true, true, true, true, true, true, true, true, true, true, true, true, true, false, false, false, false] rfl rfl (take_ofW HT_.out HW_.out (by kernel_rfl)) (fun _ _ _ h => h) (Or.inl ⟨by rfl, ?_⟩) hHeld ?_ ?_
                                 rotate_left
                                 ·
                                  rintro w' ⟨s0, s1, s2, s3, s4, s5, s6, s7, s8, s9, s10, s11, s12⟩
                                  go_simp
                                  with_reducible rfl
                                 rotate_left
                                 ·
                                  simp only [Act.put, List.setIfInBounds_toArray, List.set_cons_zero, List.set_cons_succ, i64_w, i32_w]
                                  rfl
                                 refine pure_ (i := 19) (N := some 185) (v := ?_) (a' := ?_) #[true, true, true, true, true, true, true, true, true, true, true, true, true, true, true, true, true, true, true, true, false, false, false] rfl rfl (any_of HT_.out (by kernel_rfl)) (fun _ _ _ h => h) (Or.inl ⟨by rfl, ?_⟩) ?_ ?_
                                 rotate_left
                                 ·
                                  intro w'
                                  go_simp
                                  with_reducible rfl
                                 rotate_left
                                 ·
                                  simp only [Act.put, List.setIfInBounds_toArray, List.set_cons_zero, List.set_cons_succ, i64_w, i32_w]
                                  rfl
                                 refine take_ (i := 20) (N := some 186) (v := ?_) (a' := ?_) #[true, true, true, true, true, true, true, true, true, true, true, true, true, true, true, true, true, true, true, true, true, false, false] rfl rfl (take_ofW HT_.out HW_.out (by kernel_rfl)) (fun _ _ _ h => h) (Or.inl ⟨by rfl, ?_⟩) hHeld ?_ ?_
                                 rotate_left
                                 ·
                                  rintro w' ⟨s0, s1, s2, s3, s4, s5, s6, s7, s8, s9, s10, s11, s12⟩
                                  go_simp
                                  with_reducible rfl
                                 rotate_left
                                 ·
                                  simp only [Act.put, List.setIfInBounds_toArray, List.set_cons_zero, List.set_cons_succ, i64_w, i32_w]
                                  rfl
                                 refine pure_ (i := 21) (N := some 187) (v := ?_) (a' := ?_) #[true, true, true, true, true, true, true, true, true, true, true, true, true, true, true, true, true, true, true, true, true, true, false] rfl rfl (any_of HT_.out (by kernel_rfl)) (fun _ _ _ h => h) (Or.inl ⟨by rfl, ?_⟩) ?_ ?_
                                 rotate_left
                                 ·
                                  intro w'
                                  go_simp
                                  with_reducible rfl
                                 rotate_left
                                 ·
                                  simp only [Act.put, List.setIfInBounds_toArray, List.set_cons_zero, List.set_cons_succ, i64_w, i32_w]
                                  rfl
                                 refine pure_ (i := 22) (N := some 188) (v := ?_) (a' := ?_) #[true, true, true, true, true, true, true, true, true, true, true, true, true, true, true, true, true, true, true, true, true, true, true] rfl rfl (any_of HT_.out (by kernel_rfl)) (fun _ _ _ h => h) (Or.inl ⟨by rfl, ?_⟩) ?_ ?_
                                 rotate_left
                                 ·
                                  intro w'
                                  go_simp
                                  with_reducible rfl
                                 rotate_left
                                 ·
                                  simp only [Act.put, List.setIfInBounds_toArray, List.set_cons_zero, List.set_cons_succ, i64_w, i32_w]
                                  rfl
                                 refine done_ (done_of HT_.out (by kernel_rfl)) ?_
                                 try go_wp2
                                 go_ret
                                 exact ⟨by first | rfl | (simp [errW_none, errW_some] <;> rfl) | (simp only [← hji90]; first | rfl | (simp [errW_none, errW_some] <;> rfl)) | (simp [*, errW_none, errW_some] <;> rfl), by repeat (first | (with_reducible first | exact HB.out | apply below_alloc | apply pw_below_drewN | apply below_drew1 | refine below_set ?_ GE275.out | refine below_set ?_ GE320.out) | exact HB.out)⟩
                               ·
                                rw [if_neg c94] at H
                                exact absurd H (by simp)
                              ·
                               rw [if_neg c93] at H
                               exact absurd H (by simp)
                             ·
                              rw [if_neg c92] at H
                              exact absurd H (by simp)
                            ·
                             rw [if_neg c91] at H
                             exact absurd H (by simp)
                         ·
                          replace c84 := Bool.eq_false_iff.mpr c84
                          subst c84
                          have H1 : (satchellaw27_VolumesMissing.l3 kj77 x7_1 x11_6 (wrap64 (x14_4 + 1)) l0_0 a0_1 a0_2 a0_3) = some r := by rw [if_neg (show ¬ (false = true) by decide)] at H; exact H
                          clear H
                          have H := H1
                          clear H1
                          have H' := Aside0.mk H
                          clear H
                          go_wp2
                          go_roundg kj77
                          case measure => have := HK1.out; have := HJ25.out; have := HK3.out; have := HK4.out; have := HJ60.out; have := HK6.out; have := HJ77.out; omega
                          case rel => exact ⟨(x11_6), (wrap64 (x14_4 + 1)), (by first | rfl | (simp; done) | (simp [*]; done)), H', ⟨by have := HK1.out; have := HJ25.out; have := HK3.out; have := HK4.out; have := HJ60.out; have := HK6.out; have := HJ77.out; omega⟩, ⟨by (with_reducible repeat (first | apply Kd.N_alloc | apply Kd.N_drewN | apply Kd.N_drew)); exact Kd.N_mono HO_7.out (fun _ hk => ⟨hk.1, hk.2.2.1⟩)⟩, ⟨by (with_reducible repeat (first | apply Kd.R_alloc | apply Kd.R_drewN | apply Kd.R_drew)); exact HO_11.out⟩, ⟨by (with_reducible repeat (first | refine blk_drewN ?_ _ | refine blk_drew ?_ | refine blk_alloc ?_ _)); exact BK275.out⟩, ⟨by repeat (first | (with_reducible first | exact HB.out | apply below_alloc | apply pw_below_drewN | apply below_drew1 | refine below_set ?_ GE275.out | refine below_set ?_ GE320.out) | exact HB.out)⟩⟩
                 ·
                  rw [if_neg c59] at H
                  exact absurd H (by simp)
                ·
                 rw [if_neg c58] at H
                 have c58b0 : decide (x14_4 < (x7_1.length : Int)) = false := decide_eq_false c58
                 clear c58
                 have H' := Aside0.mk H
                 clear H
                 go_wp2
                 go_loopg [19] k4 (fun kq v19 w' => ∃ (x19_5 : Int), v19 = .int .i64 x19_5 ∧ Aside0 (satchellaw27_VolumesMissing.l5 kq x11_4 x19_5 = some r) ∧ Aside0 (kq ≤ k4) ∧ Aside0 (Kd.R (Kd.int .i64) 3 w' w.heap.size (fun _ => True) v302 x11_4) ∧ Aside0 (w'.heap[gb275]? = some (.cells #[(.slice A0_0 l0_0.length c0_0), .int .i64 a0_1, .int .u64 a0_2, .bool a0_3] 25 (0, 0))) ∧ Aside0 (Below w.heap.size w w'))
                 case atStart => exact ⟨(0), (by first | rfl | (simp; done) | (simp [*]; done)), H', ⟨Nat.le_refl _⟩, ⟨by (with_reducible repeat (first | apply Kd.R_alloc | apply Kd.R_drewN | apply Kd.R_drew)); exact HO_11.out⟩, ⟨by (with_reducible repeat (first | refine blk_drewN ?_ _ | refine blk_drew ?_ | refine blk_alloc ?_ _)); exact BK275.out⟩, ⟨by repeat (first | (with_reducible first | exact HB.out | apply below_alloc | apply pw_below_drewN | apply below_drew1 | refine below_set ?_ GE275.out) | exact HB.out)⟩⟩
                 case round =>
                  clear H'
                  try clear p2
                  try clear p3
                  try clear q3
                  try clear hx3
                  try clear c5
                  try clear p6
                  try clear c8
                  try clear c9
                  try clear p9
                  try clear q9
                  try clear hx9
                  try clear hf9
                  try clear p32
                  try clear q32
                  try clear hx32
                  try clear c58
                  try clear c58b0
                  try clear c59
                  try clear p64
                  try clear c84
                  try clear c87
                  try clear c87b0
                  try clear c91
                  try clear c91b0
                  try clear c92
                  try clear c92b0
                  try clear c93
                  try clear c93b0
                  try clear c94
                  try clear c94b0
                  try clear c95
                  try clear c95b0
                  try clear c95b1
                  try clear c96
                  try clear c96b0
                  try clear p97
                  try clear q97
                  try clear hx97
                  try clear hf97
                  try clear hx321_0
                  try clear hx322_0
                  try clear hx323_0
                  try clear hx97_0
                  try clear p321
                  try clear p322
                  try clear p323
                  try clear p97
                  try clear q321
                  try clear q322
                  try clear q323
                  try clear q97
                  obtain ⟨x19_5, rfl, HA, HK5, HO_11, BK275, HB⟩ := hrel
                  cases gk with
                  | zero => exact absurd HA.out (by simp [satchellaw27_VolumesMissing.l5])
                  | succ k5 =>
                   have H := HA.out
                   clear HA
                   simp only [satchellaw27_VolumesMissing.l5] at H
                   by_cases c106 : x19_5 < (x11_4.length : Int)
                   ·
                    rw [if_pos c106] at H
                    have c106b0 : decide (x19_5 < (x11_4.length : Int)) = true := decide_eq_true c106
                    clear c106
                    by_cases c107 : 0 ≤ x19_5
                    ·
                     rw [if_pos c107] at H
                     have c107b0 : decide (0 ≤ x19_5) = true := decide_eq_true c107
                     clear c107
                     by_cases c108 : (rd x11_4 x19_5) = 1
                     ·
                      rw [if_pos c108] at H
                      have c108b0 : ((rd x11_4 x19_5) == 1) = true := beq_iff_eq.mpr c108
                      have c108b1 : ((rd x11_4 x19_5) != 1) = false := bne_eq_false_iff_eq.mpr c108
                      clear c108
                      have H' := Aside0.mk H
                      clear H
                      obtain ⟨Ao109, co109, eo109⟩ := Kd.R_slice HO_11.out
                      subst eo109
                      have p325 : 0 ≤ (x19_5 : Int) := of_decide_eq_true (by first | (with_reducible assumption) | assumption)
                      have q325 : x19_5 < (x11_4.length : Int) := of_decide_eq_true (by first | (with_reducible assumption) | assumption)
                      obtain ⟨ad325, e325, hx325_0⟩ := Kd.at_int (Kd.R_reads' HO_11.out).2.2 x19_5 p325 q325
                      cases e325
                      replace p325 := eq_true p325
                      replace q325 := eq_true q325
                      go_wp2
                      go_roundg k5
                      case measure => have := HK1.out; have := HJ25.out; have := HK3.out; have := HK4.out; have := HK5.out; omega
                      case rel => exact ⟨(wrap64 (x19_5 + 1)), (by first | rfl | (simp; done) | (simp [*]; done)), H', ⟨by have := HK1.out; have := HJ25.out; have := HK3.out; have := HK4.out; have := HK5.out; omega⟩, ⟨by (with_reducible repeat (first | apply Kd.R_alloc | apply Kd.R_drewN | apply Kd.R_drew)); exact HO_11.out⟩, ⟨by (with_reducible repeat (first | refine blk_drewN ?_ _ | refine blk_drew ?_ | refine blk_alloc ?_ _)); exact BK275.out⟩, ⟨by repeat (first | (with_reducible first | exact HB.out | apply below_alloc | apply pw_below_drewN | apply below_drew1 | refine below_set ?_ GE275.out) | exact HB.out)⟩⟩
                     ·
                      rw [if_neg c108] at H
                      have c108b0 : ((rd x11_4 x19_5) == 1) = false := beq_eq_false_iff_ne.mpr c108
                      have c108b1 : ((rd x11_4 x19_5) != 1) = true := bne_iff_ne.mpr c108
                      obtain rfl := Option.some.inj H
                      obtain ⟨Ao110, co110, eo110⟩ := Kd.R_slice HO_11.out
                      subst eo110
                      have p325 : 0 ≤ (x19_5 : Int) := of_decide_eq_true (by first | (with_reducible assumption) | assumption)
                      have q325 : x19_5 < (x11_4.length : Int) := of_decide_eq_true (by first | (with_reducible assumption) | assumption)
                      obtain ⟨ad325, e325, hx325_0⟩ := Kd.at_int (Kd.R_reads' HO_11.out).2.2 x19_5 p325 q325
                      cases e325
                      replace p325 := eq_true p325
                      replace q325 := eq_true q325
                      go_wp2
                      go_ret
                      exact ⟨by first | rfl | (simp [errW_none, errW_some] <;> rfl) | (simp [*, errW_none, errW_some] <;> rfl), by repeat (first | (with_reducible first | exact HB.out | apply below_alloc | apply pw_below_drewN | apply below_drew1 | refine below_set ?_ GE275.out) | exact HB.out)⟩
                    ·
                     rw [if_neg c107] at H
                     exact absurd H (by simp)
                   ·
                    rw [if_neg c106] at H
                    have c106b0 : decide (x19_5 < (x11_4.length : Int)) = false := decide_eq_false c106
                    clear c106
                    obtain rfl := Option.some.inj H
                    obtain ⟨Ao111, co111, eo111⟩ := Kd.R_slice HO_11.out
                    subst eo111
                    go_wp2
                    go_ret
                    exact ⟨by first | rfl | (simp [errW_none, errW_some] <;> rfl) | (simp [*, errW_none, errW_some] <;> rfl), by repeat (first | (with_reducible first | exact HB.out | apply below_alloc | apply pw_below_drewN | apply below_drew1 | refine below_set ?_ GE275.out) | exact HB.out)⟩
          ·
           rw [if_neg c38] at H
           exact absurd H (by simp)
         ·
          rw [if_neg c37] at H
          exact absurd H (by simp)
        ·
         rw [if_neg c36] at H
         have c36b0 : (t298 == 0) = false := beq_eq_false_iff_ne.mpr c36
         have c36b1 : (t298 != 0) = true := bne_iff_ne.mpr c36
         obtain rfl := Option.some.inj H
         go_wp2
         go_ret
         exact ⟨by first | rfl | (simp [errW_none, errW_some] <;> rfl) | (simp [*, errW_none, errW_some] <;> rfl), by repeat (first | (with_reducible first | exact HB.out | apply below_alloc | apply pw_below_drewN | apply below_drew1 | refine below_set ?_ GE275.out) | exact HB.out)⟩
 ·
  rw [if_neg c3] at H
  exact absurd H (by simp)

end Go.Proofs.Ytnkcbkfccbfjpaa.SVolumesMissing
/- Volumes, plain: the volumes of Cut are good. -/
namespace Go.Proofs.Ytnkcbkfccbfjpaa.Z
open Go.RowKit Go.Proofs.Ytnkcbkfccbfjpaa.XxhW Go.Proofs.Ytnkcbkfccbfjpaa.QVolumesCuts Go.Proofs.YtnkcbkfccbfjpaaW.PrintWords Go.Proofs.YtnkcbkfccbfjpaaW.PrintLast Go.Proofs.YtnkcbkfccbfjpaaW.PrintMore
set_option linter.unusedVariables false
set_option linter.unusedSimpArgs false
/-! ### bytes -/
theorem isByte_app (a b : List Int) : isByte (a ++ b) = true ↔ isByte a = true ∧ isByte b = true := by
  unfold isByte
  rw [List.all_append, Bool.and_eq_true]
theorem isByte_low (a : Int) (m : Nat) : isByte (lowL a m) = true := by
  rw [isByte_iff]
  intro q hq
  unfold lowL at hq
  obtain ⟨i, _, rfl⟩ := List.mem_map.1 hq
  omega
theorem xor8_in (x y : Int) : 0 ≤ Go.bits .xor .u8 x y ∧ Go.bits .xor .u8 x y < 256 := by
  have : ∀ z : Int, 0 ≤ IntKind.u8.wrap z ∧ IntKind.u8.wrap z < 256 := fun z => by
    show 0 ≤ z % 256 ∧ z % 256 < 256
    omega
  exact this _
theorem isByte_set {l : List Int} (h : isByte l = true) (i : Nat) (x : Int) (hx : 0 ≤ x ∧ x < 256) : isByte (l.set i x) = true := by
  rw [isByte_iff] at h ⊢
  intro q hq
  rcases List.mem_or_eq_of_mem_set hq with h1 | rfl
  · exact h q h1
  · exact hx
theorem isByte_xorG : ∀ (n i : Nat) (o p : List Int), isByte o = true → isByte (xorG n i o p) = true
  | 0, _, _, _, h => h
  | n + 1, i, o, p, h => isByte_xorG n (i + 1) _ p (isByte_set h i _ (xor8_in _ _))
theorem isByte_fold : ∀ (L : List (List Int)) (o : List Int), isByte o = true → isByte (L.foldl xorR o) = true
  | [], _, h => h
  | p :: L, o, h => isByte_fold L _ (isByte_xorG _ _ _ _ h)
theorem isByte_vol (set num cnt flag whole at_ size : Int) (b : List Int) (h : isByte b = true) : isByte (volP set num cnt flag whole at_ size b) = true := by
  have hm : isByte magicL = true := by decide
  unfold volP headP
  simp only [isByte_app, isByte_low, hm, h, and_self]
/-! ### the volumes of Cut are good -/
theorem vol_good (set : Int) (num cnt whole at_ : Nat) (sp : Bool) (b : List Int) (h0 : W64u set) (h1 : num ≤ 1000) (h2 : cnt ≤ 1000) (h4 : whole ≤ 4194304) (h5 : at_ ≤ 4194304) (hb : isByte b = true) (hl : b.length ≤ 10000000)
    (hc : volumes_volume_can.f 10 set (num : Int) (cnt : Int) sp (whole : Int) (at_ : Int) (b.length : Int) b = some true) :
    Good (volP set (num : Int) (cnt : Int) (if sp = true then 1 else 0) (whole : Int) (at_ : Int) (b.length : Int) b) := by
  obtain ⟨fl, hfl⟩ : ∃ fl : Int, fl = (if sp = true then 1 else 0) := ⟨_, rfl⟩
  have hf : 0 ≤ fl ∧ fl ≤ 1 := by rw [hfl]; split <;> decide
  have hsp : (fl == 1) = sp := by rw [hfl]; cases sp <;> decide
  rw [← hfl]
  obtain ⟨a0, a1, a2, a3, a4, a5, a6, a7, a8, a9, a10, a11⟩ := vol_fields set (num : Int) (cnt : Int) fl (whole : Int) (at_ : Int) (b.length : Int) b h0 (by omega) (by omega) (by omega) (nat64 _ (by omega)) (nat64 _ (by omega)) (nat64 _ (by omega))
  have hlen := volP_len set (num : Int) (cnt : Int) fl (whole : Int) (at_ : Int) (b.length : Int) b
  have hby := isByte_vol set (num : Int) (cnt : Int) fl (whole : Int) (at_ : Int) (b.length : Int) b hb
  generalize volP set (num : Int) (cnt : Int) fl (whole : Int) (at_ : Int) (b.length : Int) b = v at *
  refine ⟨hby, by omega, by omega, a0, a10, a9, by rw [a4]; exact hf.2, ?_, ?_, ?_⟩
  · unfold canP
    rw [a1, a2, a3, a4, a5, a6, a7, a11, hsp, XxhW.wrap_small _ (by omega), XxhW.wrap_small _ (by omega), XxhW.wrap_small _ (by omega)]
    exact hc
  · rw [a7, a11]; exact XxhW.wrap_small _ (by omega)
  · rw [a8, a11]
theorem cut_good (l : List Int) (hb : isByte l = true) (S : Nat) (hS : 1 ≤ S) (hS2 : S ≤ 9223372036854775743) (hl : l.length ≤ 4194304) (hn : countOf l S ≤ 1000) (set : Int) (hset : W64u set) (sp : Bool) : ∀ v ∈ cutP l set sp (stepOf l S) (countOf l S), Good v := by
  obtain ⟨c1, c2⟩ := can_cut 10 (by decide) set l S hS hS2 hl hn []
  obtain ⟨_, _, _, f4, f5, f6, f7⟩ := count_facts l S hS hS2 hl
  intro v hv
  unfold cutP at hv
  rcases List.mem_append.1 hv with h | h
  · unfold outL at h
    obtain ⟨i, hi, rfl⟩ := List.mem_map.1 h
    rw [List.mem_range] at hi
    have hp := piece_len l (stepOf l S) i
    have h4 := f4 i hi
    have hpb : isByte (piece l (stepOf l S) i) = true := by
      rw [isByte_iff] at hb ⊢
      intro q hq
      exact hb q (List.mem_of_mem_take (List.mem_of_mem_drop hq))
    have := vol_good set i (countOf l S) l.length (i * stepOf l S) false (piece l (stepOf l S) i) hset (by omega) hn hl (by omega) hpb (by omega) (by rw [can_bytes _ _ _ _ _ _ _ _ _ []]; exact c1 i hi)
    exact this
  · cases sp with
    | false => simp at h
    | true =>
      rw [if_pos rfl, List.mem_singleton] at h
      subst h
      have ho := overL_len l (stepOf l S) (countOf l S)
      have hob : isByte (overL l (stepOf l S) (countOf l S)) = true := isByte_fold _ _ (by
        rw [isByte_iff]
        intro q hq
        rw [List.mem_replicate] at hq
        rw [hq.2]
        decide)
      have := vol_good set (countOf l S) (countOf l S) l.length 0 true (overL l (stepOf l S) (countOf l S)) hset hn hn hl (by omega) hob (by omega) (by rw [can_bytes _ _ _ _ _ _ _ _ _ [], ho]; exact c2)
      exact this
end Go.Proofs.Ytnkcbkfccbfjpaa.Z
/- Volumes, plain: what Join makes of the volumes of a cut. -/
namespace Go.Proofs.Ytnkcbkfccbfjpaa.Z
open Go.RowKit Go.Proofs.Ytnkcbkfccbfjpaa.XxhW Go.Proofs.Ytnkcbkfccbfjpaa.QVolumesCuts Go.Proofs.YtnkcbkfccbfjpaaW.PrintWords Go.Proofs.YtnkcbkfccbfjpaaW.PrintLast Go.Proofs.YtnkcbkfccbfjpaaW.PrintMore
set_option linter.unusedVariables false
set_option linter.unusedSimpArgs false
theorem agree_iff' {v0 v : Vol} : agree v0 v = true ↔ v.set = v0.set ∧ v.cnt = v0.cnt ∧ v.whole = v0.whole ∧ stepV v = stepV v0 := by
  unfold agree
  simp only [Bool.and_eq_true, beq_iff_eq]
  exact ⟨fun h => ⟨h.1.1.1, h.1.1.2, h.1.2, h.2⟩, fun h => ⟨⟨⟨h.1, h.2.1⟩, h.2.2.1⟩, h.2.2.2⟩⟩
def partK (l : List Int) (s n k : Nat) : List Int := if k < n then piece l s k else overL l s n
/-- What is held of the volumes of a cut. -/
structure CutOk (l : List Int) (set : Int) (sp : Bool) (s n : Nat) (R : List (List Int)) : Prop where
  byt : isByte l = true
  len : l.length ≤ 4194304
  s1 : 1 ≤ s
  n1 : 1 ≤ n ∧ n ≤ 1000
  all : l.length ≤ n * s
  few : 2 ≤ n → (n - 1) * s < l.length
  cnt : R.length = if sp = true then n + 1 else n
  el : ∀ k, k < R.length → Good (R.getD k []) ∧ (volOf (R.getD k [])).set = set ∧ (volOf (R.getD k [])).num = (k : Int) ∧ (volOf (R.getD k [])).cnt = (n : Int) ∧ (volOf (R.getD k [])).whole = (l.length : Int) ∧ (volOf (R.getD k [])).b = partK l s n k ∧ stepV (volOf (R.getD k [])) = (if n = 1 then 0 else (s : Int))
theorem vol_of (set : Int) (num cnt whole at_ size : Nat) (sp : Bool) (b : List Int) (h0 : W64u set) (h1 : num ≤ 1000) (h2 : cnt ≤ 1000) (h4 : whole ≤ 4194304) (h5 : at_ ≤ 4194304) (h6 : size ≤ 4194304) :
    volOf (volP set (num : Int) (cnt : Int) (if sp = true then 1 else 0) (whole : Int) (at_ : Int) (size : Int) b) = ⟨set, num, cnt, sp, whole, at_, size, b⟩ := by
  obtain ⟨fl, hfl⟩ : ∃ fl : Int, fl = (if sp = true then 1 else 0) := ⟨_, rfl⟩
  have hf : 0 ≤ fl ∧ fl ≤ 1 := by rw [hfl]; split <;> decide
  have hsp : (fl == 1) = sp := by rw [hfl]; cases sp <;> decide
  rw [← hfl]
  obtain ⟨a0, a1, a2, a3, a4, a5, a6, a7, a8, a9, a10, a11⟩ := vol_fields set (num : Int) (cnt : Int) fl (whole : Int) (at_ : Int) (size : Int) b h0 (by omega) (by omega) (by omega) (nat64 _ (by omega)) (nat64 _ (by omega)) (nat64 _ (by omega))
  unfold volOf
  rw [a1, a2, a3, a4, a5, a6, a7, a11, hsp, XxhW.wrap_small _ (by omega), XxhW.wrap_small _ (by omega), XxhW.wrap_small _ (by omega)]
theorem cut_ok (l : List Int) (hb : isByte l = true) (S : Nat) (hS : 1 ≤ S) (hS2 : S ≤ 9223372036854775743) (hl : l.length ≤ 4194304) (hn : countOf l S ≤ 1000) (set : Int) (hset : W64u set) (sp : Bool) : CutOk l set sp (stepOf l S) (countOf l S) (cutP l set sp (stepOf l S) (countOf l S)) := by
  have hgood := cut_good l hb S hS hS2 hl hn set hset sp
  obtain ⟨_, _, _, f4, f5, f6, f7⟩ := count_facts l S hS hS2 hl
  obtain ⟨c1, c2, c3⟩ := cnt_facts l.length (stepOf l S) (countOf l S) f5 rfl
  generalize stepOf l S = s at *
  generalize countOf l S = n at *
  have hcnt : (cutP l set sp s n).length = if sp = true then n + 1 else n := by
    unfold cutP
    rw [List.length_append, outL_len]
    cases sp <;> rfl
  refine ⟨hb, hl, f5, ⟨f7, hn⟩, c1, c2, hcnt, fun k hk => ?_⟩
  have hmem : (cutP l set sp s n).getD k [] ∈ cutP l set sp s n := by rw [List.getD_eq_getElem?_getD, List.getElem?_eq_getElem hk, Option.getD_some]; exact List.getElem_mem _
  have hg := hgood _ hmem
  refine ⟨hg, ?_⟩
  have hv : volOf ((cutP l set sp s n).getD k []) = ⟨set, (k : Int), (n : Int), decide (k = n), (l.length : Int), ((if k < n then k * s else 0 : Nat) : Int), ((partK l s n k).length : Int), partK l s n k⟩ := by
    by_cases hkn : k < n
    · have hp := piece_len l s k
      have h4 := f4 k hkn
      have hx : (cutP l set sp s n).getD k [] = volP set (k : Int) (n : Int) 0 (l.length : Int) ((k * s : Nat) : Int) ((piece l s k).length : Int) (piece l s k) := by
        unfold cutP
        rw [List.getD_eq_getElem?_getD, List.getElem?_append_left (by rw [outL_len]; exact hkn)]
        unfold outL
        rw [List.getElem?_map, List.getElem?_range hkn]
        rfl
      have := vol_of set k n l.length (k * s) (piece l s k).length false (piece l s k) hset (by omega) hn hl (by omega) (by omega)
      rw [if_neg (by decide)] at this
      rw [hx, this]
      unfold partK
      rw [if_pos hkn, if_pos hkn, decide_eq_false (by omega)]
    · have hsp : sp = true := by
        cases sp with
        | true => rfl
        | false => rw [hcnt, if_neg (by decide)] at hk; exact absurd hk hkn
      subst hsp
      have hkn2 : k = n := by rw [hcnt, if_pos rfl] at hk; omega
      subst hkn2
      have ho := overL_len l s k
      have hx : (cutP l set true s k).getD k [] = volP set (k : Int) (k : Int) 1 (l.length : Int) 0 ((overL l s k).length : Int) (overL l s k) := by
        unfold cutP
        rw [List.getD_eq_getElem?_getD, List.getElem?_append_right (by rw [outL_len]; exact Nat.le_refl _), outL_len, Nat.sub_self]
        rfl
      have := vol_of set k k l.length 0 (overL l s k).length true (overL l s k) hset hn hn hl (by omega) (by omega)
      rw [if_pos rfl] at this
      rw [hx]
      unfold partK
      rw [if_neg (Nat.lt_irrefl k), if_neg (Nat.lt_irrefl k), decide_eq_true rfl]
      exact this
  have hok := getE_ok hg.getE
  rw [hv] at hok ⊢
  refine ⟨rfl, rfl, rfl, rfl, rfl, ?_⟩
  generalize stepV _ = t at hok ⊢
  by_cases e : n = 1
  · rw [if_pos e]
    exact (hok.one (by dsimp only; omega)).1
  · rw [if_neg e]
    obtain ⟨m1, m2, m3, m4, m5, m6, m7⟩ := hok.more (by dsimp only; omega)
    dsimp only at m1 m2 m3 m4 m5 m6 m7
    have hfew := c2 (by omega)
    have hsl : s < l.length := by have : 1 * s ≤ (n - 1) * s := Nat.mul_le_mul_right _ (by omega); omega
    by_cases hkn : k < n
    · have hp := piece_len l s k
      rw [if_pos hkn] at m5 m6 m7
      unfold partK at m5 m6 m7
      rw [if_pos hkn] at m5 m6 m7
      by_cases hk1 : k = n - 1
      · have h8 := (m6 (by omega)).2
        have hk0 : 0 < (k : Int) := by omega
        rw [Int.natCast_mul, Int.mul_comm] at h8
        exact (Int.eq_of_mul_eq_mul_right (by omega) h8).symm
      · have h8 := (m7 (by omega)).1
        have : k * s + s ≤ (n - 1) * s := by
          have := Nat.mul_le_mul_right s (show k + 1 ≤ n - 1 by omega)
          rwa [Nat.add_mul, Nat.one_mul] at this
        omega
    · have hkn2 : k = n := by
        cases sp with
        | true => rw [hcnt, if_pos rfl] at hk; omega
        | false => rw [hcnt, if_neg (by decide)] at hk; omega
      have h8 := (m5 (by omega)).1
      unfold partK at h8
      rw [if_neg hkn, overL_len] at h8
      omega
theorem fillAll_parts {v0 : Vol} {part : Nat → List Int} : ∀ (l : List Vol) (P : List (Option (List Int))), (∀ v ∈ l, agree v0 v = true ∧ 0 ≤ v.num ∧ v.num.toNat < P.length ∧ v.b = part v.num.toNat) → (∀ k, slot P k = none ∨ slot P k = some (part k)) →
    ∃ P', fillAll v0 l P = some P' ∧ P'.length = P.length ∧ ∀ k, (slot P' k = some (part k) ∧ ((∃ v ∈ l, v.num = (k : Int)) ∨ slot P k ≠ none)) ∨ (slot P' k = none ∧ slot P k = none ∧ ∀ v ∈ l, v.num ≠ (k : Int))
  | [], P, _, h => ⟨P, rfl, rfl, fun k => by
    rcases h k with e | e
    · exact .inr ⟨e, e, fun v hv => absurd hv (by simp)⟩
    · exact .inl ⟨e, .inr (by rw [e]; simp)⟩⟩
  | v :: l, P, hv, h => by
    obtain ⟨a1, a2, a3, a4⟩ := hv v (by simp)
    have hc : agree v0 v = true ∧ (slot P v.num.toNat = none ∨ slot P v.num.toNat = some v.b) := ⟨a1, by rw [a4]; exact h _⟩
    have hset : ∀ k, slot (P.set v.num.toNat (some v.b)) k = if k = v.num.toNat then some (part k) else slot P k := fun k => by
      rw [slot_set _ _ _ _ a3]
      by_cases e : k = v.num.toNat
      · rw [if_pos e, if_pos e, a4, e]
      · rw [if_neg e, if_neg e]
    obtain ⟨P', g1, g2, g3⟩ := fillAll_parts l (P.set v.num.toNat (some v.b)) (fun u hu => by rw [List.length_set]; exact hv u (by simp [hu])) (fun k => by
      rw [hset]
      by_cases e : k = v.num.toNat
      · rw [if_pos e]; exact .inr rfl
      · rw [if_neg e]; exact h k)
    refine ⟨P', by rw [fillAll, if_pos hc]; exact g1, by rw [g2, List.length_set], fun k => ?_⟩
    rcases g3 k with ⟨h1, h2⟩ | ⟨h1, h2, h3⟩
    · refine .inl ⟨h1, ?_⟩
      rcases h2 with ⟨u, hu, e⟩ | h2
      · exact .inl ⟨u, by simp [hu], e⟩
      · rw [hset] at h2
        by_cases e : k = v.num.toNat
        · exact .inl ⟨v, by simp, by omega⟩
        · rw [if_neg e] at h2; exact .inr h2
    · rw [hset] at h2
      by_cases e : k = v.num.toNat
      · rw [if_pos e] at h2; exact absurd h2 (by simp)
      · rw [if_neg e] at h2
        refine .inr ⟨h1, h2, fun u hu => ?_⟩
        rcases List.mem_cons.1 hu with rfl | hu
        · omega
        · exact h3 u hu
theorem slot_rep (n k : Nat) : slot (List.replicate n none) k = none := by
  unfold slot
  rw [List.getD_eq_getElem?_getD, List.getElem?_replicate]
  split <;> rfl
theorem gather_set {l : List Int} {set : Int} {sp : Bool} {s n : Nat} {R : List (List Int)} (h : CutOk l set sp s n R) (M : List (List Int)) (hM : ∀ b ∈ M, ∃ k, k < R.length ∧ b = R.getD k []) (hne : M ≠ []) :
    ∃ v0 P, gatherR getE volOf M = (0, v0, P) ∧ v0.cnt = (n : Int) ∧ v0.whole = (l.length : Int) ∧ stepV v0 = (if n = 1 then 0 else (s : Int)) ∧ P.length = n + 1 ∧
      ∀ k, (slot P k = some (partK l s n k) ∧ k < R.length ∧ R.getD k [] ∈ M) ∨ (slot P k = none ∧ ¬ (k < R.length ∧ R.getD k [] ∈ M)) := by
  have hE : firstE getE M = 0 := firstE_zero getE M (fun b hb => by
    obtain ⟨k, hk, rfl⟩ := hM b hb
    exact (h.el k hk).1.getE)
  cases M with
  | nil => exact absurd rfl hne
  | cons b0 M =>
    obtain ⟨k0, hk0, e0⟩ := hM b0 (by simp)
    obtain ⟨_, z1, z2, z3, z4, z5, z6⟩ := h.el k0 hk0
    rw [← e0] at z1 z2 z3 z4 z5 z6
    have hRn : R.length ≤ n + 1 := by rw [h.cnt]; split <;> omega
    obtain ⟨P, g1, g2, g3⟩ := fillAll_parts (v0 := volOf b0) (part := partK l s n) ((b0 :: M).map volOf) (List.replicate ((volOf b0).cnt.toNat + 1) none) (fun v hv => by
      obtain ⟨b, hb, rfl⟩ := List.mem_map.1 hv
      obtain ⟨k, hk, rfl⟩ := hM b hb
      obtain ⟨_, y1, y2, y3, y4, y5, y6⟩ := h.el k hk
      refine ⟨agree_iff'.2 ⟨by rw [y1, z1], by rw [y3, z3], by rw [y4, z4], by rw [y6, z6]⟩, by omega, by rw [List.length_replicate]; omega, ?_⟩
      rw [y5, y2]; rfl) (fun k => .inl (slot_rep _ _))
    refine ⟨volOf b0, P, ?_, z3, z4, z6, by rw [g2, List.length_replicate]; omega, fun k => ?_⟩
    · unfold gatherR
      rw [if_pos hE, List.map_cons]
      rw [List.map_cons] at g1
      dsimp only
      rw [g1]
    · rcases g3 k with ⟨q1, q2⟩ | ⟨q1, _, q2⟩
      · refine .inl ⟨q1, ?_⟩
        rcases q2 with ⟨v, hv, e⟩ | q2
        · obtain ⟨b, hb, rfl⟩ := List.mem_map.1 hv
          obtain ⟨k', hk', rfl⟩ := hM b hb
          have := (h.el k' hk').2.2.1
          have : k' = k := by omega
          subst this
          exact ⟨hk', hb⟩
        · exact absurd (slot_rep _ _) q2
      · refine .inr ⟨q1, fun ⟨hk, hb⟩ => ?_⟩
        exact q2 _ (List.mem_map.2 ⟨_, hb, rfl⟩) (h.el k hk).2.2.1
end Go.Proofs.Ytnkcbkfccbfjpaa.Z
/- Volumes, plain: joined they are the bytes; with the spare one, without any one too; without two never. -/
