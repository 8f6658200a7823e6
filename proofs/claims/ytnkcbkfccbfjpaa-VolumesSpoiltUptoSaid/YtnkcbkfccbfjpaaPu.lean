/- Texts of mine made one: JVolumesSpoilt, PureVolumesSpoilt. -/
import Derived.Test.YtnkcbkfccbfjpaaVx
import Derived.Test.YtnkcbkfccbfjpaaTt
/- The walk of VolumesSpoilt (most of it printed by a program of the kit's, turned to contracts of mine). -/
namespace Go.Proofs.Ytnkcbkfccbfjpaa.RVolumesSpoilt
open Go.RowKit Go.Proofs.YtnkcbkfccbfjpaaW.PrintWords Go.Proofs.YtnkcbkfccbfjpaaW.PrintLast Go.Proofs.YtnkcbkfccbfjpaaW.PrintMore
open Go.Proofs.Ytnkcbkfccbfjpaa.QVolumesCuts
open Go.Proofs.Ytnkcbkfccbfjpaa.Z
attribute [local go_sem] max2_int min2_int max_two min_two max_three min_three max_four min_four   -- for this text's walks alone
set_option linter.unusedVariables false
set_option linter.unusedSimpArgs false



/-! ### satchellaw27_VolumesSpoilt: function 10 -/
mutual
def satchellaw27_VolumesSpoilt.j0 : Nat → Int → Int → Int → List (List Int) → Bool → Option (Bool)
  | 0, _, _, _, _, _ => none
  | k + 1, x5, x6, x7, x8, x52 => if x52 = true then (if 64 ≤ 281474976710656 then ((volumes_Read.f (List.replicate 64 0)).bind fun bt258 => (some (bt258.2.2.2.2.2.2.2.2 == 270))) else (none)) else (if (x8.length : Int) = 0 then (none) else (if (Int.tmod x5 (x8.length : Int)) < 0 then (satchellaw27_VolumesSpoilt.j1 k x6 x7 x8 (wrap64 ((Int.tmod x5 (x8.length : Int)) + (x8.length : Int)))) else (satchellaw27_VolumesSpoilt.j1 k x6 x7 x8 (Int.tmod x5 (x8.length : Int)))))
def satchellaw27_VolumesSpoilt.j1 : Nat → Int → Int → List (List Int) → Int → Option (Bool)
  | 0, _, _, _, _ => none
  | k + 1, x6, x7, x8, x13 => (some (([] : List Int) : List Int)).bind fun y270 => (if 0 ≤ x13 then (if x13 < (x8.length : Int) then (if y270.length + (rd_L1 x8 x13).length < 140737488355328 then ((some (y270 ++ (rd_L1 x8 x13) : List Int)).bind fun y274 => (if (wrap64 (8 * (y274.length : Int))) = 0 then (none) else (if (Int.tmod x6 (wrap64 (8 * (y274.length : Int)))) < 0 then (satchellaw27_VolumesSpoilt.j2 k x7 y274 (wrap64 (8 * (y274.length : Int))) (wrap64 ((Int.tmod x6 (wrap64 (8 * (y274.length : Int)))) + (wrap64 (8 * (y274.length : Int)))))) else (satchellaw27_VolumesSpoilt.j2 k x7 y274 (wrap64 (8 * (y274.length : Int))) (Int.tmod x6 (wrap64 (8 * (y274.length : Int)))))))) else (none)) else (none)) else (none))
def satchellaw27_VolumesSpoilt.j2 : Nat → Int → List Int → Int → Int → Option (Bool)
  | 0, _, _, _, _ => none
  | k + 1, x7, x14, x15, x16 => satchellaw27_VolumesSpoilt.l0 k x7 x14 x15 x16 false 0
def satchellaw27_VolumesSpoilt.l0 : Nat → Int → List Int → Int → Int → Bool → Int → Option (Bool)
  | 0, _, _, _, _, _, _ => none
  | k + 1, x7, x14, x15, x16, x17, x18 => if x18 < 32 then (satchellaw27_VolumesSpoilt.j4 k x7 x14 x15 x16 x17 x18 (decide ((wrap64 (x16 + x18)) < x15))) else (satchellaw27_VolumesSpoilt.j4 k x7 x14 x15 x16 x17 x18 false)
def satchellaw27_VolumesSpoilt.j4 : Nat → Int → List Int → Int → Int → Bool → Int → Bool → Option (Bool)
  | 0, _, _, _, _, _, _, _ => none
  | k + 1, x7, x14, x15, x16, x17, x18, x96 => if x96 = true then (if 0 ≤ (IntKind.u64.wrap (x18)) then (if (Int.tmod (shr .u32 x7 (IntKind.u64.wrap (x18))) 2) = 1 then (if 0 ≤ (wrap64 (Int.tdiv (wrap64 (x16 + x18)) 8)) then (if (wrap64 (Int.tdiv (wrap64 (x16 + x18)) 8)) < (x14.length : Int) then (if 0 ≤ (IntKind.u64.wrap (Int.tmod (wrap64 (x16 + x18)) 8)) then (satchellaw27_VolumesSpoilt.l0 k x7 (x14.set ((wrap64 (Int.tdiv (wrap64 (x16 + x18)) 8)) : Int).toNat (Go.bits .xor .u8 (rd x14 (wrap64 (Int.tdiv (wrap64 (x16 + x18)) 8))) (shl .u8 1 (IntKind.u64.wrap (Int.tmod (wrap64 (x16 + x18)) 8))))) x15 x16 true (wrap64 (x18 + 1))) else (none)) else (none)) else (none)) else (satchellaw27_VolumesSpoilt.l0 k x7 x14 x15 x16 x17 (wrap64 (x18 + 1)))) else (none)) else ((volumes_Read.f x14).bind fun bt279 => (if bt279.2.2.2.2.2.2.2.2 = 270 then (some (true == x17)) else (some ((bt279.2.2.2.2.2.2.2.2 == 131) == x17))))
end
def satchellaw27_VolumesSpoilt.f (k : Nat) (l0_0 : List Int) (a0_1 : Int) (a0_2 : Int) (a0_3 : Bool) (a1_0 : Int) (a1_1 : Int) (a1_2 : Int) : Option (Bool) := (some (([] : List Int) : List Int)).bind fun y245 => (if y245.length + l0_0.length < 140737488355328 then ((volumes_Cut.f k (y245 ++ l0_0) a0_1 a0_2 a0_3).bind fun bt251 => (if bt251.2 = 0 then (if (bt251.1.length : Int) = 0 then (satchellaw27_VolumesSpoilt.j0 k a1_0 a1_1 a1_2 bt251.1 true) else (satchellaw27_VolumesSpoilt.j0 k a1_0 a1_1 a1_2 bt251.1 (a1_2 == 0))) else (satchellaw27_VolumesSpoilt.j0 k a1_0 a1_1 a1_2 bt251.1 true))) else (none))
theorem satchellaw27_VolumesSpoilt.mono_l : ∀ k, (∀ y0 y1 y2 y3 y4, LeO (satchellaw27_VolumesSpoilt.j0 k y0 y1 y2 y3 y4) (satchellaw27_VolumesSpoilt.j0 (k + 1) y0 y1 y2 y3 y4)) ∧ (∀ y0 y1 y2 y3, LeO (satchellaw27_VolumesSpoilt.j1 k y0 y1 y2 y3) (satchellaw27_VolumesSpoilt.j1 (k + 1) y0 y1 y2 y3)) ∧ (∀ y0 y1 y2 y3, LeO (satchellaw27_VolumesSpoilt.j2 k y0 y1 y2 y3) (satchellaw27_VolumesSpoilt.j2 (k + 1) y0 y1 y2 y3)) ∧ (∀ y0 y1 y2 y3 y4 y5, LeO (satchellaw27_VolumesSpoilt.l0 k y0 y1 y2 y3 y4 y5) (satchellaw27_VolumesSpoilt.l0 (k + 1) y0 y1 y2 y3 y4 y5)) ∧ (∀ y0 y1 y2 y3 y4 y5 y6, LeO (satchellaw27_VolumesSpoilt.j4 k y0 y1 y2 y3 y4 y5 y6) (satchellaw27_VolumesSpoilt.j4 (k + 1) y0 y1 y2 y3 y4 y5 y6))
  | 0 => ⟨fun _ _ _ _ _ r h => by simp [satchellaw27_VolumesSpoilt.j0] at h, fun _ _ _ _ r h => by simp [satchellaw27_VolumesSpoilt.j1] at h, fun _ _ _ _ r h => by simp [satchellaw27_VolumesSpoilt.j2] at h, fun _ _ _ _ _ _ r h => by simp [satchellaw27_VolumesSpoilt.l0] at h, fun _ _ _ _ _ _ _ r h => by simp [satchellaw27_VolumesSpoilt.j4] at h⟩
  | k + 1 => by
    obtain ⟨ih0, ih1, ih2, ih3, ih4⟩ := satchellaw27_VolumesSpoilt.mono_l k
    refine ⟨?_, ?_, ?_, ?_, ?_⟩
    · intro y0 y1 y2 y3 y4
      unfold satchellaw27_VolumesSpoilt.j0
      repeat' first
      | (with_reducible exact ih0 _ _ _ _ _)
      | (with_reducible exact ih1 _ _ _ _)
      | (with_reducible exact ih2 _ _ _ _)
      | (with_reducible exact ih3 _ _ _ _ _ _)
      | (with_reducible exact ih4 _ _ _ _ _ _ _)
      | (with_reducible exact volumes_Cut.mono _ _ _ _ _)
      | (with_reducible exact LeO.refl _)
      | (with_reducible exact LeO.none _)
      | (with_reducible refine LeO.ite ?_ ?_)
      | (with_reducible refine LeO.bind ?_ (fun _ => ?_))
      | exact ih0 _ _ _ _ _
      | exact ih1 _ _ _ _
      | exact ih2 _ _ _ _
      | exact ih3 _ _ _ _ _ _
      | exact ih4 _ _ _ _ _ _ _
      | exact volumes_Cut.mono _ _ _ _ _
      | exact LeO.none _
      | refine LeO.ite ?_ ?_
      | refine LeO.bind ?_ (fun _ => ?_)
    · intro y0 y1 y2 y3
      unfold satchellaw27_VolumesSpoilt.j1
      repeat' first
      | (with_reducible exact ih0 _ _ _ _ _)
      | (with_reducible exact ih1 _ _ _ _)
      | (with_reducible exact ih2 _ _ _ _)
      | (with_reducible exact ih3 _ _ _ _ _ _)
      | (with_reducible exact ih4 _ _ _ _ _ _ _)
      | (with_reducible exact volumes_Cut.mono _ _ _ _ _)
      | (with_reducible exact LeO.refl _)
      | (with_reducible exact LeO.none _)
      | (with_reducible refine LeO.ite ?_ ?_)
      | (with_reducible refine LeO.bind ?_ (fun _ => ?_))
      | exact ih0 _ _ _ _ _
      | exact ih1 _ _ _ _
      | exact ih2 _ _ _ _
      | exact ih3 _ _ _ _ _ _
      | exact ih4 _ _ _ _ _ _ _
      | exact volumes_Cut.mono _ _ _ _ _
      | exact LeO.none _
      | refine LeO.ite ?_ ?_
      | refine LeO.bind ?_ (fun _ => ?_)
    · intro y0 y1 y2 y3
      unfold satchellaw27_VolumesSpoilt.j2
      repeat' first
      | (with_reducible exact ih0 _ _ _ _ _)
      | (with_reducible exact ih1 _ _ _ _)
      | (with_reducible exact ih2 _ _ _ _)
      | (with_reducible exact ih3 _ _ _ _ _ _)
      | (with_reducible exact ih4 _ _ _ _ _ _ _)
      | (with_reducible exact volumes_Cut.mono _ _ _ _ _)
      | (with_reducible exact LeO.refl _)
      | (with_reducible exact LeO.none _)
      | (with_reducible refine LeO.ite ?_ ?_)
      | (with_reducible refine LeO.bind ?_ (fun _ => ?_))
      | exact ih0 _ _ _ _ _
      | exact ih1 _ _ _ _
      | exact ih2 _ _ _ _
      | exact ih3 _ _ _ _ _ _
      | exact ih4 _ _ _ _ _ _ _
      | exact volumes_Cut.mono _ _ _ _ _
      | exact LeO.none _
      | refine LeO.ite ?_ ?_
      | refine LeO.bind ?_ (fun _ => ?_)
    · intro y0 y1 y2 y3 y4 y5
      unfold satchellaw27_VolumesSpoilt.l0
      repeat' first
      | (with_reducible exact ih0 _ _ _ _ _)
      | (with_reducible exact ih1 _ _ _ _)
      | (with_reducible exact ih2 _ _ _ _)
      | (with_reducible exact ih3 _ _ _ _ _ _)
      | (with_reducible exact ih4 _ _ _ _ _ _ _)
      | (with_reducible exact volumes_Cut.mono _ _ _ _ _)
      | (with_reducible exact LeO.refl _)
      | (with_reducible exact LeO.none _)
      | (with_reducible refine LeO.ite ?_ ?_)
      | (with_reducible refine LeO.bind ?_ (fun _ => ?_))
      | exact ih0 _ _ _ _ _
      | exact ih1 _ _ _ _
      | exact ih2 _ _ _ _
      | exact ih3 _ _ _ _ _ _
      | exact ih4 _ _ _ _ _ _ _
      | exact volumes_Cut.mono _ _ _ _ _
      | exact LeO.none _
      | refine LeO.ite ?_ ?_
      | refine LeO.bind ?_ (fun _ => ?_)
    · intro y0 y1 y2 y3 y4 y5 y6
      unfold satchellaw27_VolumesSpoilt.j4
      repeat' first
      | (with_reducible exact ih0 _ _ _ _ _)
      | (with_reducible exact ih1 _ _ _ _)
      | (with_reducible exact ih2 _ _ _ _)
      | (with_reducible exact ih3 _ _ _ _ _ _)
      | (with_reducible exact ih4 _ _ _ _ _ _ _)
      | (with_reducible exact volumes_Cut.mono _ _ _ _ _)
      | (with_reducible exact LeO.refl _)
      | (with_reducible exact LeO.none _)
      | (with_reducible refine LeO.ite ?_ ?_)
      | (with_reducible refine LeO.bind ?_ (fun _ => ?_))
      | exact ih0 _ _ _ _ _
      | exact ih1 _ _ _ _
      | exact ih2 _ _ _ _
      | exact ih3 _ _ _ _ _ _
      | exact ih4 _ _ _ _ _ _ _
      | exact volumes_Cut.mono _ _ _ _ _
      | exact LeO.none _
      | refine LeO.ite ?_ ?_
      | refine LeO.bind ?_ (fun _ => ?_)
theorem satchellaw27_VolumesSpoilt.mono : ∀ a0 a1 a2 a3 a4 a5 a6 k, LeO (satchellaw27_VolumesSpoilt.f k a0 a1 a2 a3 a4 a5 a6) (satchellaw27_VolumesSpoilt.f (k + 1) a0 a1 a2 a3 a4 a5 a6) := by
  intro a0 a1 a2 a3 a4 a5 a6 k
  obtain ⟨ih0, ih1, ih2, ih3, ih4⟩ := satchellaw27_VolumesSpoilt.mono_l k
  unfold satchellaw27_VolumesSpoilt.f
  repeat' first
      | (with_reducible exact ih0 _ _ _ _ _)
      | (with_reducible exact ih1 _ _ _ _)
      | (with_reducible exact ih2 _ _ _ _)
      | (with_reducible exact ih3 _ _ _ _ _ _)
      | (with_reducible exact ih4 _ _ _ _ _ _ _)
      | (with_reducible exact volumes_Cut.mono _ _ _ _ _)
      | (with_reducible exact LeO.refl _)
      | (with_reducible exact LeO.none _)
      | (with_reducible refine LeO.ite ?_ ?_)
      | (with_reducible refine LeO.bind ?_ (fun _ => ?_))
      | exact ih0 _ _ _ _ _
      | exact ih1 _ _ _ _
      | exact ih2 _ _ _ _
      | exact ih3 _ _ _ _ _ _
      | exact ih4 _ _ _ _ _ _ _
      | exact volumes_Cut.mono _ _ _ _ _
      | exact LeO.none _
      | refine LeO.ite ?_ ?_
      | refine LeO.bind ?_ (fun _ => ?_)
def satchellaw27_VolumesSpoilt.T1 : Bool × List (List Nat × List Nat) := (true, [([], []), ([0], [0]), ([], []), ([2], [2]), ([], []), ([4], [4]), ([1, 0, 1], [1]), ([3, 6, 0, 1, 2, 3, 6], [3]), ([5, 7, 0, 1, 2, 3, 4, 5, 6, 7], [5])])
def satchellaw27_VolumesSpoilt.B1 : List Nat := [0, 1, 0, 4, 0, 16, 3, 79, 255]
theorem satchellaw27_VolumesSpoilt.tab1 : rtab .any (opsOf Try.f10 1) = satchellaw27_VolumesSpoilt.T1 := by kernel_rfl
theorem satchellaw27_VolumesSpoilt.bits1 : waitsOk satchellaw27_VolumesSpoilt.T1.2 satchellaw27_VolumesSpoilt.B1 = true := by kernel_rfl
def satchellaw27_VolumesSpoilt.T2 : Bool × List (List Nat × List Nat) := (true, [([], []), ([], []), ([1], [1]), ([0, 2], [0, 2]), ([], []), ([4], [4]), ([], []), ([6], [6]), ([], []), ([8], [8]), ([3, 5, 7, 9, 3], [3, 5, 7, 9]), ([10], [10]), ([11], [11]), ([11], [11]), ([12, 10, 0, 1, 2, 3, 4, 5, 6, 7, 8, 9, 10, 11, 12], [12]), ([13, 14, 0, 1, 2, 3, 4, 5, 6, 7, 8, 9, 10, 11, 12, 13, 14], [13])])
def satchellaw27_VolumesSpoilt.B2 : List Nat := [0, 0, 2, 7, 0, 16, 0, 64, 0, 256, 1023, 2047, 4095, 4095, 8191, 32767]
theorem satchellaw27_VolumesSpoilt.tab2 : rtab .any (opsOf Try.f10 2) = satchellaw27_VolumesSpoilt.T2 := by kernel_rfl
theorem satchellaw27_VolumesSpoilt.bits2 : waitsOk satchellaw27_VolumesSpoilt.T2.2 satchellaw27_VolumesSpoilt.B2 = true := by kernel_rfl
set_option maxHeartbeats 8000000 in
set_option maxRecDepth 100000 in
theorem satchellaw27_VolumesSpoilt.calls (k : Nat) (A0_0 : Option Addr) (c0_0 : Nat) (l0_0 : List Int) (a0_1 : Int) (a0_2 : Int) (a0_3 : Bool) (a1_0 : Int) (a1_1 : Int) (a1_2 : Int) (r : Bool) (w : World) (hr0_0 : Kd.C (Kd.int .u8) w A0_0 l0_0.length l0_0) (hc0_0 : l0_0.length ≤ c0_0) (h : satchellaw27_VolumesSpoilt.f k l0_0 a0_1 a0_2 a0_3 a1_0 a1_1 a1_2 = some r) :
    Calls Try.prog 10 #[.agg #[.slice A0_0 l0_0.length c0_0, .int .i64 a0_1, .int .u64 a0_2, .bool a0_3], .agg #[.int .i64 a1_0, .int .i64 a1_1, .int .u32 a1_2]] w fun e w' => e = .returned (.bool r) ∧ Below w.heap.size w w' := by
  have hu25 := Try.underlying25
  have hu66 := Try.underlying66
  have hu68 := Try.underlying68
  have HR0_0 := Aside0.mk hr0_0
  have HC0_0 := Aside0.mk hc0_0
  clear hr0_0 hc0_0
  have HB := Aside0.mk (Below.refl w.heap.size w)
  have H : ((some (([] : List Int) : List Int)).bind fun y245 => (if y245.length + l0_0.length < 140737488355328 then ((volumes_Cut.f k (y245 ++ l0_0) a0_1 a0_2 a0_3).bind fun bt251 => (if bt251.2 = 0 then (if (bt251.1.length : Int) = 0 then (satchellaw27_VolumesSpoilt.j0 k a1_0 a1_1 a1_2 bt251.1 true) else (satchellaw27_VolumesSpoilt.j0 k a1_0 a1_1 a1_2 bt251.1 (a1_2 == 0))) else (satchellaw27_VolumesSpoilt.j0 k a1_0 a1_1 a1_2 bt251.1 true))) else (none))) = some r := h
  clear h
  obtain ⟨y245, hy245⟩ : ∃ y_ : List Int, y_ = (([] : List Int)) := ⟨_, rfl⟩
  replace H : (if y245.length + l0_0.length < 140737488355328 then ((volumes_Cut.f k (y245 ++ l0_0) a0_1 a0_2 a0_3).bind fun bt251 => (if bt251.2 = 0 then (if (bt251.1.length : Int) = 0 then (satchellaw27_VolumesSpoilt.j0 k a1_0 a1_1 a1_2 bt251.1 true) else (satchellaw27_VolumesSpoilt.j0 k a1_0 a1_1 a1_2 bt251.1 (a1_2 == 0))) else (satchellaw27_VolumesSpoilt.j0 k a1_0 a1_1 a1_2 bt251.1 true))) else (none)) = some r := by first | (rw [hy245]; with_reducible exact H) | (have H2_ := (Option.bind_some _ _).symm.trans H; rw [hy245]; with_reducible exact H2_) | (have H2_ := (Option.bind_some _ _).symm.trans H; with_reducible exact H2_) | with_reducible exact H | (rw [hy245]; exact H) | exact H
  have Ny245 := Aside0.mk hy245
  clear hy245
  by_cases c3 : y245.length + l0_0.length < 140737488355328
  · rw [if_pos c3] at H
    have LMc3 := Aside0.mk c3
    clear c3
    obtain ⟨y248, hy248⟩ : ∃ y_ : List Int, y_ = (y245 ++ l0_0) := ⟨_, rfl⟩
    replace H : ((volumes_Cut.f k y248 a0_1 a0_2 a0_3).bind fun bt251 => (if bt251.2 = 0 then (if (bt251.1.length : Int) = 0 then (satchellaw27_VolumesSpoilt.j0 k a1_0 a1_1 a1_2 bt251.1 true) else (satchellaw27_VolumesSpoilt.j0 k a1_0 a1_1 a1_2 bt251.1 (a1_2 == 0))) else (satchellaw27_VolumesSpoilt.j0 k a1_0 a1_1 a1_2 bt251.1 true))) = some r := by first | (rw [hy248]; with_reducible exact H) | (have H2_ := (Option.bind_some _ _).symm.trans H; rw [hy248]; with_reducible exact H2_) | (have H2_ := (Option.bind_some _ _).symm.trans H; with_reducible exact H2_) | with_reducible exact H | (rw [hy248]; exact H) | exact H
    have Ny248 := Aside0.mk hy248
    clear hy248
    replace H := Option.bind_eq_some_iff.mp H
    obtain ⟨⟨t251, t252⟩, A40, H⟩ := H
    replace H : (if t252 = 0 then (if (t251.length : Int) = 0 then (satchellaw27_VolumesSpoilt.j0 k a1_0 a1_1 a1_2 t251 true) else (satchellaw27_VolumesSpoilt.j0 k a1_0 a1_1 a1_2 t251 (a1_2 == 0))) else (satchellaw27_VolumesSpoilt.j0 k a1_0 a1_1 a1_2 t251 true)) = some r := H
    have A4 := Aside0.mk A40
    clear A40
    have HC5 := Aside0.mk H
    clear H
    go_enter Try.func10, Try.ntmps10
    try go_wp2_with (first | ((with_reducible refine gate_dst (N := 2) rfl ?_); (try (refine gate_guard (by rfl) ?_; dsimp only)); refine box_event ?hg (N := 2) ?hd (cs := #[.slice A0_0 l0_0.length c0_0, .int .i64 a0_1, .int .u64 a0_2, .bool a0_3]) (t := 25) ?hr ?_; (case hd => rfl); (case hg => rfl); (case hr => first | (go_simp; done) | (go_simp; rfl)); intro gb243 hg w6 hbox hb; have n0_ := Aside0.mk (below_step (by repeat (first | (with_reducible first | exact HB.out | apply below_alloc | apply pw_below_drewN | apply below_drew1) | exact HB.out)) hb); have n1_ := Aside0.mk (hbox); have n2_ := Aside0.mk ((by rw [hg]; exact (below_size (by repeat (first | (with_reducible first | exact HB.out | apply below_alloc | apply pw_below_drewN | apply below_drew1) | exact HB.out))) : w.heap.size ≤ gb243)); have n3_ := Aside0.mk ((by rw [hg]; exact (below_size (by repeat (first | (with_reducible first | exact HB.out | apply below_alloc | apply pw_below_drewN | apply below_drew1) | exact HB.out))) : w.heap.size ≤ gb243)); clear HB; have HB := n0_; have BK243 := n1_; have GW243 := n2_; have GE243 := n3_; clear n0_ n1_ n2_ n3_; clear hb hbox hg) | ((with_reducible refine gate_dst (N := 3) rfl ?_); (try (refine gate_guard (by rfl) ?_; dsimp only)); refine box_event ?hg (N := 3) ?hd (cs := #[.int .i64 a1_0, .int .i64 a1_1, .int .u32 a1_2]) (t := 66) ?hr ?_; (case hd => rfl); (case hg => rfl); (case hr => first | (go_simp; done) | (go_simp; rfl)); intro gb244 hg w7 hbox hb; have n0_ := Aside0.mk (blk_below (g := gb243) (o := .cells #[.slice A0_0 l0_0.length c0_0, .int .i64 a0_1, .int .u64 a0_2, .bool a0_3] 25 (0, 0)) (by (with_reducible repeat (first | refine blk_drewN ?_ _ | refine blk_drew ?_ | refine blk_alloc ?_ _)); exact BK243.out) hb); have n1_ := Aside0.mk (below_step (by repeat (first | (with_reducible first | exact HB.out | apply below_alloc | apply pw_below_drewN | apply below_drew1 | refine below_set ?_ GE243.out) | exact HB.out)) hb); have n2_ := Aside0.mk (hbox); have n3_ := Aside0.mk ((by rw [hg]; exact (below_size (by repeat (first | (with_reducible first | exact HB.out | apply below_alloc | apply pw_below_drewN | apply below_drew1 | refine below_set ?_ GE243.out) | exact HB.out))) : w.heap.size ≤ gb244)); have n4_ := Aside0.mk ((by rw [hg]; exact (below_size (by repeat (first | (with_reducible first | exact HB.out | apply below_alloc | apply pw_below_drewN | apply below_drew1 | refine below_set ?_ GE243.out) | exact HB.out))) : w.heap.size ≤ gb244)); have n5_ := Aside0.mk ((by rw [hg]; exact Nat.ne_of_lt (blk_lt (g := gb243) (o := .cells #[.slice A0_0 l0_0.length c0_0, .int .i64 a0_1, .int .u64 a0_2, .bool a0_3] 25 (0, 0)) (by (with_reducible repeat (first | refine blk_drewN ?_ _ | refine blk_drew ?_ | refine blk_alloc ?_ _)); exact BK243.out)) : gb243 ≠ gb244)); have n6_ := Aside0.mk ((by rw [hg]; exact Nat.ne_of_gt (blk_lt (g := gb243) (o := .cells #[.slice A0_0 l0_0.length c0_0, .int .i64 a0_1, .int .u64 a0_2, .bool a0_3] 25 (0, 0)) (by (with_reducible repeat (first | refine blk_drewN ?_ _ | refine blk_drew ?_ | refine blk_alloc ?_ _)); exact BK243.out)) : gb244 ≠ gb243)); clear BK243; clear HB; have BK243 := n0_; have HB := n1_; have BK244 := n2_; have GW244 := n3_; have GE244 := n4_; have NB243_244 := n5_; have NB244_243 := n6_; clear n0_ n1_ n2_ n3_ n4_ n5_ n6_; clear hb hbox hg))
    have n0_ := Aside0.mk (blk_drew BK243.out)
    have n1_ := Aside0.mk (blk_drew BK244.out)
    have n2_ := Aside0.mk (below_drew1 HB.out)
    clear BK243
    clear BK244
    clear HB
    have BK243 := n0_
    have BK244 := n1_
    have HB := n2_
    clear n0_ n1_ n2_
    refine start_ (n := 9) (S := fun w' => w'.cell? ⟨gb244, 0, none⟩ = some (.int .i64 a1_0) ∧ w'.cell? ⟨gb244, 1, none⟩ = some (.int .i64 a1_1) ∧ w'.cell? ⟨gb244, 2, none⟩ = some (.int .u32 a1_2)) (ds := []) #[false, false, false, false, false, false, false, false, false] (by kernel_rfl) rfl rfl ⟨(blk_cell BK244.out 0).trans rfl, (blk_cell BK244.out 1).trans rfl, (blk_cell BK244.out 2).trans rfl⟩ (fun hHeld => ?_); refine with_tabW satchellaw27_VolumesSpoilt.tab1 satchellaw27_VolumesSpoilt.bits1 (fun HT_ HW_ => ?_)
    generalize w7.drew = w8 at BK243 BK244 HB hHeld ⊢
    refine pure_ (i := 0) (N := some 22) (v := ?_) (a' := ?_) #[true, false, false, false, false, false, false, false, false] rfl rfl (any_of HT_.out (by kernel_rfl)) (fun _ _ _ h => h) (Or.inl ⟨by rfl, ?_⟩) ?_ ?_
    rotate_left
    · intro w'
      go_simp
      with_reducible rfl
    rotate_left
    · simp only [Act.put, List.setIfInBounds_toArray, List.set_cons_zero, List.set_cons_succ, i64_w, i32_w]
      rfl
    refine pure_ (i := 2) (N := some 24) (v := ?_) (a' := ?_) #[true, false, true, false, false, false, false, false, false] rfl rfl (any_of HT_.out (by kernel_rfl)) (fun _ _ _ h => h) (Or.inl ⟨by rfl, ?_⟩) ?_ ?_
    rotate_left
    · intro w'
      go_simp
      with_reducible rfl
    rotate_left
    · simp only [Act.put, List.setIfInBounds_toArray, List.set_cons_zero, List.set_cons_succ, i64_w, i32_w]
      rfl
    refine pure_ (i := 4) (N := some 26) (v := ?_) (a' := ?_) #[true, false, true, false, true, false, false, false, false] rfl rfl (any_of HT_.out (by kernel_rfl)) (fun _ _ _ h => h) (Or.inl ⟨by rfl, ?_⟩) ?_ ?_
    rotate_left
    · intro w'
      go_simp
      with_reducible rfl
    rotate_left
    · simp only [Act.put, List.setIfInBounds_toArray, List.set_cons_zero, List.set_cons_succ, i64_w, i32_w]
      rfl
    refine take_ (i := 1) (N := some 23) (v := ?_) (a' := ?_) #[true, true, true, false, true, false, false, false, false] rfl rfl (take_ofW HT_.out HW_.out (by kernel_rfl)) (fun _ _ _ h => h) (Or.inl ⟨by rfl, ?_⟩) hHeld ?_ ?_
    rotate_left
    · rintro w' ⟨s0, s1, s2⟩
      go_simp
      with_reducible rfl
    rotate_left
    · simp only [Act.put, List.setIfInBounds_toArray, List.set_cons_zero, List.set_cons_succ, i64_w, i32_w]
      rfl
    refine pure_ (i := 6) (N := some 5) (v := ?_) (a' := ?_) #[true, true, true, false, true, false, true, false, false] rfl rfl (any_of HT_.out (by kernel_rfl)) (fun _ _ _ h => h) (Or.inl ⟨by rfl, ?_⟩) ?_ ?_
    rotate_left
    · intro w'
      go_simp
      with_reducible rfl
    rotate_left
    · simp only [Act.put, List.setIfInBounds_toArray, List.set_cons_zero, List.set_cons_succ, i64_w, i32_w]
      rfl
    refine take_ (i := 3) (N := some 25) (v := ?_) (a' := ?_) #[true, true, true, true, true, false, true, false, false] rfl rfl (take_ofW HT_.out HW_.out (by kernel_rfl)) (fun _ _ _ h => h) (Or.inl ⟨by rfl, ?_⟩) hHeld ?_ ?_
    rotate_left
    · rintro w' ⟨s0, s1, s2⟩
      go_simp
      with_reducible rfl
    rotate_left
    · simp only [Act.put, List.setIfInBounds_toArray, List.set_cons_zero, List.set_cons_succ, i64_w, i32_w]
      rfl
    refine pure_ (i := 7) (N := some 6) (v := ?_) (a' := ?_) #[true, true, true, true, true, false, true, true, false] rfl rfl (any_of HT_.out (by kernel_rfl)) (fun _ _ _ h => h) (Or.inl ⟨by rfl, ?_⟩) ?_ ?_
    rotate_left
    · intro w'
      go_simp
      with_reducible rfl
    rotate_left
    · simp only [Act.put, List.setIfInBounds_toArray, List.set_cons_zero, List.set_cons_succ, i64_w, i32_w]
      rfl
    refine take_ (i := 5) (N := some 27) (v := ?_) (a' := ?_) #[true, true, true, true, true, true, true, true, false] rfl rfl (take_ofW HT_.out HW_.out (by kernel_rfl)) (fun _ _ _ h => h) (Or.inl ⟨by rfl, ?_⟩) hHeld ?_ ?_
    rotate_left
    · rintro w' ⟨s0, s1, s2⟩
      go_simp
      with_reducible rfl
    rotate_left
    · simp only [Act.put, List.setIfInBounds_toArray, List.set_cons_zero, List.set_cons_succ, i64_w, i32_w]
      rfl
    refine pure_ (i := 8) (N := some 7) (v := ?_) (a' := ?_) #[true, true, true, true, true, true, true, true, true] rfl rfl (any_of HT_.out (by kernel_rfl)) (fun _ _ _ h => h) (Or.inl ⟨by rfl, ?_⟩) ?_ ?_
    rotate_left
    · intro w'
      go_simp
      with_reducible rfl
    rotate_left
    · simp only [Act.put, List.setIfInBounds_toArray, List.set_cons_zero, List.set_cons_succ, i64_w, i32_w]
      rfl
    refine done_ (done_of HT_.out (by kernel_rfl)) ?_
    try go_wp2
    have n0_ := Aside0.mk (blk_drew BK243.out)
    have n1_ := Aside0.mk (blk_drew BK244.out)
    have n2_ := Aside0.mk (below_drew1 HB.out)
    clear BK243
    clear BK244
    clear HB
    have BK243 := n0_
    have BK244 := n1_
    have HB := n2_
    clear n0_ n1_ n2_
    refine start_ (n := 16) (S := fun w' => w'.cell? ⟨gb243, 0, none⟩ = some (.slice A0_0 l0_0.length c0_0) ∧ w'.cell? ⟨gb243, 1, none⟩ = some (.int .i64 a0_1) ∧ w'.cell? ⟨gb243, 2, none⟩ = some (.int .u64 a0_2) ∧ w'.cell? ⟨gb243, 3, none⟩ = some (.bool a0_3)) (ds := []) #[false, false, false, false, false, false, false, false, false, false, false, false, false, false, false, false] (by kernel_rfl) rfl rfl ⟨(blk_cell BK243.out 0).trans rfl, (blk_cell BK243.out 1).trans rfl, (blk_cell BK243.out 2).trans rfl, (blk_cell BK243.out 3).trans rfl⟩ (fun hHeld => ?_); refine with_tabW satchellaw27_VolumesSpoilt.tab2 satchellaw27_VolumesSpoilt.bits2 (fun HT_ HW_ => ?_)
    generalize w8.drew = w9 at BK243 BK244 HB hHeld ⊢
    refine pure_ (i := 1) (N := some 30) (v := ?_) (a' := ?_) #[false, true, false, false, false, false, false, false, false, false, false, false, false, false, false, false] rfl rfl (any_of HT_.out (by kernel_rfl)) (fun _ _ _ h => h) (Or.inl ⟨by rfl, ?_⟩) ?_ ?_
    rotate_left
    · intro w'
      go_simp
      with_reducible rfl
    rotate_left
    · simp only [Act.put, List.setIfInBounds_toArray, List.set_cons_zero, List.set_cons_succ, i64_w, i32_w]
      rfl
    refine pure_ (i := 4) (N := some 33) (v := ?_) (a' := ?_) #[false, true, false, false, true, false, false, false, false, false, false, false, false, false, false, false] rfl rfl (any_of HT_.out (by kernel_rfl)) (fun _ _ _ h => h) (Or.inl ⟨by rfl, ?_⟩) ?_ ?_
    rotate_left
    · intro w'
      go_simp
      with_reducible rfl
    rotate_left
    · simp only [Act.put, List.setIfInBounds_toArray, List.set_cons_zero, List.set_cons_succ, i64_w, i32_w]
      rfl
    refine pure_ (i := 6) (N := some 35) (v := ?_) (a' := ?_) #[false, true, false, false, true, false, true, false, false, false, false, false, false, false, false, false] rfl rfl (any_of HT_.out (by kernel_rfl)) (fun _ _ _ h => h) (Or.inl ⟨by rfl, ?_⟩) ?_ ?_
    rotate_left
    · intro w'
      go_simp
      with_reducible rfl
    rotate_left
    · simp only [Act.put, List.setIfInBounds_toArray, List.set_cons_zero, List.set_cons_succ, i64_w, i32_w]
      rfl
    refine pure_ (i := 8) (N := some 37) (v := ?_) (a' := ?_) #[false, true, false, false, true, false, true, false, true, false, false, false, false, false, false, false] rfl rfl (any_of HT_.out (by kernel_rfl)) (fun _ _ _ h => h) (Or.inl ⟨by rfl, ?_⟩) ?_ ?_
    rotate_left
    · intro w'
      go_simp
      with_reducible rfl
    rotate_left
    · simp only [Act.put, List.setIfInBounds_toArray, List.set_cons_zero, List.set_cons_succ, i64_w, i32_w]
      rfl
    refine take_ (i := 2) (N := some 31) (v := ?_) (a' := ?_) #[false, true, true, false, true, false, true, false, true, false, false, false, false, false, false, false] rfl rfl (take_ofW HT_.out HW_.out (by kernel_rfl)) (fun _ _ _ h => h) (Or.inl ⟨by rfl, ?_⟩) hHeld ?_ ?_
    rotate_left
    · rintro w' ⟨s0, s1, s2, s3⟩
      go_simp
      with_reducible rfl
    rotate_left
    · simp only [Act.put, List.setIfInBounds_toArray, List.set_cons_zero, List.set_cons_succ, i64_w, i32_w]
      rfl
    refine take_ (i := 5) (N := some 34) (v := ?_) (a' := ?_) #[false, true, true, false, true, true, true, false, true, false, false, false, false, false, false, false] rfl rfl (take_ofW HT_.out HW_.out (by kernel_rfl)) (fun _ _ _ h => h) (Or.inl ⟨by rfl, ?_⟩) hHeld ?_ ?_
    rotate_left
    · rintro w' ⟨s0, s1, s2, s3⟩
      go_simp
      with_reducible rfl
    rotate_left
    · simp only [Act.put, List.setIfInBounds_toArray, List.set_cons_zero, List.set_cons_succ, i64_w, i32_w]
      rfl
    refine take_ (i := 7) (N := some 36) (v := ?_) (a' := ?_) #[false, true, true, false, true, true, true, true, true, false, false, false, false, false, false, false] rfl rfl (take_ofW HT_.out HW_.out (by kernel_rfl)) (fun _ _ _ h => h) (Or.inl ⟨by rfl, ?_⟩) hHeld ?_ ?_
    rotate_left
    · rintro w' ⟨s0, s1, s2, s3⟩
      go_simp
      with_reducible rfl
    rotate_left
    · simp only [Act.put, List.setIfInBounds_toArray, List.set_cons_zero, List.set_cons_succ, i64_w, i32_w]
      rfl
    refine take_ (i := 9) (N := some 38) (v := ?_) (a' := ?_) #[false, true, true, false, true, true, true, true, true, true, false, false, false, false, false, false] rfl rfl (take_ofW HT_.out HW_.out (by kernel_rfl)) (fun _ _ _ h => h) (Or.inl ⟨by rfl, ?_⟩) hHeld ?_ ?_
    rotate_left
    · rintro w' ⟨s0, s1, s2, s3⟩
      go_simp
      with_reducible rfl
    rotate_left
    · simp only [Act.put, List.setIfInBounds_toArray, List.set_cons_zero, List.set_cons_succ, i64_w, i32_w]
      rfl
    refine one_ (i := 0) (N := some 29) #[true, true, true, false, true, true, true, true, true, true, false, false, false, false, false, false] rfl rfl (one_of HT_.out (by kernel_rfl)) (by decide) (fun K hK => ?_)
    refine Kd.R_lit_step (Kd.int .u8) _ 5 ?hg (N := 29) ?hd (xs := ([] : List Int)) (inner := []) (ok := fun _ => True) (okp := fun _ => True) ?hr ?hp (fun _ hk => hk) trivial (Below.refl _ _) (Nat.le_refl _) (by simp) ?_; (case hd => rfl); (case hg => rfl); (case hr => first | (go_simp; done) | (go_simp; rfl)); (case hp => exact (Reps.none _ _))
    intro v246 w10 ho11 hb hg_ hnew_
    clear hg_ hnew_
    (first | rw [← Ny245.out] at ho11 | (simp only [Int.reduceToNat] at ho11; rw [← Ny245.out] at ho11))
    have n0_ := Aside0.mk (Kd.R_lower ho11 (below_size (by repeat (first | (with_reducible first | exact HB.out | apply below_alloc | apply pw_below_drewN | apply below_drew1 | refine below_set ?_ GE243.out | refine below_set ?_ GE244.out) | exact HB.out))))
    have n1_ := Aside0.mk (blk_below (g := gb243) (o := .cells #[.slice A0_0 l0_0.length c0_0, .int .i64 a0_1, .int .u64 a0_2, .bool a0_3] 25 (0, 0)) (by (with_reducible repeat (first | refine blk_drewN ?_ _ | refine blk_drew ?_ | refine blk_alloc ?_ _)); exact BK243.out) hb)
    have n2_ := Aside0.mk (blk_below (g := gb244) (o := .cells #[.int .i64 a1_0, .int .i64 a1_1, .int .u32 a1_2] 66 (0, 0)) (by (with_reducible repeat (first | refine blk_drewN ?_ _ | refine blk_drew ?_ | refine blk_alloc ?_ _)); exact BK244.out) hb)
    have n3_ := Aside0.mk (below_step (by repeat (first | (with_reducible first | exact HB.out | apply below_alloc | apply pw_below_drewN | apply below_drew1 | refine below_set ?_ GE243.out | refine below_set ?_ GE244.out) | exact HB.out)) hb)
    clear BK243
    clear BK244
    clear HB
    have HO247 := n0_
    have BK243 := n1_
    have BK244 := n2_
    have HB := n3_
    clear n0_ n1_ n2_ n3_
    clear hb ho11
    refine hK.out _ _ ⟨(blk_cell BK243.out 0).trans rfl, (blk_cell BK243.out 1).trans rfl, (blk_cell BK243.out 2).trans rfl, (blk_cell BK243.out 3).trans rfl⟩ (fun hHeld => ?_)
    clear hK K
    refine norm_ (a' := ?_) ?_ ?_
    rotate_left
    · show Act.put _ (some 29) _ = _
      simp only [Act.put, List.setIfInBounds_toArray, List.set_cons_zero, List.set_cons_succ, i64_w, i32_w]
      rfl
    refine one_ (i := 3) (N := some 32) #[true, true, true, true, true, true, true, true, true, true, false, false, false, false, false, false] rfl rfl (one_of HT_.out (by kernel_rfl)) (by decide) (fun K hK => ?_)
    refine Kd.R_append_rows_step (Kd.int .u8) (w0 := w) w.heap.size (by rfl) (.tmp 29) (.tmp 31) 22 5 (.int .u8 0) 1 rfl Try.underlying22 info5 rfl (by decide) (by omega) v246 y245 l0_0 _ _ _ (fun _ => True) (fun _ => False) rfl rfl ?aO ?aR (fun _ _ h => h) (fun _ h => h.elim) ?aF ?aB ?aS ?aL ?_
    (case aR => repeat (first | exact (Kd.C_below HR0_0.out HB.out) | (with_reducible refine Kd.C_alloc ?_ _) | (with_reducible refine Kd.C_drewN ?_ _) | (with_reducible refine Kd.C_drew ?_)))
    (case aB => exact (by repeat (first | (with_reducible first | exact HB.out | apply below_alloc | apply pw_below_drewN | apply below_drew1 | refine below_set ?_ GE243.out | refine below_set ?_ GE244.out) | exact HB.out)))
    (case aF => exact (fun _ _ => trivial))
    (case aO => exact (by (with_reducible repeat (first | apply Kd.R_alloc | apply Kd.R_drewN | apply Kd.R_drew)); exact HO247.out))
    (case aS => exact (below_size (by repeat (first | (with_reducible first | exact HB.out | apply below_alloc | apply pw_below_drewN | apply below_drew1 | refine below_set ?_ GE243.out | refine below_set ?_ GE244.out) | exact HB.out))))
    (case aL => have := LMc3.out; omega)
    intro v249 w12 ho hb hg hat
    rw [← Ny248.out] at ho
    have n0_ := Aside0.mk (blk_grown (g := gb243) (o := .cells #[.slice A0_0 l0_0.length c0_0, .int .i64 a0_1, .int .u64 a0_2, .bool a0_3] 25 (0, 0)) (by (with_reducible repeat (first | refine blk_drewN ?_ _ | refine blk_drew ?_ | refine blk_alloc ?_ _)); exact BK243.out) hg (Kd.R_ne HO247.out BK243.out (by decide)))
    have n1_ := Aside0.mk (blk_grown (g := gb244) (o := .cells #[.int .i64 a1_0, .int .i64 a1_1, .int .u32 a1_2] 66 (0, 0)) (by (with_reducible repeat (first | refine blk_drewN ?_ _ | refine blk_drew ?_ | refine blk_alloc ?_ _)); exact BK244.out) hg (Kd.R_ne HO247.out BK244.out (by decide)))
    have n2_ := Aside0.mk (hb)
    have n3_ := Aside0.mk (ho)
    clear BK243
    clear BK244
    clear HB
    clear HO247
    have BK243 := n0_
    have BK244 := n1_
    have HB := n2_
    have HO250 := n3_
    clear n0_ n1_ n2_ n3_
    clear ho hb hg hat
    obtain ⟨Ao13, co13, eo13⟩ := Kd.R_slice HO250.out
    (first | subst eo13 | (injection eo13 with f1_ f2_ f3_; have f4_ := f1_.symm; have f5_ := f3_.symm; clear f1_ f2_ f3_; subst f4_; subst f5_))
    refine hK.out _ _ ⟨(blk_cell BK243.out 0).trans rfl, (blk_cell BK243.out 1).trans rfl, (blk_cell BK243.out 2).trans rfl, (blk_cell BK243.out 3).trans rfl⟩ (fun hHeld => ?_)
    clear hK K
    refine norm_ (a' := ?_) ?_ ?_
    rotate_left
    · show Act.put _ (some 32) _ = _
      simp only [Act.put, List.setIfInBounds_toArray, List.set_cons_zero, List.set_cons_succ, i64_w, i32_w]
      rfl
    refine one_ (i := 10) (N := some 39) #[true, true, true, true, true, true, true, true, true, true, true, false, false, false, false, false] rfl rfl (one_of HT_.out (by kernel_rfl)) (by decide) (fun K hK => ?_)
    refine goes_ Try.func15 (by kernel_rfl) rfl #[.slice Ao13 y248.length co13, .int .i64 a0_1, .int .u64 a0_2, .bool a0_3] (by rfl) rfl rfl (by (try simp only [List.map_toArray, List.map_cons, List.map_nil]); first | done | rfl | (simp only [List.length_drop, List.length_take]; rfl)) ?_
    with_reducible refine (volumes_Cut.calls k _ _ y248 a0_1 a0_2 a0_3 t251 t252 _ ?side1 ?side2 A4.out).mono ?_
    (case side1 => repeat (first | exact (Kd.R_reads' HO250.out).2.2 | (with_reducible refine Kd.C_alloc ?_ _) | (with_reducible refine Kd.C_drewN ?_ _) | (with_reducible refine Kd.C_drew ?_)))
    (case side2 => exact (Kd.R_reads' HO250.out).2.1)
    rintro e w14 ⟨v253, rfl, ho0, hb⟩
    refine ⟨_, rfl, ?_⟩
    have n0_ := Aside0.mk (Kd.R_below (by (with_reducible repeat (first | apply Kd.R_alloc | apply Kd.R_drewN | apply Kd.R_drew)); exact HO250.out) hb)
    have n1_ := Aside0.mk (Kd.S_lower (Kd.S_new' ho0 (Kd.R_lt (by (with_reducible repeat (first | apply Kd.R_alloc | apply Kd.R_drewN | apply Kd.R_drew)); exact HO250.out))) (below_size (by repeat (first | (with_reducible first | exact HB.out | apply below_alloc | apply pw_below_drewN | apply below_drew1 | refine below_set ?_ GE243.out | refine below_set ?_ GE244.out) | exact HB.out))))
    have n2_ := Aside0.mk (blk_below (g := gb243) (o := .cells #[.slice A0_0 l0_0.length c0_0, .int .i64 a0_1, .int .u64 a0_2, .bool a0_3] 25 (0, 0)) (by (with_reducible repeat (first | refine blk_drewN ?_ _ | refine blk_drew ?_ | refine blk_alloc ?_ _)); exact BK243.out) hb)
    have n3_ := Aside0.mk (blk_below (g := gb244) (o := .cells #[.int .i64 a1_0, .int .i64 a1_1, .int .u32 a1_2] 66 (0, 0)) (by (with_reducible repeat (first | refine blk_drewN ?_ _ | refine blk_drew ?_ | refine blk_alloc ?_ _)); exact BK244.out) hb)
    have n4_ := Aside0.mk (below_step (by repeat (first | (with_reducible first | exact HB.out | apply below_alloc | apply pw_below_drewN | apply below_drew1 | refine below_set ?_ GE243.out | refine below_set ?_ GE244.out) | exact HB.out)) hb)
    clear HO250
    clear BK243
    clear BK244
    clear HB
    have HO250 := n0_
    have HO254 := n1_
    have BK243 := n2_
    have BK244 := n3_
    have HB := n4_
    clear n0_ n1_ n2_ n3_ n4_
    (try clear hb)
    (try clear hb2)
    (try clear hk)
    (try clear hi)
    (try clear ho0)
    refine hK.out _ _ ⟨(blk_cell BK243.out 0).trans rfl, (blk_cell BK243.out 1).trans rfl, (blk_cell BK243.out 2).trans rfl, (blk_cell BK243.out 3).trans rfl⟩ (fun hHeld => ?_)
    clear hK K
    refine norm_ (a' := ?_) ?_ ?_
    rotate_left
    · show Act.put _ (some 39) _ = _
      simp only [Act.put, List.setIfInBounds_toArray, List.set_cons_zero, List.set_cons_succ, i64_w, i32_w]
      rfl
    refine pure_ (i := 11) (N := some 28) (v := ?_) (a' := ?_) #[true, true, true, true, true, true, true, true, true, true, true, true, false, false, false, false] rfl rfl (any_of HT_.out (by kernel_rfl)) (fun _ _ _ h => h) (Or.inl ⟨by rfl, ?_⟩) ?_ ?_
    rotate_left
    · intro w'
      go_simp
      with_reducible rfl
    rotate_left
    · simp only [Act.put, List.setIfInBounds_toArray, List.set_cons_zero, List.set_cons_succ, i64_w, i32_w]
      rfl
    refine pure_ (i := 12) (N := some 40) (v := ?_) (a' := ?_) #[true, true, true, true, true, true, true, true, true, true, true, true, true, false, false, false] rfl rfl (any_of HT_.out (by kernel_rfl)) (fun _ _ _ h => h) (Or.inl ⟨by rfl, ?_⟩) ?_ ?_
    rotate_left
    · intro w'
      go_simp
      with_reducible rfl
    rotate_left
    · simp only [Act.put, List.setIfInBounds_toArray, List.set_cons_zero, List.set_cons_succ, i64_w, i32_w]
      rfl
    refine pure_ (i := 13) (N := some 41) (v := ?_) (a' := ?_) #[true, true, true, true, true, true, true, true, true, true, true, true, true, true, false, false] rfl rfl (any_of HT_.out (by kernel_rfl)) (fun _ _ _ h => h) (Or.inl ⟨by rfl, ?_⟩) ?_ ?_
    rotate_left
    · intro w'
      go_simp
      with_reducible rfl
    rotate_left
    · simp only [Act.put, List.setIfInBounds_toArray, List.set_cons_zero, List.set_cons_succ, i64_w, i32_w]
      rfl
    refine pure_ (i := 14) (N := some 8) (v := ?_) (a' := ?_) #[true, true, true, true, true, true, true, true, true, true, true, true, true, true, true, false] rfl rfl (any_of HT_.out (by kernel_rfl)) (fun _ _ _ h => h) (Or.inl ⟨by rfl, ?_⟩) ?_ ?_
    rotate_left
    · intro w'
      go_simp
      with_reducible rfl
    rotate_left
    · simp only [Act.put, List.setIfInBounds_toArray, List.set_cons_zero, List.set_cons_succ, i64_w, i32_w]
      rfl
    refine pure_ (i := 15) (N := some 9) (v := ?_) (a' := ?_) #[true, true, true, true, true, true, true, true, true, true, true, true, true, true, true, true] rfl rfl (any_of HT_.out (by kernel_rfl)) (fun _ _ _ h => h) (Or.inl ⟨by rfl, ?_⟩) ?_ ?_
    rotate_left
    · intro w'
      go_simp
      with_reducible rfl
    rotate_left
    · simp only [Act.put, List.setIfInBounds_toArray, List.set_cons_zero, List.set_cons_succ, i64_w, i32_w]
      rfl
    refine done_ (done_of HT_.out (by kernel_rfl)) ?_
    go_upto_region 3 with (fail)
    go_cut [52] (fun v52 wc => ∃ (kq : Nat) (x52_4 : Bool), v52 = .bool x52_4 ∧ Aside0 (satchellaw27_VolumesSpoilt.j0 kq a1_0 a1_1 a1_2 t251 x52_4 = some r) ∧ Aside0 (kq ≤ k) ∧ Aside0 (Kd.S (Kd.slice 5 (Kd.int .u8)) 22 wc w.heap.size (fun _ => True) v253 t251) ∧ Aside0 (wc.heap[gb243]? = some (.cells #[(.slice A0_0 l0_0.length c0_0), .int .i64 a0_1, .int .u64 a0_2, .bool a0_3] 25 (0, 0))) ∧ Aside0 (wc.heap[gb244]? = some (.cells #[.int .i64 a1_0, .int .i64 a1_1, .int .u32 a1_2] 66 (0, 0))) ∧ Aside0 (Below w.heap.size w wc))
    case first =>
      have H := HC5.out
      clear HC5
      by_cases c15 : t252 = 0
      · rw [if_pos c15] at H
        have c15b0 : (t252 == 0) = true := beq_iff_eq.mpr c15
        have c15b1 : (t252 != 0) = false := bne_eq_false_iff_eq.mpr c15
        clear c15
        (first | rw [c15b0] | (simp only [i64_w, i32_w]; rw [c15b0]) | skip)
        by_cases c16 : (t251.length : Int) = 0
        · rw [if_pos c16] at H
          have c16b0 : ((t251.length : Int) == 0) = true := beq_iff_eq.mpr c16
          have c16b1 : ((t251.length : Int) != 0) = false := bne_eq_false_iff_eq.mpr c16
          clear c16
          have H' := Aside0.mk H
          clear H
          obtain ⟨Ao17, co17, eo17⟩ := Kd.S_slice HO254.out
          subst eo17
          go_wp2
          go_meet
          case rel => exact ⟨_, (true), (by first | rfl | (simp; done) | (simp [*]; done)), H', ⟨by first | omega | exact Nat.le_refl _⟩, ⟨by (with_reducible repeat (first | apply Kd.S_alloc | apply Kd.S_drewN | apply Kd.S_drew)); exact Kd.S_mono HO254.out (fun _ hk => trivial)⟩, ⟨by (with_reducible repeat (first | refine blk_drewN ?_ _ | refine blk_drew ?_ | refine blk_alloc ?_ _)); exact BK243.out⟩, ⟨by (with_reducible repeat (first | refine blk_drewN ?_ _ | refine blk_drew ?_ | refine blk_alloc ?_ _)); exact BK244.out⟩, ⟨by repeat (first | (with_reducible first | exact HB.out | apply below_alloc | apply pw_below_drewN | apply below_drew1 | refine below_set ?_ GE243.out | refine below_set ?_ GE244.out) | exact HB.out)⟩⟩
        · rw [if_neg c16] at H
          have c16b0 : ((t251.length : Int) == 0) = false := beq_eq_false_iff_ne.mpr c16
          have c16b1 : ((t251.length : Int) != 0) = true := bne_iff_ne.mpr c16
          have c16b2 : ¬ (t251 = []) := fun h_ => c16 (by rw [h_]; rfl)
          have H' := Aside0.mk H
          clear H
          obtain ⟨Ao18, co18, eo18⟩ := Kd.S_slice HO254.out
          subst eo18
          go_wp2
          go_meet
          case rel => exact ⟨_, ((a1_2 == 0)), (by first | rfl | (simp; done) | (simp [*]; done)), H', ⟨by first | omega | exact Nat.le_refl _⟩, ⟨by (with_reducible repeat (first | apply Kd.S_alloc | apply Kd.S_drewN | apply Kd.S_drew)); exact Kd.S_mono HO254.out (fun _ hk => trivial)⟩, ⟨by (with_reducible repeat (first | refine blk_drewN ?_ _ | refine blk_drew ?_ | refine blk_alloc ?_ _)); exact BK243.out⟩, ⟨by (with_reducible repeat (first | refine blk_drewN ?_ _ | refine blk_drew ?_ | refine blk_alloc ?_ _)); exact BK244.out⟩, ⟨by repeat (first | (with_reducible first | exact HB.out | apply below_alloc | apply pw_below_drewN | apply below_drew1 | refine below_set ?_ GE243.out | refine below_set ?_ GE244.out) | exact HB.out)⟩⟩
      · rw [if_neg c15] at H
        have c15b0 : (t252 == 0) = false := beq_eq_false_iff_ne.mpr c15
        have c15b1 : (t252 != 0) = true := bne_iff_ne.mpr c15
        (first | rw [c15b0] | (simp only [i64_w, i32_w]; rw [c15b0]) | skip)
        have H' := Aside0.mk H
        clear H
        go_wp2
        go_meet
        case rel => exact ⟨_, (true), (by first | rfl | (simp; done) | (simp [*]; done)), H', ⟨by first | omega | exact Nat.le_refl _⟩, ⟨by (with_reducible repeat (first | apply Kd.S_alloc | apply Kd.S_drewN | apply Kd.S_drew)); exact Kd.S_mono HO254.out (fun _ hk => trivial)⟩, ⟨by (with_reducible repeat (first | refine blk_drewN ?_ _ | refine blk_drew ?_ | refine blk_alloc ?_ _)); exact BK243.out⟩, ⟨by (with_reducible repeat (first | refine blk_drewN ?_ _ | refine blk_drew ?_ | refine blk_alloc ?_ _)); exact BK244.out⟩, ⟨by repeat (first | (with_reducible first | exact HB.out | apply below_alloc | apply pw_below_drewN | apply below_drew1 | refine below_set ?_ GE243.out | refine below_set ?_ GE244.out) | exact HB.out)⟩⟩
    case rest =>
      clear HC5
      try clear c1
      try clear p2
      try clear c3
      try clear c10
      try clear c15
      try clear c15b0
      try clear c15b1
      try clear c16
      try clear c16b0
      try clear c16b1
      try clear c16b2
      obtain ⟨kq, x52_4, rfl, HA, HJ4, HO_8, BK243, BK244, HB⟩ := hcut
      cases kq with
      | zero => exact absurd HA.out (by simp [satchellaw27_VolumesSpoilt.j0])
      | succ kj4 =>
        have H := HA.out
        clear HA
        simp only [satchellaw27_VolumesSpoilt.j0] at H
        by_cases c19 : x52_4 = true
        · subst c19
          have H1 : (if 64 ≤ 281474976710656 then ((volumes_Read.f (List.replicate 64 0)).bind fun bt258 => (some (bt258.2.2.2.2.2.2.2.2 == 270))) else (none)) = some r := by rw [if_pos rfl] at H; exact H
          clear H
          have H := H1
          clear H1
          by_cases c20 : 64 ≤ 281474976710656
          · rw [if_pos c20] at H
            have c20b0 := eq_true c20
            have c20b1 : decide (64 ≤ 281474976710656) = true := decide_eq_true c20
            clear c20
            obtain ⟨y255, hy255⟩ : ∃ y_ : List Int, y_ = (List.replicate 64 0) := ⟨_, rfl⟩
            replace H : ((volumes_Read.f y255).bind fun bt258 => (some (bt258.2.2.2.2.2.2.2.2 == 270))) = some r := by first | (rw [hy255]; with_reducible exact H) | (have H2_ := (Option.bind_some _ _).symm.trans H; rw [hy255]; with_reducible exact H2_) | (have H2_ := (Option.bind_some _ _).symm.trans H; with_reducible exact H2_) | with_reducible exact H | (rw [hy255]; exact H) | exact H
            have Ny255 := Aside0.mk hy255
            clear hy255
            replace H := Option.bind_eq_some_iff.mp H
            obtain ⟨⟨t258, t259, t260, t261, t262, t263, t264, t265, t268⟩, A210, H⟩ := H
            replace H : (some (t268 == 270)) = some r := H
            have A21 := Aside0.mk A210
            clear A210
            obtain rfl := Option.some.inj H
            go_wp2_with (first | ((with_reducible refine gate_dst (N := 54) rfl ?_); (try (refine gate_guard (by rfl) ?_; dsimp only)); refine Kd.R_make (Kd.int .u8) _ 5 rfl (N := 54) rfl 22 _ _ rfl 64 rfl rfl Try.underlying22 (.int .u8 0) 1 info5 rfl (by decide) (by omega) 0 (ok := fun _ => True) (okp := fun _ => True) rfl (fun _ hk => hk) trivial (by omega) (by omega) (Below.refl _ _) (Nat.le_refl _) ?_; intro v256 w22 ho23 hb hg_ hnew_; clear hg_ hnew_; (first | rw [← Ny255.out] at ho23 | (simp only [Int.reduceToNat] at ho23; rw [← Ny255.out] at ho23)); have n0_ := Aside0.mk (Kd.S_elder' (by (with_reducible repeat (first | apply Kd.S_alloc | apply Kd.S_drewN | apply Kd.S_drew)); exact HO_8.out) (Kd.R_base ho23) hb); have n1_ := Aside0.mk (Kd.R_lower ho23 (below_size (by repeat (first | (with_reducible first | exact HB.out | apply below_alloc | apply pw_below_drewN | apply below_drew1 | refine below_set ?_ GE243.out | refine below_set ?_ GE244.out) | exact HB.out)))); have n2_ := Aside0.mk (blk_below (g := gb243) (o := .cells #[.slice A0_0 l0_0.length c0_0, .int .i64 a0_1, .int .u64 a0_2, .bool a0_3] 25 (0, 0)) (by (with_reducible repeat (first | refine blk_drewN ?_ _ | refine blk_drew ?_ | refine blk_alloc ?_ _)); exact BK243.out) hb); have n3_ := Aside0.mk (blk_below (g := gb244) (o := .cells #[.int .i64 a1_0, .int .i64 a1_1, .int .u32 a1_2] 66 (0, 0)) (by (with_reducible repeat (first | refine blk_drewN ?_ _ | refine blk_drew ?_ | refine blk_alloc ?_ _)); exact BK244.out) hb); have n4_ := Aside0.mk (below_step (by repeat (first | (with_reducible first | exact HB.out | apply below_alloc | apply pw_below_drewN | apply below_drew1 | refine below_set ?_ GE243.out | refine below_set ?_ GE244.out) | exact HB.out)) hb); clear HO_8; clear BK243; clear BK244; clear HB; have HO_8 := n0_; have HO257 := n1_; have BK243 := n2_; have BK244 := n3_; have HB := n4_; clear n0_ n1_ n2_ n3_ n4_; clear hb ho23; obtain ⟨Ao24, co24, eo24⟩ := Kd.R_slice HO257.out; subst eo24) | ((with_reducible refine gate_callee (f := 38) rfl ?_); refine goesL_ (some 55) rfl rfl Try.func38 (by kernel_rfl) rfl #[.slice Ao24 y255.length co24] rfl (by (try simp only [List.map_toArray, List.map_cons, List.map_nil]); first | done | rfl | (simp only [List.length_drop, List.length_take]; rfl)) ?_; (with_reducible refine (volumes_Read.calls _ _ y255 t258 t259 t260 t261 t262 t263 t264 t265 t268 _ ?side1 ?side2 A21.out).mono ?_); (case side1 => repeat (first | exact (Kd.R_reads' HO257.out).2.2 | (with_reducible refine Kd.C_alloc ?_ _) | (with_reducible refine Kd.C_drewN ?_ _) | (with_reducible refine Kd.C_drew ?_))); (case side2 => exact (Kd.R_reads' HO257.out).2.1); rintro e w25 ⟨v266, rfl, ho0, hb⟩; refine ⟨_, rfl, ?_⟩; have n0_ := Aside0.mk (Kd.S_elder' (by (with_reducible repeat (first | apply Kd.S_alloc | apply Kd.S_drewN | apply Kd.S_drew)); exact HO_8.out) (Kd.R_base ho0) hb); have n1_ := Aside0.mk (Kd.R_elder' (by (with_reducible repeat (first | apply Kd.R_alloc | apply Kd.R_drewN | apply Kd.R_drew)); exact HO257.out) (Kd.R_base ho0) hb); have n2_ := Aside0.mk (Kd.R_lower (Kd.R_new' ho0 (Kd.R_lt (by (with_reducible repeat (first | apply Kd.R_alloc | apply Kd.R_drewN | apply Kd.R_drew)); exact HO257.out))) (below_size (by repeat (first | (with_reducible first | exact HB.out | apply below_alloc | apply pw_below_drewN | apply below_drew1 | refine below_set ?_ GE243.out | refine below_set ?_ GE244.out) | exact HB.out)))); have n3_ := Aside0.mk (blk_below (g := gb243) (o := .cells #[.slice A0_0 l0_0.length c0_0, .int .i64 a0_1, .int .u64 a0_2, .bool a0_3] 25 (0, 0)) (by (with_reducible repeat (first | refine blk_drewN ?_ _ | refine blk_drew ?_ | refine blk_alloc ?_ _)); exact BK243.out) hb); have n4_ := Aside0.mk (blk_below (g := gb244) (o := .cells #[.int .i64 a1_0, .int .i64 a1_1, .int .u32 a1_2] 66 (0, 0)) (by (with_reducible repeat (first | refine blk_drewN ?_ _ | refine blk_drew ?_ | refine blk_alloc ?_ _)); exact BK244.out) hb); have n5_ := Aside0.mk (below_step (by repeat (first | (with_reducible first | exact HB.out | apply below_alloc | apply pw_below_drewN | apply below_drew1 | refine below_set ?_ GE243.out | refine below_set ?_ GE244.out) | exact HB.out)) hb); clear HO_8; clear HO257; clear BK243; clear BK244; clear HB; have HO_8 := n0_; have HO257 := n1_; have HO267 := n2_; have BK243 := n3_; have BK244 := n4_; have HB := n5_; clear n0_ n1_ n2_ n3_ n4_ n5_; (try clear hb); (try clear hb2); (try clear hk); (try clear hi); (try clear ho0)) | ((with_reducible refine gate_dst (N := 10) rfl ?_); (try (refine gate_guard (by rfl) ?_; dsimp only)); refine box_event ?hg (N := 10) ?hd (cs := #[.int .u64 0, .int .i64 0, .int .i64 0, .bool false, .int .i64 0, .int .i64 0, .int .i64 0]) (t := 68) ?hr ?_; (case hd => rfl); (case hg => rfl); (case hr => first | (go_simp; done) | (go_simp; rfl)); intro gb269 hg w26 hbox hb; have n0_ := Aside0.mk (Kd.S_below (by (with_reducible repeat (first | apply Kd.S_alloc | apply Kd.S_drewN | apply Kd.S_drew)); exact HO_8.out) hb); have n1_ := Aside0.mk (Kd.R_below (by (with_reducible repeat (first | apply Kd.R_alloc | apply Kd.R_drewN | apply Kd.R_drew)); exact HO257.out) hb); have n2_ := Aside0.mk (Kd.R_below (by (with_reducible repeat (first | apply Kd.R_alloc | apply Kd.R_drewN | apply Kd.R_drew)); exact HO267.out) hb); have n3_ := Aside0.mk (blk_below (g := gb243) (o := .cells #[.slice A0_0 l0_0.length c0_0, .int .i64 a0_1, .int .u64 a0_2, .bool a0_3] 25 (0, 0)) (by (with_reducible repeat (first | refine blk_drewN ?_ _ | refine blk_drew ?_ | refine blk_alloc ?_ _)); exact BK243.out) hb); have n4_ := Aside0.mk (blk_below (g := gb244) (o := .cells #[.int .i64 a1_0, .int .i64 a1_1, .int .u32 a1_2] 66 (0, 0)) (by (with_reducible repeat (first | refine blk_drewN ?_ _ | refine blk_drew ?_ | refine blk_alloc ?_ _)); exact BK244.out) hb); have n5_ := Aside0.mk (below_step (by repeat (first | (with_reducible first | exact HB.out | apply below_alloc | apply pw_below_drewN | apply below_drew1 | refine below_set ?_ GE243.out | refine below_set ?_ GE244.out) | exact HB.out)) hb); have n6_ := Aside0.mk (hbox); have n7_ := Aside0.mk ((by rw [hg]; exact (below_size (by repeat (first | (with_reducible first | exact HB.out | apply below_alloc | apply pw_below_drewN | apply below_drew1 | refine below_set ?_ GE243.out | refine below_set ?_ GE244.out) | exact HB.out))) : w.heap.size ≤ gb269)); have n8_ := Aside0.mk ((by rw [hg]; exact (below_size (by repeat (first | (with_reducible first | exact HB.out | apply below_alloc | apply pw_below_drewN | apply below_drew1 | refine below_set ?_ GE243.out | refine below_set ?_ GE244.out) | exact HB.out))) : w.heap.size ≤ gb269)); have n9_ := Aside0.mk ((by rw [hg]; exact Nat.ne_of_lt (blk_lt (g := gb243) (o := .cells #[.slice A0_0 l0_0.length c0_0, .int .i64 a0_1, .int .u64 a0_2, .bool a0_3] 25 (0, 0)) (by (with_reducible repeat (first | refine blk_drewN ?_ _ | refine blk_drew ?_ | refine blk_alloc ?_ _)); exact BK243.out)) : gb243 ≠ gb269)); have n10_ := Aside0.mk ((by rw [hg]; exact Nat.ne_of_gt (blk_lt (g := gb243) (o := .cells #[.slice A0_0 l0_0.length c0_0, .int .i64 a0_1, .int .u64 a0_2, .bool a0_3] 25 (0, 0)) (by (with_reducible repeat (first | refine blk_drewN ?_ _ | refine blk_drew ?_ | refine blk_alloc ?_ _)); exact BK243.out)) : gb269 ≠ gb243)); have n11_ := Aside0.mk ((by rw [hg]; exact Nat.ne_of_lt (blk_lt (g := gb244) (o := .cells #[.int .i64 a1_0, .int .i64 a1_1, .int .u32 a1_2] 66 (0, 0)) (by (with_reducible repeat (first | refine blk_drewN ?_ _ | refine blk_drew ?_ | refine blk_alloc ?_ _)); exact BK244.out)) : gb244 ≠ gb269)); have n12_ := Aside0.mk ((by rw [hg]; exact Nat.ne_of_gt (blk_lt (g := gb244) (o := .cells #[.int .i64 a1_0, .int .i64 a1_1, .int .u32 a1_2] 66 (0, 0)) (by (with_reducible repeat (first | refine blk_drewN ?_ _ | refine blk_drew ?_ | refine blk_alloc ?_ _)); exact BK244.out)) : gb269 ≠ gb244)); clear HO_8; clear HO257; clear HO267; clear BK243; clear BK244; clear HB; have HO_8 := n0_; have HO257 := n1_; have HO267 := n2_; have BK243 := n3_; have BK244 := n4_; have HB := n5_; have BK269 := n6_; have GW269 := n7_; have GE269 := n8_; have NB243_269 := n9_; have NB269_243 := n10_; have NB244_269 := n11_; have NB269_244 := n12_; clear n0_ n1_ n2_ n3_ n4_ n5_ n6_ n7_ n8_ n9_ n10_ n11_ n12_; clear hb hbox hg; have hnb27 := NB269_243.out; have hnc27 := NB243_269.out; have hnb28 := NB269_244.out; have hnc28 := NB244_269.out; have hcz29_0 : w26.cell? ⟨gb269, 0, none⟩ = some (.int .u64 0) := (blk_cell BK269.out 0).trans rfl; have hcz29_1 : w26.cell? ⟨gb269, 1, none⟩ = some (.int .i64 0) := (blk_cell BK269.out 1).trans rfl; have hcz29_2 : w26.cell? ⟨gb269, 2, none⟩ = some (.int .i64 0) := (blk_cell BK269.out 2).trans rfl; have hcz29_3 : w26.cell? ⟨gb269, 3, none⟩ = some (.bool false) := (blk_cell BK269.out 3).trans rfl; have hcz29_4 : w26.cell? ⟨gb269, 4, none⟩ = some (.int .i64 0) := (blk_cell BK269.out 4).trans rfl; have hcz29_5 : w26.cell? ⟨gb269, 5, none⟩ = some (.int .i64 0) := (blk_cell BK269.out 5).trans rfl; have hcz29_6 : w26.cell? ⟨gb269, 6, none⟩ = some (.int .i64 0) := (blk_cell BK269.out 6).trans rfl; have hfz29_0 := blk_frozen BK269.out 0; have hfz29_1 := blk_frozen BK269.out 1; have hfz29_2 := blk_frozen BK269.out 2; have hfz29_3 := blk_frozen BK269.out 3; have hfz29_4 := blk_frozen BK269.out 4; have hfz29_5 := blk_frozen BK269.out 5; have hfz29_6 := blk_frozen BK269.out 6))
            go_ret
            exact ⟨by first | rfl | (simp [errW_none, errW_some] <;> rfl) | (simp [*, errW_none, errW_some] <;> rfl), by repeat (first | (with_reducible first | exact HB.out | apply below_alloc | apply pw_below_drewN | apply below_drew1 | refine below_set ?_ GE243.out | refine below_set ?_ GE244.out | refine below_set ?_ GE269.out) | exact HB.out)⟩
          · rw [if_neg c20] at H
            exact absurd H (by simp)
        · replace c19 := Bool.eq_false_iff.mpr c19
          subst c19
          have H1 : (if (t251.length : Int) = 0 then (none) else (if (Int.tmod a1_0 (t251.length : Int)) < 0 then (satchellaw27_VolumesSpoilt.j1 kj4 a1_1 a1_2 t251 (wrap64 ((Int.tmod a1_0 (t251.length : Int)) + (t251.length : Int)))) else (satchellaw27_VolumesSpoilt.j1 kj4 a1_1 a1_2 t251 (Int.tmod a1_0 (t251.length : Int))))) = some r := by rw [if_neg (show ¬ (false = true) by decide)] at H; exact H
          clear H
          have H := H1
          clear H1
          by_cases c30 : (t251.length : Int) = 0
          · rw [if_pos c30] at H
            exact absurd H (by simp)
          · rw [if_neg c30] at H
            have c30b0 : ((t251.length : Int) == 0) = false := beq_eq_false_iff_ne.mpr c30
            have c30b1 : ((t251.length : Int) != 0) = true := bne_iff_ne.mpr c30
            have c30b2 : ¬ (t251 = []) := fun h_ => c30 (by rw [h_]; rfl)
            have HC31 := Aside0.mk H
            clear H
            obtain ⟨Ao32, co32, eo32⟩ := Kd.S_slice HO_8.out
            subst eo32
            go_upto_if 66 with (fail)
            go_cut [13] (fun v13 wc => ∃ (kq : Nat) (x13_30 : Int), v13 = .int .i64 x13_30 ∧ Aside0 (satchellaw27_VolumesSpoilt.j1 kq a1_1 a1_2 t251 x13_30 = some r) ∧ Aside0 (kq ≤ kj4) ∧ Aside0 (Kd.S (Kd.slice 5 (Kd.int .u8)) 22 wc w.heap.size (fun _ => True) (.slice Ao32 t251.length co32) t251) ∧ Aside0 (wc.heap[gb243]? = some (.cells #[(.slice A0_0 l0_0.length c0_0), .int .i64 a0_1, .int .u64 a0_2, .bool a0_3] 25 (0, 0))) ∧ Aside0 (wc.heap[gb244]? = some (.cells #[.int .i64 a1_0, .int .i64 a1_1, .int .u32 a1_2] 66 (0, 0))) ∧ Aside0 (Below w.heap.size w wc))
            case first =>
              have H := HC31.out
              clear HC31
              by_cases c33 : (Int.tmod a1_0 (t251.length : Int)) < 0
              · rw [if_pos c33] at H
                have c33b0 : decide ((Int.tmod a1_0 (t251.length : Int)) < 0) = true := decide_eq_true c33
                clear c33
                (first | rw [c33b0] | (simp only [i64_w, i32_w]; rw [c33b0]) | skip)
                have H' := Aside0.mk H
                clear H
                go_wp2
                go_meet
                case rel => exact ⟨_, (wrap64 ((Int.tmod a1_0 (t251.length : Int)) + (t251.length : Int))), (by first | rfl | (simp; done) | (simp [*]; done)), H', ⟨by have := HJ4.out; first | omega | exact Nat.le_refl _⟩, ⟨by (with_reducible repeat (first | apply Kd.S_alloc | apply Kd.S_drewN | apply Kd.S_drew)); exact HO_8.out⟩, ⟨by (with_reducible repeat (first | refine blk_drewN ?_ _ | refine blk_drew ?_ | refine blk_alloc ?_ _)); exact BK243.out⟩, ⟨by (with_reducible repeat (first | refine blk_drewN ?_ _ | refine blk_drew ?_ | refine blk_alloc ?_ _)); exact BK244.out⟩, ⟨by repeat (first | (with_reducible first | exact HB.out | apply below_alloc | apply pw_below_drewN | apply below_drew1 | refine below_set ?_ GE243.out | refine below_set ?_ GE244.out) | exact HB.out)⟩⟩
              · rw [if_neg c33] at H
                have c33b0 : decide ((Int.tmod a1_0 (t251.length : Int)) < 0) = false := decide_eq_false c33
                clear c33
                (first | rw [c33b0] | (simp only [i64_w, i32_w]; rw [c33b0]) | skip)
                have H' := Aside0.mk H
                clear H
                go_wp2
                go_meet
                case rel => exact ⟨_, (Int.tmod a1_0 (t251.length : Int)), (by first | rfl | (simp; done) | (simp [*]; done)), H', ⟨by have := HJ4.out; first | omega | exact Nat.le_refl _⟩, ⟨by (with_reducible repeat (first | apply Kd.S_alloc | apply Kd.S_drewN | apply Kd.S_drew)); exact HO_8.out⟩, ⟨by (with_reducible repeat (first | refine blk_drewN ?_ _ | refine blk_drew ?_ | refine blk_alloc ?_ _)); exact BK243.out⟩, ⟨by (with_reducible repeat (first | refine blk_drewN ?_ _ | refine blk_drew ?_ | refine blk_alloc ?_ _)); exact BK244.out⟩, ⟨by repeat (first | (with_reducible first | exact HB.out | apply below_alloc | apply pw_below_drewN | apply below_drew1 | refine below_set ?_ GE243.out | refine below_set ?_ GE244.out) | exact HB.out)⟩⟩
            case rest =>
              clear HC31
              try clear c1
              try clear c2
              try clear p2
              try clear c3
              try clear p6
              try clear c10
              try clear c15
              try clear c15b0
              try clear c15b1
              try clear c16
              try clear c16b0
              try clear c16b1
              try clear c16b2
              try clear c19
              try clear c20
              try clear c20b0
              try clear c20b1
              try clear c27
              try clear c28
              try clear c30
              try clear c30b0
              try clear c30b1
              try clear c30b2
              try clear c33
              try clear c33b0
              try clear hcz29_0
              try clear hcz29_1
              try clear hcz29_2
              try clear hcz29_3
              try clear hcz29_4
              try clear hcz29_5
              try clear hcz29_6
              try clear hfz29_0
              try clear hfz29_1
              try clear hfz29_2
              try clear hfz29_3
              try clear hfz29_4
              try clear hfz29_5
              try clear hfz29_6
              try clear p2
              obtain ⟨kq, x13_30, rfl, HA, HJ30, HO_8, BK243, BK244, HB⟩ := hcut
              cases kq with
              | zero => exact absurd HA.out (by simp [satchellaw27_VolumesSpoilt.j1])
              | succ kj30 =>
                have H := HA.out
                clear HA
                simp only [satchellaw27_VolumesSpoilt.j1] at H
                obtain ⟨y270, hy270⟩ : ∃ y_ : List Int, y_ = (([] : List Int)) := ⟨_, rfl⟩
                replace H : (if 0 ≤ x13_30 then (if x13_30 < (t251.length : Int) then (if y270.length + (rd_L1 t251 x13_30).length < 140737488355328 then ((some (y270 ++ (rd_L1 t251 x13_30) : List Int)).bind fun y274 => (if (wrap64 (8 * (y274.length : Int))) = 0 then (none) else (if (Int.tmod a1_1 (wrap64 (8 * (y274.length : Int)))) < 0 then (satchellaw27_VolumesSpoilt.j2 kj30 a1_2 y274 (wrap64 (8 * (y274.length : Int))) (wrap64 ((Int.tmod a1_1 (wrap64 (8 * (y274.length : Int)))) + (wrap64 (8 * (y274.length : Int)))))) else (satchellaw27_VolumesSpoilt.j2 kj30 a1_2 y274 (wrap64 (8 * (y274.length : Int))) (Int.tmod a1_1 (wrap64 (8 * (y274.length : Int)))))))) else (none)) else (none)) else (none)) = some r := by first | (rw [hy270]; with_reducible exact H) | (have H2_ := (Option.bind_some _ _).symm.trans H; rw [hy270]; with_reducible exact H2_) | (have H2_ := (Option.bind_some _ _).symm.trans H; with_reducible exact H2_) | with_reducible exact H | (rw [hy270]; exact H) | exact H
                have Ny270 := Aside0.mk hy270
                clear hy270
                by_cases c34 : 0 ≤ x13_30
                · rw [if_pos c34] at H
                  have c34b0 : decide (0 ≤ x13_30) = true := decide_eq_true c34
                  clear c34
                  by_cases c35 : x13_30 < (t251.length : Int)
                  · rw [if_pos c35] at H
                    have c35b0 : decide (x13_30 < (t251.length : Int)) = true := decide_eq_true c35
                    clear c35
                    by_cases c36 : y270.length + (rd_L1 t251 x13_30).length < 140737488355328
                    · rw [if_pos c36] at H
                      have LMc36 := Aside0.mk c36
                      clear c36
                      obtain ⟨y274, hy274⟩ : ∃ y_ : List Int, y_ = (y270 ++ (rd_L1 t251 x13_30)) := ⟨_, rfl⟩
                      replace H : (if (wrap64 (8 * (y274.length : Int))) = 0 then (none) else (if (Int.tmod a1_1 (wrap64 (8 * (y274.length : Int)))) < 0 then (satchellaw27_VolumesSpoilt.j2 kj30 a1_2 y274 (wrap64 (8 * (y274.length : Int))) (wrap64 ((Int.tmod a1_1 (wrap64 (8 * (y274.length : Int)))) + (wrap64 (8 * (y274.length : Int)))))) else (satchellaw27_VolumesSpoilt.j2 kj30 a1_2 y274 (wrap64 (8 * (y274.length : Int))) (Int.tmod a1_1 (wrap64 (8 * (y274.length : Int))))))) = some r := by first | (rw [hy274]; with_reducible exact H) | (have H2_ := (Option.bind_some _ _).symm.trans H; rw [hy274]; with_reducible exact H2_) | (have H2_ := (Option.bind_some _ _).symm.trans H; with_reducible exact H2_) | with_reducible exact H | (rw [hy274]; exact H) | exact H
                      have Ny274 := Aside0.mk hy274
                      clear hy274
                      by_cases c37 : (wrap64 (8 * (y274.length : Int))) = 0
                      · rw [if_pos c37] at H
                        exact absurd H (by simp)
                      · rw [if_neg c37] at H
                        have c37b0 : ((wrap64 (8 * (y274.length : Int))) == 0) = false := beq_eq_false_iff_ne.mpr c37
                        have c37b1 : ((wrap64 (8 * (y274.length : Int))) != 0) = true := bne_iff_ne.mpr c37
                        have HC38 := Aside0.mk H
                        clear H
                        go_upto_if 84 with (first | ((with_reducible refine gate_dst (N := 71) rfl ?_); (try (refine gate_guard (by rfl) ?_; dsimp only)); refine Kd.R_lit (Kd.int .u8) _ 5 ?hg (N := 71) ?hd (xs := ([] : List Int)) (inner := []) (ok := fun _ => True) (okp := fun _ => True) ?hr ?hp (fun _ hk => hk) trivial (Below.refl _ _) (Nat.le_refl _) (by simp) ?_; (case hd => rfl); (case hg => rfl); (case hr => first | (go_simp; done) | (go_simp; rfl)); (case hp => exact (Reps.none _ _)); intro v271 w39 ho40 hb hg_ hnew_; clear hg_ hnew_; (first | rw [← Ny270.out] at ho40 | (simp only [Int.reduceToNat] at ho40; rw [← Ny270.out] at ho40)); have n0_ := Aside0.mk (Kd.S_elder' (by (with_reducible repeat (first | apply Kd.S_alloc | apply Kd.S_drewN | apply Kd.S_drew)); exact HO_8.out) (Kd.R_base ho40) hb); have n1_ := Aside0.mk (Kd.R_lower ho40 (below_size (by repeat (first | (with_reducible first | exact HB.out | apply below_alloc | apply pw_below_drewN | apply below_drew1 | refine below_set ?_ GE243.out | refine below_set ?_ GE244.out) | exact HB.out)))); have n2_ := Aside0.mk (blk_below (g := gb243) (o := .cells #[.slice A0_0 l0_0.length c0_0, .int .i64 a0_1, .int .u64 a0_2, .bool a0_3] 25 (0, 0)) (by (with_reducible repeat (first | refine blk_drewN ?_ _ | refine blk_drew ?_ | refine blk_alloc ?_ _)); exact BK243.out) hb); have n3_ := Aside0.mk (blk_below (g := gb244) (o := .cells #[.int .i64 a1_0, .int .i64 a1_1, .int .u32 a1_2] 66 (0, 0)) (by (with_reducible repeat (first | refine blk_drewN ?_ _ | refine blk_drew ?_ | refine blk_alloc ?_ _)); exact BK244.out) hb); have n4_ := Aside0.mk (below_step (by repeat (first | (with_reducible first | exact HB.out | apply below_alloc | apply pw_below_drewN | apply below_drew1 | refine below_set ?_ GE243.out | refine below_set ?_ GE244.out) | exact HB.out)) hb); clear HO_8; clear BK243; clear BK244; clear HB; have HO_8 := n0_; have HO272 := n1_; have BK243 := n2_; have BK244 := n3_; have HB := n4_; clear n0_ n1_ n2_ n3_ n4_; clear hb ho40; have p273 : 0 ≤ (x13_30 : Int) := of_decide_eq_true (by first | (with_reducible assumption) | assumption); have q273 : x13_30 < (t251.length : Int) := of_decide_eq_true (by first | (with_reducible assumption) | assumption); obtain ⟨ad273, A273_0, c273_0, e273, hx273_0, hl273_0, hi273_0⟩ := at_L1 (Kd.S_reads' HO_8.out).2.2 x13_30 p273 q273; cases e273; obtain ⟨ce273, hce273, hMe273, hcc273⟩ := Kd.S_get HO_8.out [] x13_30 p273 (by first | exact q273 | exact of_decide_eq_true (by first | (with_reducible assumption) | assumption) | (have e_ := (Kd.S_reads' HO_8.out).1; omega)); obtain ⟨ve273_0, rfl, ge273_0⟩ := hMe273; have hv273_0 := hcc273 0 _ rfl; rw [Nat.add_zero, show ((Kd.slice 5 (Kd.int .u8))).sz = 1 from rfl, Nat.mul_one] at hv273_0; replace hv273_0 := Option.some.inj (hv273_0.symm.trans hx273_0); rw [hv273_0] at ge273_0; have HL273_0 := Aside0.mk (show Kd.R (Kd.int .u8) 5 _ _ _ _ (rd_L1 t251 x13_30) from ge273_0); clear hv273_0 ge273_0; clear hcc273 hce273; have HR273_0 := Aside0.mk hi273_0; have HC273_0 := Aside0.mk hl273_0; clear hi273_0 hl273_0; replace p273 := eq_true p273; replace q273 := eq_true q273) | ((with_reducible refine gate_builtin (b := .append) (xs := #[.tmp 71, .tmp 75]) rfl ?_); (try (refine gate_guard (by rfl) ?_; dsimp only)); at_builtin; refine Kd.R_append_rows (Kd.int .u8) (w0 := w) w.heap.size rfl (.tmp 71) (.tmp 75) 22 5 (.int .u8 0) 1 rfl Try.underlying22 info5 rfl (by decide) (by omega) v271 y270 (rd_L1 t251 x13_30) _ _ _ (fun _ => True) (fun _ => False) rfl rfl ?aO ?aR (fun _ _ h => h) (fun _ h => h.elim) ?aF ?aB ?aS ?aL ?_; (case aR => repeat (first | exact (by repeat (first | (with_reducible exact HR273_0.out) | (with_reducible refine Kd.C_alloc ?_ _) | (with_reducible refine Kd.C_drewN ?_ _) | (with_reducible refine Kd.C_drew ?_) | exact HR273_0.out)) | (with_reducible refine Kd.C_alloc ?_ _) | (with_reducible refine Kd.C_drewN ?_ _) | (with_reducible refine Kd.C_drew ?_))); (case aB => exact (by repeat (first | (with_reducible first | exact HB.out | apply below_alloc | apply pw_below_drewN | apply below_drew1 | refine below_set ?_ GE243.out | refine below_set ?_ GE244.out) | exact HB.out))); (case aF => exact (fun _ _ => trivial)); (case aO => exact (by (with_reducible repeat (first | apply Kd.R_alloc | apply Kd.R_drewN | apply Kd.R_drew)); exact HO272.out)); (case aS => exact (below_size (by repeat (first | (with_reducible first | exact HB.out | apply below_alloc | apply pw_below_drewN | apply below_drew1 | refine below_set ?_ GE243.out | refine below_set ?_ GE244.out) | exact HB.out)))); (case aL => have := LMc36.out; omega); intro v275 w41 ho hb hg hat; rw [← Ny274.out] at ho; have n0_ := Aside0.mk (Kd.S_after (ok := (fun _ => True)) (by (with_reducible repeat (first | apply Kd.S_alloc | apply Kd.S_drewN | apply Kd.S_drew)); exact HO_8.out) hg hat); have n1_ := Aside0.mk (blk_grown (g := gb243) (o := .cells #[.slice A0_0 l0_0.length c0_0, .int .i64 a0_1, .int .u64 a0_2, .bool a0_3] 25 (0, 0)) (by (with_reducible repeat (first | refine blk_drewN ?_ _ | refine blk_drew ?_ | refine blk_alloc ?_ _)); exact BK243.out) hg (Kd.R_ne HO272.out BK243.out (by decide))); have n2_ := Aside0.mk (blk_grown (g := gb244) (o := .cells #[.int .i64 a1_0, .int .i64 a1_1, .int .u32 a1_2] 66 (0, 0)) (by (with_reducible repeat (first | refine blk_drewN ?_ _ | refine blk_drew ?_ | refine blk_alloc ?_ _)); exact BK244.out) hg (Kd.R_ne HO272.out BK244.out (by decide))); have n3_ := Aside0.mk (Kd.R_after (ok := (fun k_ => some k_ ≠ (.slice (some ad273) t251.length co32 : Value).ownBlock)) (by (with_reducible repeat (first | apply Kd.R_alloc | apply Kd.R_drewN | apply Kd.R_drew)); exact Kd.R_mono HL273_0.out (fun _ hk => ⟨hk.2, hk.1.2⟩)) hg hat); have n4_ := Aside0.mk (hb); have n5_ := Aside0.mk (ho); clear HO_8; clear BK243; clear BK244; clear HL273_0; clear HB; clear HO272; have HO_8 := n0_; have BK243 := n1_; have BK244 := n2_; have HL273_0 := n3_; have HB := n4_; have HO276 := n5_; clear n0_ n1_ n2_ n3_ n4_ n5_; clear ho hb hg hat; obtain ⟨Ao42, co42, eo42⟩ := Kd.R_slice HO276.out; subst eo42))
                        (try simp only [Act.put, List.setIfInBounds_toArray, List.set_cons_zero, List.set_cons_succ])
                        go_cut [16] (fun v16 wc => ∃ (kq : Nat) (x16_37 : Int), v16 = .int .i64 x16_37 ∧ Aside0 (satchellaw27_VolumesSpoilt.j2 kq a1_2 y274 (wrap64 (8 * (y274.length : Int))) x16_37 = some r) ∧ Aside0 (kq ≤ kj30) ∧ Aside0 (Kd.R (Kd.int .u8) 5 wc w.heap.size (fun _ => True) (.slice Ao42 y274.length co42) y274) ∧ Aside0 (wc.heap[gb243]? = some (.cells #[(.slice A0_0 l0_0.length c0_0), .int .i64 a0_1, .int .u64 a0_2, .bool a0_3] 25 (0, 0))) ∧ Aside0 (wc.heap[gb244]? = some (.cells #[.int .i64 a1_0, .int .i64 a1_1, .int .u32 a1_2] 66 (0, 0))) ∧ Aside0 (Below w.heap.size w wc))
                        case first =>
                          have H := HC38.out
                          clear HC38
                          by_cases c43 : (Int.tmod a1_1 (wrap64 (8 * (y274.length : Int)))) < 0
                          · rw [if_pos c43] at H
                            have c43b0 : decide ((Int.tmod a1_1 (wrap64 (8 * (y274.length : Int)))) < 0) = true := decide_eq_true c43
                            clear c43
                            (first | rw [c43b0] | (simp only [i64_w, i32_w]; rw [c43b0]) | skip)
                            have H' := Aside0.mk H
                            clear H
                            go_wp2
                            go_meet
                            case rel => exact ⟨_, (wrap64 ((Int.tmod a1_1 (wrap64 (8 * (y274.length : Int)))) + (wrap64 (8 * (y274.length : Int))))), (by first | rfl | (simp; done) | (simp [*]; done)), H', ⟨by have := HJ4.out; have := HJ30.out; first | omega | exact Nat.le_refl _⟩, ⟨by (with_reducible repeat (first | apply Kd.R_alloc | apply Kd.R_drewN | apply Kd.R_drew)); exact HO276.out⟩, ⟨by (with_reducible repeat (first | refine blk_drewN ?_ _ | refine blk_drew ?_ | refine blk_alloc ?_ _)); exact BK243.out⟩, ⟨by (with_reducible repeat (first | refine blk_drewN ?_ _ | refine blk_drew ?_ | refine blk_alloc ?_ _)); exact BK244.out⟩, ⟨by repeat (first | (with_reducible first | exact HB.out | apply below_alloc | apply pw_below_drewN | apply below_drew1 | refine below_set ?_ GE243.out | refine below_set ?_ GE244.out) | exact HB.out)⟩⟩
                          · rw [if_neg c43] at H
                            have c43b0 : decide ((Int.tmod a1_1 (wrap64 (8 * (y274.length : Int)))) < 0) = false := decide_eq_false c43
                            clear c43
                            (first | rw [c43b0] | (simp only [i64_w, i32_w]; rw [c43b0]) | skip)
                            have H' := Aside0.mk H
                            clear H
                            go_wp2
                            go_meet
                            case rel => exact ⟨_, (Int.tmod a1_1 (wrap64 (8 * (y274.length : Int)))), (by first | rfl | (simp; done) | (simp [*]; done)), H', ⟨by have := HJ4.out; have := HJ30.out; first | omega | exact Nat.le_refl _⟩, ⟨by (with_reducible repeat (first | apply Kd.R_alloc | apply Kd.R_drewN | apply Kd.R_drew)); exact HO276.out⟩, ⟨by (with_reducible repeat (first | refine blk_drewN ?_ _ | refine blk_drew ?_ | refine blk_alloc ?_ _)); exact BK243.out⟩, ⟨by (with_reducible repeat (first | refine blk_drewN ?_ _ | refine blk_drew ?_ | refine blk_alloc ?_ _)); exact BK244.out⟩, ⟨by repeat (first | (with_reducible first | exact HB.out | apply below_alloc | apply pw_below_drewN | apply below_drew1 | refine below_set ?_ GE243.out | refine below_set ?_ GE244.out) | exact HB.out)⟩⟩
                        case rest =>
                          clear HC38
                          try clear c1
                          try clear c2
                          try clear p2
                          try clear q2
                          try clear hx2
                          try clear c3
                          try clear c4
                          try clear p6
                          try clear c10
                          try clear c15
                          try clear c15b0
                          try clear c15b1
                          try clear c16
                          try clear c16b0
                          try clear c16b1
                          try clear c16b2
                          try clear c19
                          try clear c20
                          try clear c20b0
                          try clear c20b1
                          try clear c27
                          try clear p27
                          try clear q27
                          try clear hx27
                          try clear c28
                          try clear c30
                          try clear c30b0
                          try clear c30b1
                          try clear c30b2
                          try clear c33
                          try clear c33b0
                          try clear c34
                          try clear c34b0
                          try clear c35
                          try clear c35b0
                          try clear c36
                          try clear c37
                          try clear c37b0
                          try clear c37b1
                          try clear c38
                          try clear c43
                          try clear c43b0
                          try clear hcz29_0
                          try clear hcz29_1
                          try clear hcz29_2
                          try clear hcz29_3
                          try clear hcz29_4
                          try clear hcz29_5
                          try clear hcz29_6
                          try clear hfz29_0
                          try clear hfz29_1
                          try clear hfz29_2
                          try clear hfz29_3
                          try clear hfz29_4
                          try clear hfz29_5
                          try clear hfz29_6
                          try clear hx273_0
                          try clear p2
                          try clear p273
                          try clear p6
                          try clear q273
                          obtain ⟨kq, x16_37, rfl, HA, HJ37, HO_14, BK243, BK244, HB⟩ := hcut
                          cases kq with
                          | zero => exact absurd HA.out (by simp [satchellaw27_VolumesSpoilt.j2])
                          | succ kj37 =>
                            have H := HA.out
                            clear HA
                            simp only [satchellaw27_VolumesSpoilt.j2] at H
                            have H' := Aside0.mk H
                            clear H
                            go_wp2
                            go_loopg [17, 18] kj37 (fun kq v17 v18 w' => ∃ (x14_4 : List Int) (x17_4 : Bool) (x18_4 : Int), v17 = .bool x17_4 ∧ v18 = .int .i64 x18_4 ∧ Aside0 (satchellaw27_VolumesSpoilt.l0 kq a1_2 x14_4 (wrap64 (8 * (y274.length : Int))) x16_37 x17_4 x18_4 = some r) ∧ Aside0 (kq ≤ kj37) ∧ Aside0 (Kd.R (Kd.int .u8) 5 w' w.heap.size (fun _ => True) (.slice Ao42 y274.length co42) x14_4) ∧ Aside0 (w'.heap[gb243]? = some (.cells #[(.slice A0_0 l0_0.length c0_0), .int .i64 a0_1, .int .u64 a0_2, .bool a0_3] 25 (0, 0))) ∧ Aside0 (w'.heap[gb244]? = some (.cells #[.int .i64 a1_0, .int .i64 a1_1, .int .u32 a1_2] 66 (0, 0))) ∧ Aside0 (Below w.heap.size w w'))
                            case atStart => exact ⟨(y274), (false), (0), (by first | rfl | (simp; done) | (simp [*]; done)), (by first | rfl | (simp; done) | (simp [*]; done)), H', ⟨Nat.le_refl _⟩, ⟨by (with_reducible repeat (first | apply Kd.R_alloc | apply Kd.R_drewN | apply Kd.R_drew)); exact HO_14.out⟩, ⟨by (with_reducible repeat (first | refine blk_drewN ?_ _ | refine blk_drew ?_ | refine blk_alloc ?_ _)); exact BK243.out⟩, ⟨by (with_reducible repeat (first | refine blk_drewN ?_ _ | refine blk_drew ?_ | refine blk_alloc ?_ _)); exact BK244.out⟩, ⟨by repeat (first | (with_reducible first | exact HB.out | apply below_alloc | apply pw_below_drewN | apply below_drew1 | refine below_set ?_ GE243.out | refine below_set ?_ GE244.out) | exact HB.out)⟩⟩
                            case round =>
                              clear H'
                              try clear c1
                              try clear c2
                              try clear p2
                              try clear q2
                              try clear hx2
                              try clear c3
                              try clear c4
                              try clear p6
                              try clear c10
                              try clear c15
                              try clear c15b0
                              try clear c15b1
                              try clear c16
                              try clear c16b0
                              try clear c16b1
                              try clear c16b2
                              try clear c19
                              try clear c20
                              try clear c20b0
                              try clear c20b1
                              try clear c27
                              try clear p27
                              try clear q27
                              try clear hx27
                              try clear c28
                              try clear c30
                              try clear c30b0
                              try clear c30b1
                              try clear c30b2
                              try clear c33
                              try clear c33b0
                              try clear c34
                              try clear c34b0
                              try clear c35
                              try clear c35b0
                              try clear c36
                              try clear c37
                              try clear c37b0
                              try clear c37b1
                              try clear c38
                              try clear c43
                              try clear c43b0
                              try clear hcz29_0
                              try clear hcz29_1
                              try clear hcz29_2
                              try clear hcz29_3
                              try clear hcz29_4
                              try clear hcz29_5
                              try clear hcz29_6
                              try clear hfz29_0
                              try clear hfz29_1
                              try clear hfz29_2
                              try clear hfz29_3
                              try clear hfz29_4
                              try clear hfz29_5
                              try clear hfz29_6
                              try clear hx273_0
                              try clear p2
                              try clear p27
                              try clear p273
                              try clear p6
                              try clear q2
                              try clear q27
                              try clear q273
                              obtain ⟨x14_4, x17_4, x18_4, rfl, rfl, HA, HK4, HO_14, BK243, BK244, HB⟩ := hrel
                              have hl14_4 := (Kd.R_reads' HO_14.out).1
                              rw [hl14_4] at HO_14
                              (try simp only [hl14_4])
                              (try simp only [hl14_4] at BK243)
                              (try simp only [hl14_4] at BK244)
                              cases gk with
                              | zero => exact absurd HA.out (by simp [satchellaw27_VolumesSpoilt.l0])
                              | succ k4 =>
                                have H := HA.out
                                clear HA
                                simp only [satchellaw27_VolumesSpoilt.l0] at H
                                have HC44 := Aside0.mk H
                                clear H
                                go_upto_region 16 with (fail)
                                go_cut [96] (fun v96 wc => ∃ (kq : Nat) (x96_43 : Bool), v96 = .bool x96_43 ∧ Aside0 (satchellaw27_VolumesSpoilt.j4 kq a1_2 x14_4 (wrap64 (8 * (y274.length : Int))) x16_37 x17_4 x18_4 x96_43 = some r) ∧ Aside0 (kq ≤ k4) ∧ Aside0 (Kd.R (Kd.int .u8) 5 wc w.heap.size (fun _ => True) (.slice Ao42 x14_4.length co42) x14_4) ∧ Aside0 (wc.heap[gb243]? = some (.cells #[(.slice A0_0 l0_0.length c0_0), .int .i64 a0_1, .int .u64 a0_2, .bool a0_3] 25 (0, 0))) ∧ Aside0 (wc.heap[gb244]? = some (.cells #[.int .i64 a1_0, .int .i64 a1_1, .int .u32 a1_2] 66 (0, 0))) ∧ Aside0 (Below w.heap.size w wc))
                                case first =>
                                  have H := HC44.out
                                  clear HC44
                                  by_cases c45 : x18_4 < 32
                                  · rw [if_pos c45] at H
                                    have c45b0 : decide (x18_4 < 32) = true := decide_eq_true c45
                                    clear c45
                                    (first | rw [c45b0] | (simp only [i64_w, i32_w]; rw [c45b0]) | skip)
                                    have H' := Aside0.mk H
                                    clear H
                                    go_wp2
                                    go_meet
                                    case rel => exact ⟨_, (decide ((wrap64 (x16_37 + x18_4)) < (wrap64 (8 * (y274.length : Int))))), (by first | rfl | (simp; done) | (simp [*]; done)), H', ⟨by have := HJ4.out; have := HJ30.out; have := HJ37.out; have := HK4.out; first | omega | exact Nat.le_refl _⟩, ⟨by (try simp only [hl14_4]); (with_reducible repeat (first | apply Kd.R_alloc | apply Kd.R_drewN | apply Kd.R_drew)); exact HO_14.out⟩, ⟨by (try simp only [hl14_4]); (with_reducible repeat (first | refine blk_drewN ?_ _ | refine blk_drew ?_ | refine blk_alloc ?_ _)); exact BK243.out⟩, ⟨by (try simp only [hl14_4]); (with_reducible repeat (first | refine blk_drewN ?_ _ | refine blk_drew ?_ | refine blk_alloc ?_ _)); exact BK244.out⟩, ⟨by repeat (first | (with_reducible first | exact HB.out | apply below_alloc | apply pw_below_drewN | apply below_drew1 | refine below_set ?_ GE243.out | refine below_set ?_ GE244.out) | exact HB.out)⟩⟩
                                  · rw [if_neg c45] at H
                                    have c45b0 : decide (x18_4 < 32) = false := decide_eq_false c45
                                    clear c45
                                    (first | rw [c45b0] | (simp only [i64_w, i32_w]; rw [c45b0]) | skip)
                                    have H' := Aside0.mk H
                                    clear H
                                    go_wp2
                                    go_meet
                                    case rel => exact ⟨_, (false), (by first | rfl | (simp; done) | (simp [*]; done)), H', ⟨by have := HJ4.out; have := HJ30.out; have := HJ37.out; have := HK4.out; first | omega | exact Nat.le_refl _⟩, ⟨by (try simp only [hl14_4]); (with_reducible repeat (first | apply Kd.R_alloc | apply Kd.R_drewN | apply Kd.R_drew)); exact HO_14.out⟩, ⟨by (try simp only [hl14_4]); (with_reducible repeat (first | refine blk_drewN ?_ _ | refine blk_drew ?_ | refine blk_alloc ?_ _)); exact BK243.out⟩, ⟨by (try simp only [hl14_4]); (with_reducible repeat (first | refine blk_drewN ?_ _ | refine blk_drew ?_ | refine blk_alloc ?_ _)); exact BK244.out⟩, ⟨by repeat (first | (with_reducible first | exact HB.out | apply below_alloc | apply pw_below_drewN | apply below_drew1 | refine below_set ?_ GE243.out | refine below_set ?_ GE244.out) | exact HB.out)⟩⟩
                                case rest =>
                                  clear HC44
                                  try clear c1
                                  try clear c2
                                  try clear p2
                                  try clear q2
                                  try clear hx2
                                  try clear c3
                                  try clear c4
                                  try clear p6
                                  try clear c10
                                  try clear c15
                                  try clear c15b0
                                  try clear c15b1
                                  try clear c16
                                  try clear c16b0
                                  try clear c16b1
                                  try clear c16b2
                                  try clear c19
                                  try clear c20
                                  try clear c20b0
                                  try clear c20b1
                                  try clear c27
                                  try clear p27
                                  try clear q27
                                  try clear hx27
                                  try clear c28
                                  try clear c30
                                  try clear c30b0
                                  try clear c30b1
                                  try clear c30b2
                                  try clear c33
                                  try clear c33b0
                                  try clear c34
                                  try clear c34b0
                                  try clear c35
                                  try clear c35b0
                                  try clear c36
                                  try clear c37
                                  try clear c37b0
                                  try clear c37b1
                                  try clear c38
                                  try clear c43
                                  try clear c43b0
                                  try clear c45
                                  try clear c45b0
                                  try clear hcz29_0
                                  try clear hcz29_1
                                  try clear hcz29_2
                                  try clear hcz29_3
                                  try clear hcz29_4
                                  try clear hcz29_5
                                  try clear hcz29_6
                                  try clear hfz29_0
                                  try clear hfz29_1
                                  try clear hfz29_2
                                  try clear hfz29_3
                                  try clear hfz29_4
                                  try clear hfz29_5
                                  try clear hfz29_6
                                  try clear hx273_0
                                  try clear p2
                                  try clear p27
                                  try clear p273
                                  try clear p6
                                  try clear q2
                                  try clear q27
                                  try clear q273
                                  obtain ⟨kq, x96_43, rfl, HA, HJ43, HO_14, BK243, BK244, HB⟩ := hcut
                                  cases kq with
                                  | zero => exact absurd HA.out (by simp [satchellaw27_VolumesSpoilt.j4])
                                  | succ kj43 =>
                                    have H := HA.out
                                    clear HA
                                    simp only [satchellaw27_VolumesSpoilt.j4] at H
                                    by_cases c46 : x96_43 = true
                                    · subst c46
                                      have H1 : (if 0 ≤ (IntKind.u64.wrap (x18_4)) then (if (Int.tmod (shr .u32 a1_2 (IntKind.u64.wrap (x18_4))) 2) = 1 then (if 0 ≤ (wrap64 (Int.tdiv (wrap64 (x16_37 + x18_4)) 8)) then (if (wrap64 (Int.tdiv (wrap64 (x16_37 + x18_4)) 8)) < (x14_4.length : Int) then (if 0 ≤ (IntKind.u64.wrap (Int.tmod (wrap64 (x16_37 + x18_4)) 8)) then (satchellaw27_VolumesSpoilt.l0 kj43 a1_2 (x14_4.set ((wrap64 (Int.tdiv (wrap64 (x16_37 + x18_4)) 8)) : Int).toNat (Go.bits .xor .u8 (rd x14_4 (wrap64 (Int.tdiv (wrap64 (x16_37 + x18_4)) 8))) (shl .u8 1 (IntKind.u64.wrap (Int.tmod (wrap64 (x16_37 + x18_4)) 8))))) (wrap64 (8 * (y274.length : Int))) x16_37 true (wrap64 (x18_4 + 1))) else (none)) else (none)) else (none)) else (satchellaw27_VolumesSpoilt.l0 kj43 a1_2 x14_4 (wrap64 (8 * (y274.length : Int))) x16_37 x17_4 (wrap64 (x18_4 + 1)))) else (none)) = some r := by rw [if_pos rfl] at H; exact H
                                      clear H
                                      have H := H1
                                      clear H1
                                      obtain ⟨ji47, hji47⟩ : ∃ j_ : Int, (IntKind.u64.wrap (x18_4)) = j_ := ⟨_, rfl⟩
                                      replace H : (if 0 ≤ (ji47) then (if (Int.tmod (shr .u32 a1_2 (ji47)) 2) = 1 then (if 0 ≤ (wrap64 (Int.tdiv (wrap64 (x16_37 + x18_4)) 8)) then (if (wrap64 (Int.tdiv (wrap64 (x16_37 + x18_4)) 8)) < (x14_4.length : Int) then (if 0 ≤ (IntKind.u64.wrap (Int.tmod (wrap64 (x16_37 + x18_4)) 8)) then (satchellaw27_VolumesSpoilt.l0 kj43 a1_2 (x14_4.set ((wrap64 (Int.tdiv (wrap64 (x16_37 + x18_4)) 8)) : Int).toNat (Go.bits .xor .u8 (rd x14_4 (wrap64 (Int.tdiv (wrap64 (x16_37 + x18_4)) 8))) (shl .u8 1 (IntKind.u64.wrap (Int.tmod (wrap64 (x16_37 + x18_4)) 8))))) (wrap64 (8 * (y274.length : Int))) x16_37 true (wrap64 (x18_4 + 1))) else (none)) else (none)) else (none)) else (satchellaw27_VolumesSpoilt.l0 kj43 a1_2 x14_4 (wrap64 (8 * (y274.length : Int))) x16_37 x17_4 (wrap64 (x18_4 + 1)))) else (none)) = some r := by first | (rw [hji47] at H; exact H) | (simp only [hji47] at H ⊢; exact H)
                                      by_cases c48 : 0 ≤ (ji47)
                                      · rw [if_pos c48] at H
                                        have c48b0 := eq_true c48
                                        have c48b1 : decide (0 ≤ (ji47)) = true := decide_eq_true c48
                                        clear c48
                                        obtain ⟨ji49, hji49⟩ : ∃ j_ : Int, (shr .u32 a1_2 (ji47)) = j_ := ⟨_, rfl⟩
                                        replace H : (if (Int.tmod (ji49) 2) = 1 then (if 0 ≤ (wrap64 (Int.tdiv (wrap64 (x16_37 + x18_4)) 8)) then (if (wrap64 (Int.tdiv (wrap64 (x16_37 + x18_4)) 8)) < (x14_4.length : Int) then (if 0 ≤ (IntKind.u64.wrap (Int.tmod (wrap64 (x16_37 + x18_4)) 8)) then (satchellaw27_VolumesSpoilt.l0 kj43 a1_2 (x14_4.set ((wrap64 (Int.tdiv (wrap64 (x16_37 + x18_4)) 8)) : Int).toNat (Go.bits .xor .u8 (rd x14_4 (wrap64 (Int.tdiv (wrap64 (x16_37 + x18_4)) 8))) (shl .u8 1 (IntKind.u64.wrap (Int.tmod (wrap64 (x16_37 + x18_4)) 8))))) (wrap64 (8 * (y274.length : Int))) x16_37 true (wrap64 (x18_4 + 1))) else (none)) else (none)) else (none)) else (satchellaw27_VolumesSpoilt.l0 kj43 a1_2 x14_4 (wrap64 (8 * (y274.length : Int))) x16_37 x17_4 (wrap64 (x18_4 + 1)))) = some r := by first | (rw [hji49] at H; exact H) | (simp only [hji49] at H ⊢; exact H)
                                        have hji49_ : (a1_2 / 2 ^ min (ji47).toNat 32) = ji49 := hji49
                                        have hji49z : (ji47) ≤ 32 → (a1_2 / 2 ^ (ji47).toNat) = ji49 := shr_small hji49
                                        by_cases c50 : (Int.tmod (ji49) 2) = 1
                                        · rw [if_pos c50] at H
                                          have c50b0 : ((Int.tmod (ji49) 2) == 1) = true := beq_iff_eq.mpr c50
                                          have c50b1 : ((Int.tmod (ji49) 2) != 1) = false := bne_eq_false_iff_eq.mpr c50
                                          clear c50
                                          obtain ⟨ji51, hji51⟩ : ∃ j_ : Int, (wrap64 (Int.tdiv (wrap64 (x16_37 + x18_4)) 8)) = j_ := ⟨_, rfl⟩
                                          replace H : (if 0 ≤ (ji51) then (if (ji51) < (x14_4.length : Int) then (if 0 ≤ (IntKind.u64.wrap (Int.tmod (wrap64 (x16_37 + x18_4)) 8)) then (satchellaw27_VolumesSpoilt.l0 kj43 a1_2 (x14_4.set ((ji51) : Int).toNat (Go.bits .xor .u8 (rd x14_4 (ji51)) (shl .u8 1 (IntKind.u64.wrap (Int.tmod (wrap64 (x16_37 + x18_4)) 8))))) (wrap64 (8 * (y274.length : Int))) x16_37 true (wrap64 (x18_4 + 1))) else (none)) else (none)) else (none)) = some r := by first | (rw [hji51] at H; exact H) | (simp only [hji51] at H ⊢; exact H)
                                          have hji51w : (IntKind.i64.wrap (Int.tdiv (wrap64 (x16_37 + x18_4)) 8)) = ji51 := (i64_w _).trans hji51
                                          by_cases c52 : 0 ≤ (ji51)
                                          · rw [if_pos c52] at H
                                            have c52b0 : decide (0 ≤ (ji51)) = true := decide_eq_true c52
                                            clear c52
                                            by_cases c53 : (ji51) < (x14_4.length : Int)
                                            · rw [if_pos c53] at H
                                              have c53b0 : decide ((ji51) < (x14_4.length : Int)) = true := decide_eq_true c53
                                              clear c53
                                              obtain ⟨ji54, hji54⟩ : ∃ j_ : Int, (IntKind.u64.wrap (Int.tmod (wrap64 (x16_37 + x18_4)) 8)) = j_ := ⟨_, rfl⟩
                                              replace H : (if 0 ≤ (ji54) then (satchellaw27_VolumesSpoilt.l0 kj43 a1_2 (x14_4.set ((ji51) : Int).toNat (Go.bits .xor .u8 (rd x14_4 (ji51)) (shl .u8 1 (ji54)))) (wrap64 (8 * (y274.length : Int))) x16_37 true (wrap64 (x18_4 + 1))) else (none)) = some r := by first | (rw [hji54] at H; exact H) | (simp only [hji54] at H ⊢; exact H)
                                              by_cases c55 : 0 ≤ (ji54)
                                              · rw [if_pos c55] at H
                                                have c55b0 := eq_true c55
                                                have c55b1 : decide (0 ≤ (ji54)) = true := decide_eq_true c55
                                                clear c55
                                                obtain ⟨ji56, hji56⟩ : ∃ j_ : Int, (shl .u8 1 (ji54)) = j_ := ⟨_, rfl⟩
                                                replace H : (satchellaw27_VolumesSpoilt.l0 kj43 a1_2 (x14_4.set ((ji51) : Int).toNat (Go.bits .xor .u8 (rd x14_4 (ji51)) (ji56))) (wrap64 (8 * (y274.length : Int))) x16_37 true (wrap64 (x18_4 + 1))) = some r := by first | (rw [hji56] at H; exact H) | (simp only [hji56] at H ⊢; exact H)
                                                have hji56_ : (IntKind.u8.wrap (1 * 2 ^ min (ji54).toNat 8)) = ji56 := hji56
                                                have hji56z : (ji54) ≤ 8 → (IntKind.u8.wrap (1 * 2 ^ (ji54).toNat)) = ji56 := shl_small hji56
                                                have hji56u : (IntKind.u8.wrap (2 ^ min (ji54).toNat 8)) = ji56 := by have h_ := hji56_; rw [Int.one_mul] at h_; exact h_
                                                have hji56v : (ji54) ≤ 8 → (IntKind.u8.wrap (2 ^ (ji54).toNat)) = ji56 := fun hle_ => by have h_ := hji56z hle_; rw [Int.one_mul] at h_; exact h_
                                                obtain ⟨y278, hy278⟩ : ∃ y_ : List Int, y_ = (x14_4.set ((ji51) : Int).toNat (Go.bits .xor .u8 (rd x14_4 (ji51)) (ji56))) := ⟨_, rfl⟩
                                                replace H : (satchellaw27_VolumesSpoilt.l0 kj43 a1_2 y278 (wrap64 (8 * (y274.length : Int))) x16_37 true (wrap64 (x18_4 + 1))) = some r := by first | (rw [hy278]; with_reducible exact H) | (have H2_ := (Option.bind_some _ _).symm.trans H; rw [hy278]; with_reducible exact H2_) | (have H2_ := (Option.bind_some _ _).symm.trans H; with_reducible exact H2_) | with_reducible exact H | (rw [hy278]; exact H) | exact H
                                                have Ny278 := Aside0.mk hy278
                                                clear hy278
                                                have H' := Aside0.mk H
                                                clear H
                                                have p277 : 0 ≤ ((ji51) : Int) := of_decide_eq_true (by first | (with_reducible assumption) | assumption)
                                                have q277 : (ji51) < (x14_4.length : Int) := of_decide_eq_true (by first | (with_reducible assumption) | assumption)
                                                obtain ⟨ad277, e277, hx277_0⟩ := Kd.at_int (Kd.R_reads' HO_14.out).2.2 (ji51) p277 q277
                                                cases e277
                                                replace p277 := eq_true p277
                                                replace q277 := eq_true q277
                                                have p57 : 0 ≤ ((ji51) : Int) := of_decide_eq_true (by first | (with_reducible assumption) | assumption)
                                                have q57 : ((ji51) : Int) < ((x14_4.length : Int) : Int) := of_decide_eq_true (by first | (with_reducible assumption) | assumption)
                                                obtain ⟨go57, co57, eo57, gb57, gl57, cl57, HG57⟩ := Kd.R_form HO_14.out (by omega)
                                                (first | cases eo57 | (injection eo57 with ea_ en_ ec_; (first | subst ea_ | (injection ea_ with ea_; subst ea_)); subst ec_; clear en_))
                                                have GB57 := Aside0.mk gb57
                                                have GG57 := Aside0.mk HG57
                                                clear gb57 gl57 HG57
                                                (first | simp only [add_plain] at hx277_0 | skip)
                                                obtain ⟨hx57_0, hf57_0⟩ := Kd.R_celln 0 HO_14.out ((ji51) : Int) p57 q57
                                                replace p57 := eq_true p57
                                                replace q57 := eq_true q57
                                                have HP58 := Kd.R_putg HO_14.out ((ji51) : Int) (Go.bits .xor .u8 (rd x14_4 (ji51)) (ji56))
                                                go_wp2_with (first | ((with_reducible refine gate_store (t := 5) (p := 124) rfl ?_); refine store_event (t := 5) (p := 124) (v := ?vo_w59) (w1 := (wc.setCell ⟨go57, ((ji51) : Int).toNat, none⟩ (.int .u8 (Go.bits .xor .u8 (rd x14_4 (ji51)) (ji56))))) ?hg ?ho ?hn ?hr ?_; (case ho => rfl); (case hg => rfl); (case hn => rfl); (case hr => first | (go_simp; done) | (go_simp; rfl)); intro w59 hw; have hg : wc.grownBy w59 (some go57) := (by rw [hw]; exact HP58.2); have hp_ : Kd.R (Kd.int .u8) 5 w59 w.heap.size (fun _ => True) (.slice (some ⟨go57, 0, none⟩) x14_4.length co42) y278 := (by rw [hw, Ny278.out]; exact HP58.1); clear HP58; have n0_ := Aside0.mk (hp_); have n1_ := Aside0.mk (blk_grown (g := gb243) (o := .cells #[.slice A0_0 l0_0.length c0_0, .int .i64 a0_1, .int .u64 a0_2, .bool a0_3] 25 (0, 0)) (by (with_reducible repeat (first | refine blk_drewN ?_ _ | refine blk_drew ?_ | refine blk_alloc ?_ _)); exact BK243.out) hg (Kd.R_ne HO_14.out BK243.out (by decide))); have n2_ := Aside0.mk (blk_grown (g := gb244) (o := .cells #[.int .i64 a1_0, .int .i64 a1_1, .int .u32 a1_2] 66 (0, 0)) (by (with_reducible repeat (first | refine blk_drewN ?_ _ | refine blk_drew ?_ | refine blk_alloc ?_ _)); exact BK244.out) hg (Kd.R_ne HO_14.out BK244.out (by decide))); have n3_ := Aside0.mk ((by rw [hw]; exact below_set (HB.out) GB57.out : Below w.heap.size w w59)); clear HO_14; clear BK243; clear BK244; clear HB; have HO_14 := n0_; have BK243 := n1_; have BK244 := n2_; have HB := n3_; clear n0_ n1_ n2_ n3_; clear hg hw hp_))
                                                (try simp only [← hl14_4])
                                                go_roundg kj43
                                                case measure => have := HJ4.out; have := HJ30.out; have := HJ37.out; have := HK4.out; have := HJ43.out; omega
                                                case rel => exact ⟨(y278), (true), (wrap64 (x18_4 + 1)), (by first | rfl | (simp; done) | (simp [*]; done)), (by first | rfl | (simp; done) | (simp [*]; done)), H', ⟨by have := HJ4.out; have := HJ30.out; have := HJ37.out; have := HK4.out; have := HJ43.out; omega⟩, ⟨by (try simp only [hl14_4]); (with_reducible repeat (first | apply Kd.R_alloc | apply Kd.R_drewN | apply Kd.R_drew)); exact HO_14.out⟩, ⟨by (try simp only [hl14_4]); (with_reducible repeat (first | refine blk_drewN ?_ _ | refine blk_drew ?_ | refine blk_alloc ?_ _)); exact BK243.out⟩, ⟨by (try simp only [hl14_4]); (with_reducible repeat (first | refine blk_drewN ?_ _ | refine blk_drew ?_ | refine blk_alloc ?_ _)); exact BK244.out⟩, ⟨by repeat (first | (with_reducible first | exact HB.out | apply below_alloc | apply pw_below_drewN | apply below_drew1 | refine below_set ?_ GE243.out | refine below_set ?_ GE244.out) | exact HB.out)⟩⟩
                                              · rw [if_neg c55] at H
                                                exact absurd H (by simp)
                                            · rw [if_neg c53] at H
                                              exact absurd H (by simp)
                                          · rw [if_neg c52] at H
                                            exact absurd H (by simp)
                                        · rw [if_neg c50] at H
                                          have c50b0 : ((Int.tmod (ji49) 2) == 1) = false := beq_eq_false_iff_ne.mpr c50
                                          have c50b1 : ((Int.tmod (ji49) 2) != 1) = true := bne_iff_ne.mpr c50
                                          have H' := Aside0.mk H
                                          clear H
                                          go_wp2
                                          (try simp only [← hl14_4])
                                          go_roundg kj43
                                          case measure => have := HJ4.out; have := HJ30.out; have := HJ37.out; have := HK4.out; have := HJ43.out; omega
                                          case rel => exact ⟨(x14_4), (x17_4), (wrap64 (x18_4 + 1)), (by first | rfl | (simp; done) | (simp [*]; done)), (by first | rfl | (simp; done) | (simp [*]; done)), H', ⟨by have := HJ4.out; have := HJ30.out; have := HJ37.out; have := HK4.out; have := HJ43.out; omega⟩, ⟨by (try simp only [hl14_4]); (with_reducible repeat (first | apply Kd.R_alloc | apply Kd.R_drewN | apply Kd.R_drew)); exact HO_14.out⟩, ⟨by (try simp only [hl14_4]); (with_reducible repeat (first | refine blk_drewN ?_ _ | refine blk_drew ?_ | refine blk_alloc ?_ _)); exact BK243.out⟩, ⟨by (try simp only [hl14_4]); (with_reducible repeat (first | refine blk_drewN ?_ _ | refine blk_drew ?_ | refine blk_alloc ?_ _)); exact BK244.out⟩, ⟨by repeat (first | (with_reducible first | exact HB.out | apply below_alloc | apply pw_below_drewN | apply below_drew1 | refine below_set ?_ GE243.out | refine below_set ?_ GE244.out) | exact HB.out)⟩⟩
                                      · rw [if_neg c48] at H
                                        exact absurd H (by simp)
                                    · replace c46 := Bool.eq_false_iff.mpr c46
                                      subst c46
                                      have H1 : ((volumes_Read.f x14_4).bind fun bt279 => (if bt279.2.2.2.2.2.2.2.2 = 270 then (some (true == x17_4)) else (some ((bt279.2.2.2.2.2.2.2.2 == 131) == x17_4)))) = some r := by rw [if_neg (show ¬ (false = true) by decide)] at H; exact H
                                      clear H
                                      have H := H1
                                      clear H1
                                      replace H := Option.bind_eq_some_iff.mp H
                                      obtain ⟨⟨t279, t280, t281, t282, t283, t284, t285, t286, t289⟩, A600, H⟩ := H
                                      replace H : (if t289 = 270 then (some (true == x17_4)) else (some ((t289 == 131) == x17_4))) = some r := H
                                      have A60 := Aside0.mk A600
                                      clear A600
                                      by_cases c61 : t289 = 270
                                      · rw [if_pos c61] at H
                                        have c61b0 : (t289 == 270) = true := beq_iff_eq.mpr c61
                                        have c61b1 : (t289 != 270) = false := bne_eq_false_iff_eq.mpr c61
                                        clear c61
                                        obtain rfl := Option.some.inj H
                                        go_wp2_with (first | ((with_reducible refine gate_callee (f := 38) rfl ?_); refine goesL_ (some 127) rfl rfl Try.func38 (by kernel_rfl) rfl #[.slice Ao42 x14_4.length co42] rfl (by (try simp only [List.map_toArray, List.map_cons, List.map_nil]); first | done | rfl | (simp only [List.length_drop, List.length_take]; rfl)) ?_; (with_reducible refine (volumes_Read.calls _ _ x14_4 t279 t280 t281 t282 t283 t284 t285 t286 t289 _ ?side1 ?side2 A60.out).mono ?_); (case side1 => repeat (first | exact (Kd.R_reads' HO_14.out).2.2 | (with_reducible refine Kd.C_alloc ?_ _) | (with_reducible refine Kd.C_drewN ?_ _) | (with_reducible refine Kd.C_drew ?_))); (case side2 => exact (Kd.R_reads' HO_14.out).2.1); rintro e w62 ⟨v287, rfl, ho0, hb⟩; refine ⟨_, rfl, ?_⟩; have n0_ := Aside0.mk (Kd.R_elder' (by (with_reducible repeat (first | apply Kd.R_alloc | apply Kd.R_drewN | apply Kd.R_drew)); exact HO_14.out) (Kd.R_base ho0) hb); have n1_ := Aside0.mk (Kd.R_lower (Kd.R_new' ho0 (Kd.R_lt (by (with_reducible repeat (first | apply Kd.R_alloc | apply Kd.R_drewN | apply Kd.R_drew)); exact HO_14.out))) (below_size (by repeat (first | (with_reducible first | exact HB.out | apply below_alloc | apply pw_below_drewN | apply below_drew1 | refine below_set ?_ GE243.out | refine below_set ?_ GE244.out) | exact HB.out)))); have n2_ := Aside0.mk (blk_below (g := gb243) (o := .cells #[.slice A0_0 l0_0.length c0_0, .int .i64 a0_1, .int .u64 a0_2, .bool a0_3] 25 (0, 0)) (by (with_reducible repeat (first | refine blk_drewN ?_ _ | refine blk_drew ?_ | refine blk_alloc ?_ _)); exact BK243.out) hb); have n3_ := Aside0.mk (blk_below (g := gb244) (o := .cells #[.int .i64 a1_0, .int .i64 a1_1, .int .u32 a1_2] 66 (0, 0)) (by (with_reducible repeat (first | refine blk_drewN ?_ _ | refine blk_drew ?_ | refine blk_alloc ?_ _)); exact BK244.out) hb); have n4_ := Aside0.mk (below_step (by repeat (first | (with_reducible first | exact HB.out | apply below_alloc | apply pw_below_drewN | apply below_drew1 | refine below_set ?_ GE243.out | refine below_set ?_ GE244.out) | exact HB.out)) hb); clear HO_14; clear BK243; clear BK244; clear HB; have HO_14 := n0_; have HO288 := n1_; have BK243 := n2_; have BK244 := n3_; have HB := n4_; clear n0_ n1_ n2_ n3_ n4_; (try clear hb); (try clear hb2); (try clear hk); (try clear hi); (try clear ho0)) | ((with_reducible refine gate_dst (N := 19) rfl ?_); (try (refine gate_guard (by rfl) ?_; dsimp only)); refine box_event ?hg (N := 19) ?hd (cs := #[.int .u64 0, .int .i64 0, .int .i64 0, .bool false, .int .i64 0, .int .i64 0, .int .i64 0]) (t := 68) ?hr ?_; (case hd => rfl); (case hg => rfl); (case hr => first | (go_simp; done) | (go_simp; rfl)); intro gb290 hg w63 hbox hb; have n0_ := Aside0.mk (Kd.R_below (by (with_reducible repeat (first | apply Kd.R_alloc | apply Kd.R_drewN | apply Kd.R_drew)); exact HO_14.out) hb); have n1_ := Aside0.mk (Kd.R_below (by (with_reducible repeat (first | apply Kd.R_alloc | apply Kd.R_drewN | apply Kd.R_drew)); exact HO288.out) hb); have n2_ := Aside0.mk (blk_below (g := gb243) (o := .cells #[.slice A0_0 l0_0.length c0_0, .int .i64 a0_1, .int .u64 a0_2, .bool a0_3] 25 (0, 0)) (by (with_reducible repeat (first | refine blk_drewN ?_ _ | refine blk_drew ?_ | refine blk_alloc ?_ _)); exact BK243.out) hb); have n3_ := Aside0.mk (blk_below (g := gb244) (o := .cells #[.int .i64 a1_0, .int .i64 a1_1, .int .u32 a1_2] 66 (0, 0)) (by (with_reducible repeat (first | refine blk_drewN ?_ _ | refine blk_drew ?_ | refine blk_alloc ?_ _)); exact BK244.out) hb); have n4_ := Aside0.mk (below_step (by repeat (first | (with_reducible first | exact HB.out | apply below_alloc | apply pw_below_drewN | apply below_drew1 | refine below_set ?_ GE243.out | refine below_set ?_ GE244.out) | exact HB.out)) hb); have n5_ := Aside0.mk (hbox); have n6_ := Aside0.mk ((by rw [hg]; exact (below_size (by repeat (first | (with_reducible first | exact HB.out | apply below_alloc | apply pw_below_drewN | apply below_drew1 | refine below_set ?_ GE243.out | refine below_set ?_ GE244.out) | exact HB.out))) : w.heap.size ≤ gb290)); have n7_ := Aside0.mk ((by rw [hg]; exact (below_size (by repeat (first | (with_reducible first | exact HB.out | apply below_alloc | apply pw_below_drewN | apply below_drew1 | refine below_set ?_ GE243.out | refine below_set ?_ GE244.out) | exact HB.out))) : w.heap.size ≤ gb290)); have n8_ := Aside0.mk ((by rw [hg]; exact Nat.ne_of_lt (blk_lt (g := gb243) (o := .cells #[.slice A0_0 l0_0.length c0_0, .int .i64 a0_1, .int .u64 a0_2, .bool a0_3] 25 (0, 0)) (by (with_reducible repeat (first | refine blk_drewN ?_ _ | refine blk_drew ?_ | refine blk_alloc ?_ _)); exact BK243.out)) : gb243 ≠ gb290)); have n9_ := Aside0.mk ((by rw [hg]; exact Nat.ne_of_gt (blk_lt (g := gb243) (o := .cells #[.slice A0_0 l0_0.length c0_0, .int .i64 a0_1, .int .u64 a0_2, .bool a0_3] 25 (0, 0)) (by (with_reducible repeat (first | refine blk_drewN ?_ _ | refine blk_drew ?_ | refine blk_alloc ?_ _)); exact BK243.out)) : gb290 ≠ gb243)); have n10_ := Aside0.mk ((by rw [hg]; exact Nat.ne_of_lt (blk_lt (g := gb244) (o := .cells #[.int .i64 a1_0, .int .i64 a1_1, .int .u32 a1_2] 66 (0, 0)) (by (with_reducible repeat (first | refine blk_drewN ?_ _ | refine blk_drew ?_ | refine blk_alloc ?_ _)); exact BK244.out)) : gb244 ≠ gb290)); have n11_ := Aside0.mk ((by rw [hg]; exact Nat.ne_of_gt (blk_lt (g := gb244) (o := .cells #[.int .i64 a1_0, .int .i64 a1_1, .int .u32 a1_2] 66 (0, 0)) (by (with_reducible repeat (first | refine blk_drewN ?_ _ | refine blk_drew ?_ | refine blk_alloc ?_ _)); exact BK244.out)) : gb290 ≠ gb244)); clear HO_14; clear HO288; clear BK243; clear BK244; clear HB; have HO_14 := n0_; have HO288 := n1_; have BK243 := n2_; have BK244 := n3_; have HB := n4_; have BK290 := n5_; have GW290 := n6_; have GE290 := n7_; have NB243_290 := n8_; have NB290_243 := n9_; have NB244_290 := n10_; have NB290_244 := n11_; clear n0_ n1_ n2_ n3_ n4_ n5_ n6_ n7_ n8_ n9_ n10_ n11_; clear hb hbox hg; have hnb64 := NB290_243.out; have hnc64 := NB243_290.out; have hnb65 := NB290_244.out; have hnc65 := NB244_290.out; have hcz66_0 : w63.cell? ⟨gb290, 0, none⟩ = some (.int .u64 0) := (blk_cell BK290.out 0).trans rfl; have hcz66_1 : w63.cell? ⟨gb290, 1, none⟩ = some (.int .i64 0) := (blk_cell BK290.out 1).trans rfl; have hcz66_2 : w63.cell? ⟨gb290, 2, none⟩ = some (.int .i64 0) := (blk_cell BK290.out 2).trans rfl; have hcz66_3 : w63.cell? ⟨gb290, 3, none⟩ = some (.bool false) := (blk_cell BK290.out 3).trans rfl; have hcz66_4 : w63.cell? ⟨gb290, 4, none⟩ = some (.int .i64 0) := (blk_cell BK290.out 4).trans rfl; have hcz66_5 : w63.cell? ⟨gb290, 5, none⟩ = some (.int .i64 0) := (blk_cell BK290.out 5).trans rfl; have hcz66_6 : w63.cell? ⟨gb290, 6, none⟩ = some (.int .i64 0) := (blk_cell BK290.out 6).trans rfl; have hfz66_0 := blk_frozen BK290.out 0; have hfz66_1 := blk_frozen BK290.out 1; have hfz66_2 := blk_frozen BK290.out 2; have hfz66_3 := blk_frozen BK290.out 3; have hfz66_4 := blk_frozen BK290.out 4; have hfz66_5 := blk_frozen BK290.out 5; have hfz66_6 := blk_frozen BK290.out 6))
                                        go_ret
                                        exact ⟨by first | rfl | (simp [errW_none, errW_some] <;> rfl) | (simp [*, errW_none, errW_some] <;> rfl), by repeat (first | (with_reducible first | exact HB.out | apply below_alloc | apply pw_below_drewN | apply below_drew1 | refine below_set ?_ GE243.out | refine below_set ?_ GE244.out | refine below_set ?_ GE290.out) | exact HB.out)⟩
                                      · rw [if_neg c61] at H
                                        have c61b0 : (t289 == 270) = false := beq_eq_false_iff_ne.mpr c61
                                        have c61b1 : (t289 != 270) = true := bne_iff_ne.mpr c61
                                        obtain rfl := Option.some.inj H
                                        go_wp2_with (first | ((with_reducible refine gate_callee (f := 38) rfl ?_); refine goesL_ (some 127) rfl rfl Try.func38 (by kernel_rfl) rfl #[.slice Ao42 x14_4.length co42] rfl (by (try simp only [List.map_toArray, List.map_cons, List.map_nil]); first | done | rfl | (simp only [List.length_drop, List.length_take]; rfl)) ?_; (with_reducible refine (volumes_Read.calls _ _ x14_4 t279 t280 t281 t282 t283 t284 t285 t286 t289 _ ?side1 ?side2 A60.out).mono ?_); (case side1 => repeat (first | exact (Kd.R_reads' HO_14.out).2.2 | (with_reducible refine Kd.C_alloc ?_ _) | (with_reducible refine Kd.C_drewN ?_ _) | (with_reducible refine Kd.C_drew ?_))); (case side2 => exact (Kd.R_reads' HO_14.out).2.1); rintro e w67 ⟨v287, rfl, ho0, hb⟩; refine ⟨_, rfl, ?_⟩; have n0_ := Aside0.mk (Kd.R_elder' (by (with_reducible repeat (first | apply Kd.R_alloc | apply Kd.R_drewN | apply Kd.R_drew)); exact HO_14.out) (Kd.R_base ho0) hb); have n1_ := Aside0.mk (Kd.R_lower (Kd.R_new' ho0 (Kd.R_lt (by (with_reducible repeat (first | apply Kd.R_alloc | apply Kd.R_drewN | apply Kd.R_drew)); exact HO_14.out))) (below_size (by repeat (first | (with_reducible first | exact HB.out | apply below_alloc | apply pw_below_drewN | apply below_drew1 | refine below_set ?_ GE243.out | refine below_set ?_ GE244.out) | exact HB.out)))); have n2_ := Aside0.mk (blk_below (g := gb243) (o := .cells #[.slice A0_0 l0_0.length c0_0, .int .i64 a0_1, .int .u64 a0_2, .bool a0_3] 25 (0, 0)) (by (with_reducible repeat (first | refine blk_drewN ?_ _ | refine blk_drew ?_ | refine blk_alloc ?_ _)); exact BK243.out) hb); have n3_ := Aside0.mk (blk_below (g := gb244) (o := .cells #[.int .i64 a1_0, .int .i64 a1_1, .int .u32 a1_2] 66 (0, 0)) (by (with_reducible repeat (first | refine blk_drewN ?_ _ | refine blk_drew ?_ | refine blk_alloc ?_ _)); exact BK244.out) hb); have n4_ := Aside0.mk (below_step (by repeat (first | (with_reducible first | exact HB.out | apply below_alloc | apply pw_below_drewN | apply below_drew1 | refine below_set ?_ GE243.out | refine below_set ?_ GE244.out) | exact HB.out)) hb); clear HO_14; clear BK243; clear BK244; clear HB; have HO_14 := n0_; have HO288 := n1_; have BK243 := n2_; have BK244 := n3_; have HB := n4_; clear n0_ n1_ n2_ n3_ n4_; (try clear hb); (try clear hb2); (try clear hk); (try clear hi); (try clear ho0)) | ((with_reducible refine gate_dst (N := 19) rfl ?_); (try (refine gate_guard (by rfl) ?_; dsimp only)); refine box_event ?hg (N := 19) ?hd (cs := #[.int .u64 0, .int .i64 0, .int .i64 0, .bool false, .int .i64 0, .int .i64 0, .int .i64 0]) (t := 68) ?hr ?_; (case hd => rfl); (case hg => rfl); (case hr => first | (go_simp; done) | (go_simp; rfl)); intro gb290 hg w68 hbox hb; have n0_ := Aside0.mk (Kd.R_below (by (with_reducible repeat (first | apply Kd.R_alloc | apply Kd.R_drewN | apply Kd.R_drew)); exact HO_14.out) hb); have n1_ := Aside0.mk (Kd.R_below (by (with_reducible repeat (first | apply Kd.R_alloc | apply Kd.R_drewN | apply Kd.R_drew)); exact HO288.out) hb); have n2_ := Aside0.mk (blk_below (g := gb243) (o := .cells #[.slice A0_0 l0_0.length c0_0, .int .i64 a0_1, .int .u64 a0_2, .bool a0_3] 25 (0, 0)) (by (with_reducible repeat (first | refine blk_drewN ?_ _ | refine blk_drew ?_ | refine blk_alloc ?_ _)); exact BK243.out) hb); have n3_ := Aside0.mk (blk_below (g := gb244) (o := .cells #[.int .i64 a1_0, .int .i64 a1_1, .int .u32 a1_2] 66 (0, 0)) (by (with_reducible repeat (first | refine blk_drewN ?_ _ | refine blk_drew ?_ | refine blk_alloc ?_ _)); exact BK244.out) hb); have n4_ := Aside0.mk (below_step (by repeat (first | (with_reducible first | exact HB.out | apply below_alloc | apply pw_below_drewN | apply below_drew1 | refine below_set ?_ GE243.out | refine below_set ?_ GE244.out) | exact HB.out)) hb); have n5_ := Aside0.mk (hbox); have n6_ := Aside0.mk ((by rw [hg]; exact (below_size (by repeat (first | (with_reducible first | exact HB.out | apply below_alloc | apply pw_below_drewN | apply below_drew1 | refine below_set ?_ GE243.out | refine below_set ?_ GE244.out) | exact HB.out))) : w.heap.size ≤ gb290)); have n7_ := Aside0.mk ((by rw [hg]; exact (below_size (by repeat (first | (with_reducible first | exact HB.out | apply below_alloc | apply pw_below_drewN | apply below_drew1 | refine below_set ?_ GE243.out | refine below_set ?_ GE244.out) | exact HB.out))) : w.heap.size ≤ gb290)); have n8_ := Aside0.mk ((by rw [hg]; exact Nat.ne_of_lt (blk_lt (g := gb243) (o := .cells #[.slice A0_0 l0_0.length c0_0, .int .i64 a0_1, .int .u64 a0_2, .bool a0_3] 25 (0, 0)) (by (with_reducible repeat (first | refine blk_drewN ?_ _ | refine blk_drew ?_ | refine blk_alloc ?_ _)); exact BK243.out)) : gb243 ≠ gb290)); have n9_ := Aside0.mk ((by rw [hg]; exact Nat.ne_of_gt (blk_lt (g := gb243) (o := .cells #[.slice A0_0 l0_0.length c0_0, .int .i64 a0_1, .int .u64 a0_2, .bool a0_3] 25 (0, 0)) (by (with_reducible repeat (first | refine blk_drewN ?_ _ | refine blk_drew ?_ | refine blk_alloc ?_ _)); exact BK243.out)) : gb290 ≠ gb243)); have n10_ := Aside0.mk ((by rw [hg]; exact Nat.ne_of_lt (blk_lt (g := gb244) (o := .cells #[.int .i64 a1_0, .int .i64 a1_1, .int .u32 a1_2] 66 (0, 0)) (by (with_reducible repeat (first | refine blk_drewN ?_ _ | refine blk_drew ?_ | refine blk_alloc ?_ _)); exact BK244.out)) : gb244 ≠ gb290)); have n11_ := Aside0.mk ((by rw [hg]; exact Nat.ne_of_gt (blk_lt (g := gb244) (o := .cells #[.int .i64 a1_0, .int .i64 a1_1, .int .u32 a1_2] 66 (0, 0)) (by (with_reducible repeat (first | refine blk_drewN ?_ _ | refine blk_drew ?_ | refine blk_alloc ?_ _)); exact BK244.out)) : gb290 ≠ gb244)); clear HO_14; clear HO288; clear BK243; clear BK244; clear HB; have HO_14 := n0_; have HO288 := n1_; have BK243 := n2_; have BK244 := n3_; have HB := n4_; have BK290 := n5_; have GW290 := n6_; have GE290 := n7_; have NB243_290 := n8_; have NB290_243 := n9_; have NB244_290 := n10_; have NB290_244 := n11_; clear n0_ n1_ n2_ n3_ n4_ n5_ n6_ n7_ n8_ n9_ n10_ n11_; clear hb hbox hg; have hnb69 := NB290_243.out; have hnc69 := NB243_290.out; have hnb70 := NB290_244.out; have hnc70 := NB244_290.out; have hcz71_0 : w68.cell? ⟨gb290, 0, none⟩ = some (.int .u64 0) := (blk_cell BK290.out 0).trans rfl; have hcz71_1 : w68.cell? ⟨gb290, 1, none⟩ = some (.int .i64 0) := (blk_cell BK290.out 1).trans rfl; have hcz71_2 : w68.cell? ⟨gb290, 2, none⟩ = some (.int .i64 0) := (blk_cell BK290.out 2).trans rfl; have hcz71_3 : w68.cell? ⟨gb290, 3, none⟩ = some (.bool false) := (blk_cell BK290.out 3).trans rfl; have hcz71_4 : w68.cell? ⟨gb290, 4, none⟩ = some (.int .i64 0) := (blk_cell BK290.out 4).trans rfl; have hcz71_5 : w68.cell? ⟨gb290, 5, none⟩ = some (.int .i64 0) := (blk_cell BK290.out 5).trans rfl; have hcz71_6 : w68.cell? ⟨gb290, 6, none⟩ = some (.int .i64 0) := (blk_cell BK290.out 6).trans rfl; have hfz71_0 := blk_frozen BK290.out 0; have hfz71_1 := blk_frozen BK290.out 1; have hfz71_2 := blk_frozen BK290.out 2; have hfz71_3 := blk_frozen BK290.out 3; have hfz71_4 := blk_frozen BK290.out 4; have hfz71_5 := blk_frozen BK290.out 5; have hfz71_6 := blk_frozen BK290.out 6))
                                        go_ret
                                        exact ⟨by first | rfl | (simp [errW_none, errW_some] <;> rfl) | (simp [*, errW_none, errW_some] <;> rfl), by repeat (first | (with_reducible first | exact HB.out | apply below_alloc | apply pw_below_drewN | apply below_drew1 | refine below_set ?_ GE243.out | refine below_set ?_ GE244.out | refine below_set ?_ GE290.out) | exact HB.out)⟩
                    · rw [if_neg c36] at H
                      exact absurd H (by simp)
                  · rw [if_neg c35] at H
                    exact absurd H (by simp)
                · rw [if_neg c34] at H
                  exact absurd H (by simp)
  · rw [if_neg c3] at H
    exact absurd H (by simp)


end Go.Proofs.Ytnkcbkfccbfjpaa.RVolumesSpoilt
/- VolumesSpoilt, plain: a volume of which up to 32 neighbouring bits are turned is refused. -/
namespace Go.Proofs.Ytnkcbkfccbfjpaa.Z
open Go.RowKit Go.Proofs.Ytnkcbkfccbfjpaa.XxhW Go.Proofs.Ytnkcbkfccbfjpaa.Burst Go.Proofs.Ytnkcbkfccbfjpaa.QVolumesCuts Go.Proofs.Ytnkcbkfccbfjpaa.RVolumesSpoilt Go.Proofs.YtnkcbkfccbfjpaaW.PrintWords Go.Proofs.YtnkcbkfccbfjpaaW.PrintLast Go.Proofs.YtnkcbkfccbfjpaaW.PrintMore
set_option linter.unusedVariables false
set_option linter.unusedSimpArgs false
/-! ### bytes -/
theorem isByte_app (a b : List Int) : isByte (a ++ b) = true ↔ isByte a = true ∧ isByte b = true := by
  unfold isByte
  rw [List.all_append, Bool.and_eq_true]
theorem isByte_low (a : Int) (m : Nat) : isByte (lowL a m) = true := by
  rw [isByte_iff]
  intro q hq
  unfold lowL at hq
  obtain ⟨i, _, rfl⟩ := List.mem_map.1 hq
  omega
theorem xor8_in (x y : Int) : 0 ≤ Go.bits .xor .u8 x y ∧ Go.bits .xor .u8 x y < 256 := by
  have : ∀ z : Int, 0 ≤ IntKind.u8.wrap z ∧ IntKind.u8.wrap z < 256 := fun z => by
    show 0 ≤ z % 256 ∧ z % 256 < 256
    omega
  exact this _
theorem isByte_set {l : List Int} (h : isByte l = true) (i : Nat) (x : Int) (hx : 0 ≤ x ∧ x < 256) : isByte (l.set i x) = true := by
  rw [isByte_iff] at h ⊢
  intro q hq
  rcases List.mem_or_eq_of_mem_set hq with h1 | rfl
  · exact h q h1
  · exact hx
theorem isByte_xorG : ∀ (n i : Nat) (o p : List Int), isByte o = true → isByte (xorG n i o p) = true
  | 0, _, _, _, h => h
  | n + 1, i, o, p, h => isByte_xorG n (i + 1) _ p (isByte_set h i _ (xor8_in _ _))
theorem isByte_fold : ∀ (L : List (List Int)) (o : List Int), isByte o = true → isByte (L.foldl xorR o) = true
  | [], _, h => h
  | p :: L, o, h => isByte_fold L _ (isByte_xorG _ _ _ _ h)
theorem isByte_vol (set num cnt flag whole at_ size : Int) (b : List Int) (h : isByte b = true) : isByte (volP set num cnt flag whole at_ size b) = true := by
  have hm : isByte magicL = true := by decide
  unfold volP headP
  simp only [isByte_app, isByte_low, hm, h, and_self]
/-! ### the volumes of Cut are good -/
theorem vol_good (set : Int) (num cnt whole at_ : Nat) (sp : Bool) (b : List Int) (h0 : W64u set) (h1 : num ≤ 1000) (h2 : cnt ≤ 1000) (h4 : whole ≤ 4194304) (h5 : at_ ≤ 4194304) (hb : isByte b = true) (hl : b.length ≤ 10000000)
    (hc : volumes_volume_can.f 10 set (num : Int) (cnt : Int) sp (whole : Int) (at_ : Int) (b.length : Int) b = some true) :
    Good (volP set (num : Int) (cnt : Int) (if sp = true then 1 else 0) (whole : Int) (at_ : Int) (b.length : Int) b) := by
  obtain ⟨fl, hfl⟩ : ∃ fl : Int, fl = (if sp = true then 1 else 0) := ⟨_, rfl⟩
  have hf : 0 ≤ fl ∧ fl ≤ 1 := by rw [hfl]; split <;> decide
  have hsp : (fl == 1) = sp := by rw [hfl]; cases sp <;> decide
  rw [← hfl]
  obtain ⟨a0, a1, a2, a3, a4, a5, a6, a7, a8, a9, a10, a11⟩ := vol_fields set (num : Int) (cnt : Int) fl (whole : Int) (at_ : Int) (b.length : Int) b h0 (by omega) (by omega) (by omega) (nat64 _ (by omega)) (nat64 _ (by omega)) (nat64 _ (by omega))
  have hlen := volP_len set (num : Int) (cnt : Int) fl (whole : Int) (at_ : Int) (b.length : Int) b
  have hby := isByte_vol set (num : Int) (cnt : Int) fl (whole : Int) (at_ : Int) (b.length : Int) b hb
  generalize volP set (num : Int) (cnt : Int) fl (whole : Int) (at_ : Int) (b.length : Int) b = v at *
  refine ⟨hby, by omega, by omega, a0, a10, a9, by rw [a4]; exact hf.2, ?_, ?_, ?_⟩
  · unfold canP
    rw [a1, a2, a3, a4, a5, a6, a7, a11, hsp, XxhW.wrap_small _ (by omega), XxhW.wrap_small _ (by omega), XxhW.wrap_small _ (by omega)]
    exact hc
  · rw [a7, a11]; exact XxhW.wrap_small _ (by omega)
  · rw [a8, a11]
theorem cut_good (l : List Int) (hb : isByte l = true) (S : Nat) (hS : 1 ≤ S) (hS2 : S ≤ 9223372036854775743) (hl : l.length ≤ 4194304) (hn : countOf l S ≤ 1000) (set : Int) (hset : W64u set) (sp : Bool) : ∀ v ∈ cutP l set sp (stepOf l S) (countOf l S), Good v := by
  obtain ⟨c1, c2⟩ := can_cut 10 (by decide) set l S hS hS2 hl hn []
  obtain ⟨_, _, _, f4, f5, f6, f7⟩ := count_facts l S hS hS2 hl
  intro v hv
  unfold cutP at hv
  rcases List.mem_append.1 hv with h | h
  · unfold outL at h
    obtain ⟨i, hi, rfl⟩ := List.mem_map.1 h
    rw [List.mem_range] at hi
    have hp := piece_len l (stepOf l S) i
    have h4 := f4 i hi
    have hpb : isByte (piece l (stepOf l S) i) = true := by
      rw [isByte_iff] at hb ⊢
      intro q hq
      exact hb q (List.mem_of_mem_take (List.mem_of_mem_drop hq))
    have := vol_good set i (countOf l S) l.length (i * stepOf l S) false (piece l (stepOf l S) i) hset (by omega) hn hl (by omega) hpb (by omega) (by rw [can_bytes _ _ _ _ _ _ _ _ _ []]; exact c1 i hi)
    exact this
  · cases sp with
    | false => simp at h
    | true =>
      rw [if_pos rfl, List.mem_singleton] at h
      subst h
      have ho := overL_len l (stepOf l S) (countOf l S)
      have hob : isByte (overL l (stepOf l S) (countOf l S)) = true := isByte_fold _ _ (by
        rw [isByte_iff]
        intro q hq
        rw [List.mem_replicate] at hq
        rw [hq.2]
        decide)
      have := vol_good set (countOf l S) (countOf l S) l.length 0 true (overL l (stepOf l S) (countOf l S)) hset hn hn hl (by omega) hob (by omega) (by rw [can_bytes _ _ _ _ _ _ _ _ _ [], ho]; exact c2)
      exact this
/-! ### bits turned -/
def flipB (V : List Nat) (p : Nat) : List Nat := V.set (p / 8) (V.getD (p / 8) 0 ^^^ 2 ^ (p % 8))
theorem flipB_len (V : List Nat) (p : Nat) : (flipB V p).length = V.length := List.length_set
theorem pow8 (r : Nat) (h : r < 8) : 2 ^ r < 256 := by
  have := Nat.pow_lt_pow_right (show 1 < 2 by decide) h
  exact this
theorem flipB_byte {V : List Nat} (h : ∀ b ∈ V, b < 256) (p : Nat) : ∀ b ∈ flipB V p, b < 256 := by
  intro b hb
  rcases List.mem_or_eq_of_mem_set hb with h1 | rfl
  · exact h b h1
  · refine Nat.xor_lt_two_pow (n := 8) ?_ (pow8 _ (by omega))
    rw [List.getD_eq_getElem?_getD]
    by_cases c : p / 8 < V.length
    · rw [List.getElem?_eq_getElem c]; exact h _ (List.getElem_mem c)
    · rw [List.getElem?_eq_none (by omega)]; decide
theorem bt_flip (V : List Nat) (p : Nat) (hp : p / 8 < V.length) (j : Nat) : Burst.bt (flipB V p) j = xor (Burst.bt V j) (decide (j = p)) := by
  unfold Burst.bt flipB
  by_cases c : j / 8 = p / 8
  · rw [c, List.getD_eq_getElem?_getD, List.getElem?_set_self hp, Option.getD_some, Nat.testBit_xor, Nat.testBit_two_pow]
    congr 1
    by_cases c2 : j = p
    · subst c2; simp
    · rw [decide_eq_false c2, decide_eq_false (by omega)]
  · rw [List.getD_eq_getElem?_getD, List.getElem?_set_ne (by omega), ← List.getD_eq_getElem?_getD, decide_eq_false (by omega), Bool.xor_false]
theorem up_flip (V : List Nat) (hV : ∀ b ∈ V, b < 256) (p : Nat) (hp : p / 8 < V.length) : (up V).set (p / 8) (Go.bits .xor .u8 ((up V).getD (p / 8) 0) ((2 ^ (p % 8) : Nat) : Int)) = up (flipB V p) := by
  have hx : V.getD (p / 8) 0 < 256 := by
    rw [List.getD_eq_getElem?_getD, List.getElem?_eq_getElem hp]
    exact hV _ (List.getElem_mem hp)
  rw [up_get, Go.u8_xor_nat _ _ hx (pow8 _ (by omega))]
  unfold flipB up
  rw [List.map_set]
theorem shl8 (r : Nat) (h : r < 8) : shl .u8 1 (r : Int) = ((2 ^ r : Nat) : Int) := by
  have : ∀ q : Fin 8, shl .u8 1 (q.1 : Int) = ((2 ^ q.1 : Nat) : Int) := by decide +kernel
  exact this ⟨r, h⟩
theorem turn_bit (t : Nat) (i : Nat) (hi : i < 32) : (Int.tmod (shr .u32 (t : Int) (i : Int)) 2 = 1) ↔ t.testBit i = true := by
  have e : shr .u32 (t : Int) (i : Int) = ((t / 2 ^ i : Nat) : Int) := by
    unfold shr
    rw [show min (i : Int).toNat IntKind.u32.bits = i by rw [show IntKind.u32.bits = 32 from rfl]; omega, Int.natCast_ediv]
    simp
  rw [e, Int.tmod_eq_emod_of_nonneg (Int.natCast_nonneg _), Nat.testBit_eq_decide_div_mod_eq, decide_eq_true_eq]
  clear e
  generalize t / 2 ^ i = z
  omega
/-- How far the bits have been turned. -/
structure Turned (V V' : List Nat) (t a i : Nat) (tn : Bool) : Prop where
  len : V'.length = V.length
  byt : ∀ b ∈ V', b < 256
  bits : ∀ j, Burst.bt V' j = xor (Burst.bt V j) (decide (a ≤ j ∧ j < a + i) && t.testBit (j - a))
  tn : tn = true ↔ ∃ q, q < i ∧ t.testBit q = true
theorem turned_end {V V' : List Nat} {t a i : Nat} {tn : Bool} (g : Good (up V)) (hV : ∀ b ∈ V, b < 256) (hi : i ≤ 32) (h : Turned V V' t a i tn) :
    ((volumes_Read.f (up V')).bind fun bt279 => (if bt279.2.2.2.2.2.2.2.2 = 270 then (some (true == tn)) else (some ((bt279.2.2.2.2.2.2.2.2 == 131) == tn)))) = some true := by
  cases tn with
  | false =>
    have hn : ∀ q, q < i → t.testBit q = false := fun q hq => by
      cases e : t.testBit q with
      | false => rfl
      | true => exact absurd (h.tn.2 ⟨q, hq, e⟩) (by decide)
    have : V' = V := bytes_ext V' V h.len h.byt hV (fun j => by
      rw [h.bits j]
      by_cases c : a ≤ j ∧ j < a + i
      · rw [hn (j - a) (by omega), Bool.and_false, Bool.xor_false]
      · rw [decide_eq_false c, Bool.false_and, Bool.xor_false])
    rw [this, g.read, Option.bind_some]
    rfl
  | true =>
    obtain ⟨q, hq, hb⟩ := h.tn.1 rfl
    have hne : V ≠ V' := fun e => by
      have := h.bits (a + q)
      rw [← e, decide_eq_true (show a ≤ a + q ∧ a + q < a + i by omega), Nat.add_sub_cancel_left, hb] at this
      revert this
      cases Burst.bt V (a + q) <;> decide
    obtain ⟨r, hr, he⟩ := spoilt g hV h.byt h.len.symm a (fun j hj => by
      rw [h.bits j] at hj
      by_cases c : a ≤ j ∧ j < a + i
      · omega
      · rw [decide_eq_false c, Bool.false_and, Bool.xor_false, Bool.xor_self] at hj
        exact absurd hj (by decide)) hne
    rw [hr, Option.bind_some]
    rcases he with he | he
    · rw [if_pos he]; rfl
    · rw [if_neg (by rw [he]; decide), he]; rfl
theorem turned_step {V V' : List Nat} {t a i : Nat} {tn : Bool} (h : Turned V V' t a i tn) (hp : (a + i) / 8 < V.length) :
    (t.testBit i = true → Turned V (flipB V' (a + i)) t a (i + 1) true) ∧ (t.testBit i = false → Turned V V' t a (i + 1) tn) := by
  refine ⟨fun hb => ⟨by rw [flipB_len, h.len], flipB_byte h.byt _, fun j => ?_, ?_⟩, fun hb => ⟨h.len, h.byt, fun j => ?_, ?_⟩⟩
  · rw [bt_flip _ _ (by rw [h.len]; exact hp), h.bits j, Bool.xor_assoc]
    congr 1
    by_cases c : j = a + i
    · subst c
      rw [decide_eq_false (by omega), decide_eq_true rfl, decide_eq_true (by omega), Nat.add_sub_cancel_left, hb]
      rfl
    · rw [decide_eq_false c, Bool.xor_false]
      congr 1
      exact decide_eq_decide.2 (by omega)
  · exact ⟨fun _ => ⟨i, by omega, hb⟩, fun _ => rfl⟩
  · rw [h.bits j]
    congr 1
    by_cases c : j = a + i
    · subst c
      rw [Nat.add_sub_cancel_left, hb, Bool.and_false, Bool.and_false]
    · congr 1
      exact decide_eq_decide.2 (by omega)
  · rw [h.tn]
    constructor
    · rintro ⟨q, hq, hb'⟩
      exact ⟨q, by omega, hb'⟩
    · rintro ⟨q, hq, hb'⟩
      refine ⟨q, ?_, hb'⟩
      rcases Nat.lt_or_ge q i with h1 | h1
      · exact h1
      · have : q = i := by omega
        rw [this, hb] at hb'
        exact absurd hb' (by decide)
set_option maxHeartbeats 2000000 in
theorem turn_l0 (V : List Nat) (g : Good (up V)) (hV : ∀ b ∈ V, b < 256) (hVl : V.length ≤ 100000000) (t a : Nat) (bits : Nat) (hbits : bits = 8 * V.length) : ∀ (j k i : Nat) (V' : List Nat) (tn : Bool), i + j = 32 → 2 * j + 2 < k → a + i ≤ bits → Turned V V' t a i tn →
    satchellaw27_VolumesSpoilt.l0 k (t : Int) (up V') (bits : Int) (a : Int) tn (i : Int) = some true := by
  intro j
  induction j with
  | zero =>
    intro k i V' tn hi hk ha h
    obtain ⟨k, rfl⟩ : ∃ q, k = q + 2 := ⟨k - 2, by omega⟩
    rw [satchellaw27_VolumesSpoilt.l0, if_neg (by omega), satchellaw27_VolumesSpoilt.j4, if_neg (by decide)]
    exact turned_end g hV (by omega) h
  | succ j ih =>
    intro k i V' tn hi hk ha h
    obtain ⟨k, rfl⟩ : ∃ q, k = q + 2 := ⟨k - 2, by omega⟩
    have e1 := Aside0.mk (show wrap64 ((a : Int) + (i : Int)) = ((a + i : Nat) : Int) by rw [← Int.natCast_add]; exact XxhW.wrap_small _ (by omega))
    rw [satchellaw27_VolumesSpoilt.l0, if_pos (by omega), e1.out, satchellaw27_VolumesSpoilt.j4, e1.out]
    by_cases c : a + i < bits
    · have e2 := Aside0.mk (show IntKind.u64.wrap (i : Int) = (i : Int) from wrap_u64 (nat64 _ (by omega)))
      have e3 := Aside0.mk (show wrap64 (Int.tdiv ((a + i : Nat) : Int) 8) = (((a + i) / 8 : Nat) : Int) by rw [Int.tdiv_eq_ediv_of_nonneg (by omega), show (8 : Int) = ((8 : Nat) : Int) from rfl, ← Int.natCast_ediv]; exact XxhW.wrap_small _ (by omega))
      have e4 := Aside0.mk (show IntKind.u64.wrap (Int.tmod ((a + i : Nat) : Int) 8) = (((a + i) % 8 : Nat) : Int) by rw [Int.tmod_eq_emod_of_nonneg (by omega), show (8 : Int) = ((8 : Nat) : Int) from rfl, ← Int.natCast_emod]; exact wrap_u64 (nat64 _ (by omega)))
      have hp : (a + i) / 8 < V.length := by omega
      obtain ⟨s1, s2⟩ := turned_step h hp
      rw [decide_eq_true (by omega), if_pos rfl, e2.out, if_pos (by omega), wrap_succ _ (by omega)]
      cases hb : t.testBit i with
      | true =>
        rw [if_pos ((turn_bit t i (by omega)).2 hb), e3.out, if_pos (by omega), if_pos (by rw [up_len, h.len]; omega), e4.out, if_pos (by omega), Int.toNat_natCast, rd_at, shl8 _ (by omega), up_flip V' h.byt _ (by rw [h.len]; exact hp)]
        exact ih k (i + 1) _ _ (by omega) (by omega) (by omega) (s1 hb)
      | false =>
        rw [if_neg (fun hx => by have := (turn_bit t i (by omega)).1 hx; rw [hb] at this; exact absurd this (by decide))]
        exact ih k (i + 1) _ _ (by omega) (by omega) (by omega) (s2 hb)
    · rw [decide_eq_false (by omega), if_neg (by decide)]
      exact turned_end g hV (by omega) h
theorem zero_read : ∃ r, volumes_Read.f (List.replicate 64 0) = some r ∧ r.2.2.2.2.2.2.2.2 = 270 := by
  have h1 : isByte (List.replicate 64 0) = true := by decide +kernel
  have h2 : ¬ magicOk (List.replicate 64 0) = true := by
    have : magicOk (List.replicate 64 0) = false := by decide +kernel
    rw [this]
    decide
  unfold volumes_Read.f
  rw [if_pos h1, if_pos (by simp), if_pos (by simp), if_neg h2]
  exact ⟨_, rfl, rfl⟩
theorem norm_mod (x : Int) (n : Nat) (hn : 0 < n) (hn2 : n ≤ 1000000000) : ∃ q : Nat, q < n ∧ (if Int.tmod x (n : Int) < 0 then wrap64 (Int.tmod x (n : Int) + (n : Int)) else Int.tmod x (n : Int)) = (q : Int) := by
  have h1 := Int.tmod_lt_of_pos x (show (0 : Int) < (n : Int) by omega)
  have h2 : -(n : Int) < Int.tmod x (n : Int) := by
    have h3 := Int.tmod_lt_of_pos (-x) (show (0 : Int) < (n : Int) by omega)
    rw [Int.neg_tmod] at h3
    omega
  generalize Int.tmod x (n : Int) = y at *
  by_cases c : y < 0
  · refine ⟨(y + (n : Int)).toNat, by omega, ?_⟩
    rw [if_pos c, IntWalk.wrap64_in _ (by omega)]
    omega
  · exact ⟨y.toNat, by omega, by rw [if_neg c]; omega⟩
set_option maxHeartbeats 2000000 in
theorem spoilt_f (K : Nat) (hK : 6500000000 ≤ K) (l : List Int) (hb : isByte l = true) (hl : l.length ≤ 4194304) (most set : Int) (sp : Bool) (which from_ : Int) (t : Nat) (hset : W64u set) (hm : most ≤ 9223372036854775807) (hm0 : -9223372036854775808 ≤ most) :
    satchellaw27_VolumesSpoilt.f (K + 1) l most set sp which from_ (t : Int) = some true := by
  obtain ⟨z, hz, hz2⟩ := zero_read
  have early : ∀ k x5 x6 x7 x8, satchellaw27_VolumesSpoilt.j0 (k + 1) x5 x6 x7 x8 true = some true := by
    intro k x5 x6 x7 x8
    rw [satchellaw27_VolumesSpoilt.j0, if_pos rfl, if_pos (by decide), hz, Option.bind_some, hz2]
    rfl
  unfold satchellaw27_VolumesSpoilt.f
  rw [Option.bind_some, if_pos (by rw [List.length_nil]; omega), List.nil_append, cut_f1 K hK l most set sp hset hm hm0, Option.bind_some]
  by_cases c1 : most ≤ 64
  · have e : cutR l most set sp = ([], 1) := by unfold cutR; rw [if_pos c1]
    rw [e, if_neg (by decide)]
    exact early _ _ _ _ _
  by_cases c3 : countOf l (most - 64).toNat > 1000
  · have e : cutR l most set sp = ([], 2) := by unfold cutR; rw [if_neg c1, if_neg (by omega), if_pos c3]
    rw [e, if_neg (by decide)]
    exact early _ _ _ _ _
  have e : cutR l most set sp = (cutP l set sp (stepOf l (most - 64).toNat) (countOf l (most - 64).toNat), 0) := by unfold cutR; rw [if_neg c1, if_neg (by omega), if_neg c3]
  rw [e, if_pos rfl]
  obtain ⟨S, hS⟩ : ∃ S, S = (most - 64).toNat := ⟨_, rfl⟩
  rw [← hS] at c3 ⊢
  have hg := cut_good l hb S (by omega) (by omega) hl (by omega) set hset sp
  have hc1 : 1 ≤ countOf l S := by unfold countOf; omega
  have hlen : (cutP l set sp (stepOf l S) (countOf l S)).length ≤ 1001 := by
    unfold cutP
    rw [List.length_append, outL_len]
    split
    · simp only [List.length_cons, List.length_nil]; omega
    · simp only [List.length_nil]; omega
  have hlen1 : 1 ≤ (cutP l set sp (stepOf l S) (countOf l S)).length := by
    unfold cutP
    rw [List.length_append, outL_len]
    omega
  dsimp only
  generalize cutP l set sp (stepOf l S) (countOf l S) = L at hg hlen hlen1 ⊢
  rw [if_neg (by omega)]
  by_cases c4 : t = 0
  · rw [show (((t : Nat) : Int) == 0) = true by rw [c4]; rfl]
    exact early _ _ _ _ _
  rw [show (((t : Nat) : Int) == 0) = false by rw [beq_eq_false_iff_ne]; omega]
  obtain ⟨K, rfl⟩ : ∃ q, K = q + 2 := ⟨K - 2, by omega⟩
  rw [satchellaw27_VolumesSpoilt.j0, if_neg (by decide), if_neg (by omega)]
  obtain ⟨q, hq, eq⟩ := norm_mod which L.length (by omega) (by omega)
  have hj1 : ∀ x13, x13 = (q : Int) → satchellaw27_VolumesSpoilt.j1 (K + 2) from_ (t : Int) L x13 = some true := by
    rintro x13 rfl
    have hgq := hg (L.getD q []) (by
      rw [List.getD_eq_getElem?_getD, List.getElem?_eq_getElem hq]
      exact List.getElem_mem hq)
    have hgl := hgq.len
    have hgm := hgq.most
    obtain ⟨V, eV, hV⟩ := up_of hgq.byt
    rw [satchellaw27_VolumesSpoilt.j1, Option.bind_some, if_pos (by omega), if_pos (by omega), rdL_at, if_pos (by rw [List.length_nil]; omega), Option.bind_some, List.nil_append]
    rw [eV] at hgq hgl hgm ⊢
    rw [up_len] at hgl hgm
    have e8 : wrap64 (8 * ((up V).length : Int)) = ((8 * V.length : Nat) : Int) := by
      rw [up_len, show (8 : Int) * (V.length : Int) = ((8 * V.length : Nat) : Int) by omega]
      exact XxhW.wrap_small _ (by omega)
    rw [e8, if_neg (by omega)]
    obtain ⟨p, hp, ep⟩ := norm_mod from_ (8 * V.length) (by omega) (by omega)
    have hj2 : ∀ x16, x16 = (p : Int) → satchellaw27_VolumesSpoilt.j2 (K + 1) (t : Int) (up V) ((8 * V.length : Nat) : Int) x16 = some true := by
      rintro x16 rfl
      rw [satchellaw27_VolumesSpoilt.j2]
      refine turn_l0 V hgq hV hgm t p (8 * V.length) rfl 32 K 0 V false (by omega) (by omega) (by omega) ⟨rfl, hV, fun j => ?_, ?_⟩
      · rw [decide_eq_false (by omega), Bool.false_and, Bool.xor_false]
      · constructor
        · intro h; exact absurd h (by decide)
        · rintro ⟨q, hq, _⟩; omega
    by_cases c6 : Int.tmod from_ ((8 * V.length : Nat) : Int) < 0
    · rw [if_pos c6] at ep ⊢; exact hj2 _ ep
    · rw [if_neg c6] at ep ⊢; exact hj2 _ ep
  by_cases c5 : Int.tmod which (L.length : Int) < 0
  · rw [if_pos c5] at eq ⊢; exact hj1 _ eq
  · rw [if_neg c5] at eq ⊢; exact hj1 _ eq
end Go.Proofs.Ytnkcbkfccbfjpaa.Z
