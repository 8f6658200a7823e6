/- VolumesMissing is true of every input of bulk at most 1048576. -/
import Derived.Test.YtnkcbkfccbfjpaaQmh
import Derived.Test.YtnkcbkfccbfjpaaRows
import Derived.Lib.SmallJoins
import Derived.WalkKit
import Derived.ProofKit
import Derived.OpenShut
import Derived.ShutString
import Derived.ChangeOld
import Derived.Below
import Derived.SizedLaws
import Derived.JoinedCond
namespace Go.Proofs.Ytnkcbkfccbfjpaa.volumesMissing
open Go.ChangeShapes Go.WideShapes Go.ChangeAt Go.RowKit
open Go.Deep
set_option linter.unusedVariables false
theorem own : ownKnob Try.prog.godebug = none := by kernel_rfl
theorem laidOut : laidOutB Try.prog = true := by kernel_rfl
set_option maxRecDepth 100000 in
theorem lifted (os : Os) (started : os.Started) (H : Type) (enc : TypeId × Value → H) (F : Stop.Interp) :
    ReturnsInHanded {} Try.checked os 12 .any ((Rows.OpenSpec.upto Rows.volumesMissingSpec).pre6 enc Try.prog Try.f12 Rows.volumesMissingUptoRow.domain false) (((Rows.OpenSpec.upto Rows.volumesMissingSpec).at F).post enc Try.prog Try.f12 false true false false) := by
  refine returnsInHanded_of_cond (C := Try.checked) (s := Rows.OpenSpec.upto Rows.volumesMissingSpec) (k := Rows.uptoSmall) rfl own started (by kernel_rfl) Try.func12
    (OpenSpec.witness (enc := enc) (C := Try.checked) (s := Rows.OpenSpec.upto Rows.volumesMissingSpec) (k := Rows.uptoSmall) rfl false ⟨#[], #[.agg #[.slice none 0 0, .int .i64 0, .int .u64 0, .bool false], .slice none 0 0], []⟩ 8 (by kernel_rfl) (by kernel_rfl) (by kernel_rfl)
      (x := ([.agg [.nil, .lit (.int .i64 0), .lit (.int .u64 0), .lit (.bool false)], .nil], [], [])) (by kernel_rfl) rfl (by kernel_rfl)) ?_
  intro W base args ds gs before hval0 hW hcnd hk _
  have hval : ∀ (j : Nat) t v, Try.f12.params[j]? = some t → args[j]? = some v → Value.okWide Try.prog W .any base t v := hval0
  have hW' := hW
  obtain ⟨p, q, hA0, hV, rfl, hfz, hnd⟩ := hW
  have hA : DataW.TrodAll enc Try.prog W 0 (fun _ => true) true Try.f12.params.toList args.toList ds p := hA0
  rw [Try.params12] at hA hval
  obtain ⟨v0, vs0, d0, ds0, p0, q0, hargs, rfl, rfl, h0, r0⟩ := trodAll_cons hA
  obtain ⟨v1, vs1, d1, ds1, p1, q1, rfl, rfl, rfl, h1, r1⟩ := trodAll_cons r0
  obtain ⟨rfl, rfl, rfl⟩ := trodAll_nil r1
  obtain rfl : args = #[v0, v1] := by cases args; simp_all
  obtain ⟨rfl, rfl⟩ := trodVars_none hV
  have hb := Bu.small hk
  have b0 : Rows.uptoBulk d0 ≤ 1048576 := Nat.le_trans (Bu.part_le (by simp)) hb
  have k0 := h0
  have lt0 : ∀ x ∈ p0, x.block < W.heap.size := by obtain ⟨m, hm⟩ := k0; exact DataW.trod_lt m _ _ _ hm
  obtain ⟨a1, len1, cap1, rfl⟩ := okWide_slice Try.underlying44 (hval 1 44 v1 rfl rfl)
  have b1 : Rows.uptoBulk d1 ≤ 1048576 := Nat.le_trans (Bu.part_le (by simp)) hb
  have k1 := h1
  have lt1 : ∀ x ∈ p1, x.block < W.heap.size := by obtain ⟨m, hm⟩ := k1; exact DataW.trod_lt m _ _ _ hm
  obtain ⟨v00, v01, v02, v03, y0, y1, y2, y3, n, rfl, hd0, hp0, t0, t1, t2, t3⟩ := Go.Joins.open_agg4 Try.underlying25 (by kernel_rfl) (by kernel_rfl) (hval 0 25 v0 rfl rfl) h0
  have e0 : Rows.uptoBulk y0.1 ≤ 1048576 := by
    rw [hd0] at b0
    simp only [Rows.uptoBulk, Rows.uptoBulkAll] at b0
    omega
  obtain ⟨A0, n0, c0, rfl⟩ := Bu.slice_shape Try.underlying22 t0
  obtain ⟨l0, hl0, hc0, hm0, hb0, hn0, hw0, hr0⟩ := Bu.open_nums Try.underlying22 Try.underlying5 (by kernel_rfl) (⟨_, t0⟩ : DataW.Trod enc Try.prog W 0 (fun _ => true) true 22 (.slice A0 n0 c0) y0.1 y0.2)
  subst hl0
  have hR0 : Go.Proofs.YtnkcbkfccbfjpaaW.PrintWords.ReadsInt W .u8 A0 l0.length l0 := ⟨rfl, Nat.le_trans hc0 (Nat.le_trans hm0 (by decide)), fun h => by
    cases A0 with
    | none => have := hn0 rfl; omega
    | some a => exact ⟨a, rfl, fun i hi => hr0 a rfl i hi⟩⟩
  obtain ⟨az1, ez1, dz1, wz1⟩ := DataW.trod_int Try.underlying3 t1
  simp only [List.cons.injEq, and_true] at ez1
  subst ez1
  obtain ⟨az2, ez2, dz2, wz2⟩ := DataW.trod_int Try.underlying23 t2
  simp only [List.cons.injEq, and_true] at ez2
  subst ez2
  obtain ⟨az3, ez3, dz3⟩ := DataW.trod_bool Try.underlying4 t3
  simp only [List.cons.injEq, and_true] at ez3
  subst ez3
  obtain ⟨ht1, ht2, ht3, ht4⟩ := Bu.open_truths Try.underlying44 Try.underlying4 (by kernel_rfl) h1
  obtain ⟨haves, hv1, hv2⟩ := Bu.truths_C (Nat.le_trans ht1 (Nat.le_trans ht2 (by decide))) ht4
  subst hv1
  have hby : Go.Proofs.Ytnkcbkfccbfjpaa.Z.isByte l0 = true := (Go.Proofs.Ytnkcbkfccbfjpaa.Z.isByte_iff l0).2 (fun q hq => Bu.wf_u8 (hw0 q hq))
  have hF := Go.Proofs.Ytnkcbkfccbfjpaa.Z.missing_f 200000000000 (Nat.le_refl _) l0 hby (by omega) az1 az2 az3 haves (Bu.wf_u64 wz2) (Bu.wf_i64 wz1).2 (Bu.wf_i64 wz1).1
  clear hA0 hval0
  refine (Go.Proofs.Ytnkcbkfccbfjpaa.SVolumesMissing.satchellaw27_VolumesMissing.calls _ A0 c0 l0 az1 az2 az3 a1 cap1 haves true W (Go.Proofs.YtnkcbkfccbfjpaaW.PrintWords.Kd.C_of_reads (enc := Value.int .u8) (d := (0 : Int)) (h1 := fun _ => rfl) hR0) hc0 hv2 ht1 hF).mono fun e W' ⟨he, bel⟩ => ?_
  subst he
  exact ⟨_, rfl, _, _, _, [], _, [], hW', trodAll_mk1 (shut_bool Try.underlying4 _), (trodAll_cons_mk (Below.trod laidOut (by kernel_rfl) (of_decide_eq_true (by kernel_rfl)) k0 bel lt0) (trodAll_cons_mk (Below.trod laidOut (by kernel_rfl) (of_decide_eq_true (by kernel_rfl)) k1 bel lt1) trodAll_mk0)), rfl, bel.frame _, fun h => by cases h⟩
theorem proved : Rows.VolumesMissingUptoSaid :=
  OpenClaim.holds_of_cond 12 Try.f12 rfl rfl rfl rfl rfl rfl rfl ⟨rfl, rfl, rfl, rfl, rfl⟩ rfl rfl rfl rfl rfl (by kernel_rfl) Try.func12 (by kernel_rfl)
    (of_decide_eq_true (by kernel_rfl)) (by unfold Func.isWrapper; first | (rw [if_pos (by decide +kernel)]; kernel_rfl) | (rw [if_neg (by decide +kernel)]; exact ⟨rfl, rfl⟩))
    (fun os started H enc _ F => lifted os started H enc F)
#print axioms proved
end Go.Proofs.Ytnkcbkfccbfjpaa.volumesMissing
namespace Go.Proofs.Ytnkcbkfccbfjpaa
/-- The row, under a short name, for the claim. -/
theorem volumesMissing_holds : Rows.VolumesMissingUptoSaid := volumesMissing.proved
end Go.Proofs.Ytnkcbkfccbfjpaa
