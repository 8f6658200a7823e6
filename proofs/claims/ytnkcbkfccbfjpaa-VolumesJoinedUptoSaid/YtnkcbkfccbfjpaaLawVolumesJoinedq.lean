/- VolumesJoined is true of every input of bulk at most 1048576. -/
import Derived.Test.YtnkcbkfccbfjpaaQjg
import Derived.Test.YtnkcbkfccbfjpaaRows
import Derived.Lib.SmallJoins
import Derived.WalkKit
import Derived.ProofKit
import Derived.OpenShut
import Derived.ShutString
import Derived.ChangeOld
import Derived.Below
import Derived.SizedLaws
import Derived.JoinedCond
namespace Go.Proofs.Ytnkcbkfccbfjpaa.volumesJoined
open Go.ChangeShapes Go.WideShapes Go.ChangeAt Go.RowKit
open Go.Deep
set_option linter.unusedVariables false
theorem own : ownKnob Try.prog.godebug = none := by kernel_rfl
theorem laidOut : laidOutB Try.prog = true := by kernel_rfl
set_option maxRecDepth 100000 in
theorem lifted (os : Os) (started : os.Started) (H : Type) (enc : TypeId × Value → H) (F : Stop.Interp) :
    ReturnsInHanded {} Try.checked os 11 .any ((Rows.OpenSpec.upto Rows.volumesJoinedSpec).pre6 enc Try.prog Try.f11 Rows.volumesJoinedUptoRow.domain false) (((Rows.OpenSpec.upto Rows.volumesJoinedSpec).at F).post enc Try.prog Try.f11 false true false false) := by
  refine returnsInHanded_of_cond (C := Try.checked) (s := Rows.OpenSpec.upto Rows.volumesJoinedSpec) (k := Rows.uptoSmall) rfl own started (by kernel_rfl) Try.func11
    (OpenSpec.witness (enc := enc) (C := Try.checked) (s := Rows.OpenSpec.upto Rows.volumesJoinedSpec) (k := Rows.uptoSmall) rfl false ⟨#[], #[.agg #[.slice none 0 0, .int .i64 0, .int .u64 0, .bool false], .slice none 0 0, .int .i64 0], []⟩ 8 (by kernel_rfl) (by kernel_rfl) (by kernel_rfl)
      (x := ([.agg [.nil, .lit (.int .i64 0), .lit (.int .u64 0), .lit (.bool false)], .nil, .lit (.int .i64 0)], [], [])) (by kernel_rfl) rfl (by kernel_rfl)) ?_
  intro W base args ds gs before hval0 hW hcnd hk _
  have hval : ∀ (j : Nat) t v, Try.f11.params[j]? = some t → args[j]? = some v → Value.okWide Try.prog W .any base t v := hval0
  have hW' := hW
  obtain ⟨p, q, hA0, hV, rfl, hfz, hnd⟩ := hW
  have hA : DataW.TrodAll enc Try.prog W 0 (fun _ => true) true Try.f11.params.toList args.toList ds p := hA0
  rw [Try.params11] at hA hval
  obtain ⟨v0, vs0, d0, ds0, p0, q0, hargs, rfl, rfl, h0, r0⟩ := trodAll_cons hA
  obtain ⟨v1, vs1, d1, ds1, p1, q1, rfl, rfl, rfl, h1, r1⟩ := trodAll_cons r0
  obtain ⟨v2, vs2, d2, ds2, p2, q2, rfl, rfl, rfl, h2, r2⟩ := trodAll_cons r1
  obtain ⟨rfl, rfl, rfl⟩ := trodAll_nil r2
  obtain rfl : args = #[v0, v1, v2] := by cases args; simp_all
  obtain ⟨rfl, rfl⟩ := trodVars_none hV
  have hb := Bu.small hk
  have b0 : Rows.uptoBulk d0 ≤ 1048576 := Nat.le_trans (Bu.part_le (by simp)) hb
  have k0 := h0
  have lt0 : ∀ x ∈ p0, x.block < W.heap.size := by obtain ⟨m, hm⟩ := k0; exact DataW.trod_lt m _ _ _ hm
  obtain ⟨a1, len1, cap1, rfl⟩ := okWide_slice Try.underlying73 (hval 1 73 v1 rfl rfl)
  have b1 : Rows.uptoBulk d1 ≤ 1048576 := Nat.le_trans (Bu.part_le (by simp)) hb
  have k1 := h1
  have lt1 : ∀ x ∈ p1, x.block < W.heap.size := by obtain ⟨m, hm⟩ := k1; exact DataW.trod_lt m _ _ _ hm
  obtain ⟨a2, rfl, rfl, rfl, w2⟩ := open_int Try.underlying3 (hval 2 3 v2 rfl rfl) h2
  obtain ⟨v00, v01, v02, v03, y0, y1, y2, y3, n, rfl, hd0, hp0, t0, t1, t2, t3⟩ := Go.Joins.open_agg4 Try.underlying25 (by kernel_rfl) (by kernel_rfl) (hval 0 25 v0 rfl rfl) h0
  have e0 : Rows.uptoBulk y0.1 ≤ 1048576 := by
    rw [hd0] at b0
    simp only [Rows.uptoBulk, Rows.uptoBulkAll] at b0
    omega
  obtain ⟨A0, n0, c0, rfl⟩ := Bu.slice_shape Try.underlying22 t0
  obtain ⟨l0, hl0, hc0, hm0, hb0, hn0, hw0, hr0⟩ := Bu.open_nums Try.underlying22 Try.underlying5 (by kernel_rfl) (⟨_, t0⟩ : DataW.Trod enc Try.prog W 0 (fun _ => true) true 22 (.slice A0 n0 c0) y0.1 y0.2)
  subst hl0
  have hR0 : Go.Proofs.YtnkcbkfccbfjpaaW.PrintWords.ReadsInt W .u8 A0 l0.length l0 := ⟨rfl, Nat.le_trans hc0 (Nat.le_trans hm0 (by decide)), fun h => by
    cases A0 with
    | none => have := hn0 rfl; omega
    | some a => exact ⟨a, rfl, fun i hi => hr0 a rfl i hi⟩⟩
  obtain ⟨az1, ez1, dz1, wz1⟩ := DataW.trod_int Try.underlying3 t1
  simp only [List.cons.injEq, and_true] at ez1
  subst ez1
  obtain ⟨az2, ez2, dz2, wz2⟩ := DataW.trod_int Try.underlying23 t2
  simp only [List.cons.injEq, and_true] at ez2
  subst ez2
  obtain ⟨az3, ez3, dz3⟩ := DataW.trod_bool Try.underlying4 t3
  simp only [List.cons.injEq, and_true] at ez3
  subst ez3
  obtain ⟨order, ho1, hoc, hom, hob, hon, how, hor⟩ := Bu.open_nums Try.underlying73 Try.underlying3 (by kernel_rfl) h1
  subst ho1
  have hR1 : Go.Proofs.YtnkcbkfccbfjpaaW.PrintWords.ReadsInt W .i64 a1 order.length order := ⟨rfl, Nat.le_trans hoc (Nat.le_trans hom (by decide)), fun h => by
    cases a1 with
    | none => have := hon rfl; omega
    | some a => exact ⟨a, rfl, fun i hi => hor a rfl i hi⟩⟩
  have hby : Go.Proofs.Ytnkcbkfccbfjpaa.Z.isByte l0 = true := (Go.Proofs.Ytnkcbkfccbfjpaa.Z.isByte_iff l0).2 (fun q hq => Bu.wf_u8 (hw0 q hq))
  have hF := Go.Proofs.Ytnkcbkfccbfjpaa.Z.joined_f 6500000000 (Nat.le_refl _) l0 hby (by omega) az1 az2 az3 order (by omega) a2 (Bu.wf_u64 wz2) (Bu.wf_i64 wz1).2 (Bu.wf_i64 wz1).1
  clear hA0 hval0
  refine (Go.Proofs.Ytnkcbkfccbfjpaa.SVolumesJoined.satchellaw27_VolumesJoined.calls _ A0 c0 l0 az1 az2 az3 a1 cap1 order a2 true W (Go.Proofs.YtnkcbkfccbfjpaaW.PrintWords.Kd.C_of_reads (enc := Value.int .u8) (d := (0 : Int)) (h1 := fun _ => rfl) hR0) hc0 (Go.Proofs.YtnkcbkfccbfjpaaW.PrintWords.Kd.C_of_reads (enc := Value.int .i64) (d := (0 : Int)) (h1 := fun _ => rfl) hR1) hoc hF).mono fun e W' ⟨he, bel⟩ => ?_
  subst he
  exact ⟨_, rfl, _, _, _, [], _, [], hW', trodAll_mk1 (shut_bool Try.underlying4 _), (trodAll_cons_mk (Below.trod laidOut (by kernel_rfl) (of_decide_eq_true (by kernel_rfl)) k0 bel lt0) (trodAll_cons_mk (Below.trod laidOut (by kernel_rfl) (of_decide_eq_true (by kernel_rfl)) k1 bel lt1) (trodAll_cons_mk (shut_int Try.underlying3 w2) trodAll_mk0))), rfl, bel.frame _, fun h => by cases h⟩
theorem proved : Rows.VolumesJoinedUptoSaid :=
  OpenClaim.holds_of_cond 11 Try.f11 rfl rfl rfl rfl rfl rfl rfl ⟨rfl, rfl, rfl, rfl, rfl⟩ rfl rfl rfl rfl rfl (by kernel_rfl) Try.func11 (by kernel_rfl)
    (of_decide_eq_true (by kernel_rfl)) (by unfold Func.isWrapper; first | (rw [if_pos (by decide +kernel)]; kernel_rfl) | (rw [if_neg (by decide +kernel)]; exact ⟨rfl, rfl⟩))
    (fun os started H enc _ F => lifted os started H enc F)
#print axioms proved
end Go.Proofs.Ytnkcbkfccbfjpaa.volumesJoined
namespace Go.Proofs.Ytnkcbkfccbfjpaa
/-- The row, under a short name, for the claim. -/
theorem volumesJoined_holds : Rows.VolumesJoinedUptoSaid := volumesJoined.proved
end Go.Proofs.Ytnkcbkfccbfjpaa
