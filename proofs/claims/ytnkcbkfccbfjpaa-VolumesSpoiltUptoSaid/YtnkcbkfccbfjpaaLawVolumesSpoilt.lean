/- VolumesSpoilt is true of every input of bulk at most 1048576. -/
import Derived.Test.YtnkcbkfccbfjpaaRows
import Derived.Test.YtnkcbkfccbfjpaaPu
import Derived.Test.YtnkcbkfccbfjpaaBw
import Derived.Lib.SmallJoins
import Derived.WalkKit
import Derived.ProofKit
import Derived.OpenShut
import Derived.ShutString
import Derived.ChangeOld
import Derived.Below
import Derived.SizedLaws
import Derived.JoinedCond
namespace Go.Proofs.Ytnkcbkfccbfjpaa.volumesSpoilt
open Go.ChangeShapes Go.WideShapes Go.ChangeAt Go.RowKit
open Go.Deep
set_option linter.unusedVariables false
theorem own : ownKnob Try.prog.godebug = none := by kernel_rfl
theorem laidOut : laidOutB Try.prog = true := by kernel_rfl
set_option maxRecDepth 100000 in
theorem lifted (os : Os) (started : os.Started) (H : Type) (enc : TypeId × Value → H) (F : Stop.Interp) :
    ReturnsInHanded {} Try.checked os 10 .any ((Rows.OpenSpec.upto Rows.volumesSpoiltSpec).pre6 enc Try.prog Try.f10 Rows.volumesSpoiltUptoRow.domain false) (((Rows.OpenSpec.upto Rows.volumesSpoiltSpec).at F).post enc Try.prog Try.f10 false true false false) := by
  refine returnsInHanded_of_cond (C := Try.checked) (s := Rows.OpenSpec.upto Rows.volumesSpoiltSpec) (k := Rows.uptoSmall) rfl own started (by kernel_rfl) Try.func10
    (OpenSpec.witness (enc := enc) (C := Try.checked) (s := Rows.OpenSpec.upto Rows.volumesSpoiltSpec) (k := Rows.uptoSmall) rfl false ⟨#[], #[.agg #[.slice none 0 0, .int .i64 0, .int .u64 0, .bool false], .agg #[.int .i64 0, .int .i64 0, .int .u32 0]], []⟩ 8 (by kernel_rfl) (by kernel_rfl) (by kernel_rfl)
      (x := ([.agg [.nil, .lit (.int .i64 0), .lit (.int .u64 0), .lit (.bool false)], .agg [.lit (.int .i64 0), .lit (.int .i64 0), .lit (.int .u32 0)]], [], [])) (by kernel_rfl) rfl (by kernel_rfl)) ?_
  intro W base args ds gs before hval0 hW hcnd hk _
  have hval : ∀ (j : Nat) t v, Try.f10.params[j]? = some t → args[j]? = some v → Value.okWide Try.prog W .any base t v := hval0
  have hW' := hW
  obtain ⟨p, q, hA0, hV, rfl, hfz, hnd⟩ := hW
  have hA : DataW.TrodAll enc Try.prog W 0 (fun _ => true) true Try.f10.params.toList args.toList ds p := hA0
  rw [Try.params10] at hA hval
  obtain ⟨v0, vs0, d0, ds0, p0, q0, hargs, rfl, rfl, h0, r0⟩ := trodAll_cons hA
  obtain ⟨v1, vs1, d1, ds1, p1, q1, rfl, rfl, rfl, h1, r1⟩ := trodAll_cons r0
  obtain ⟨rfl, rfl, rfl⟩ := trodAll_nil r1
  obtain rfl : args = #[v0, v1] := by cases args; simp_all
  obtain ⟨rfl, rfl⟩ := trodVars_none hV
  have hb := Bu.small hk
  have b0 : Rows.uptoBulk d0 ≤ 1048576 := Nat.le_trans (Bu.part_le (by simp)) hb
  have k0 := h0
  have lt0 : ∀ x ∈ p0, x.block < W.heap.size := by obtain ⟨m, hm⟩ := k0; exact DataW.trod_lt m _ _ _ hm
  have b1 : Rows.uptoBulk d1 ≤ 1048576 := Nat.le_trans (Bu.part_le (by simp)) hb
  have k1 := h1
  have lt1 : ∀ x ∈ p1, x.block < W.heap.size := by obtain ⟨m, hm⟩ := k1; exact DataW.trod_lt m _ _ _ hm
  obtain ⟨v00, v01, v02, v03, y0, y1, y2, y3, n, rfl, hd0, hp0, t0, t1, t2, t3⟩ := Go.Joins.open_agg4 Try.underlying25 (by kernel_rfl) (by kernel_rfl) (hval 0 25 v0 rfl rfl) h0
  have e0 : Rows.uptoBulk y0.1 ≤ 1048576 := by
    rw [hd0] at b0
    simp only [Rows.uptoBulk, Rows.uptoBulkAll] at b0
    omega
  obtain ⟨A0, n0, c0, rfl⟩ := Bu.slice_shape Try.underlying22 t0
  obtain ⟨l0, hl0, hc0, hm0, hb0, hn0, hw0, hr0⟩ := Bu.open_nums Try.underlying22 Try.underlying5 (by kernel_rfl) (⟨_, t0⟩ : DataW.Trod enc Try.prog W 0 (fun _ => true) true 22 (.slice A0 n0 c0) y0.1 y0.2)
  subst hl0
  have hR0 : Go.Proofs.YtnkcbkfccbfjpaaW.PrintWords.ReadsInt W .u8 A0 l0.length l0 := ⟨rfl, Nat.le_trans hc0 (Nat.le_trans hm0 (by decide)), fun h => by
    cases A0 with
    | none => have := hn0 rfl; omega
    | some a => exact ⟨a, rfl, fun i hi => hr0 a rfl i hi⟩⟩
  obtain ⟨a1, e1, d1, w1⟩ := DataW.trod_int Try.underlying3 t1
  simp only [List.cons.injEq, and_true] at e1
  subst e1
  obtain ⟨a2, e2, d2, w2⟩ := DataW.trod_int Try.underlying23 t2
  simp only [List.cons.injEq, and_true] at e2
  subst e2
  obtain ⟨a3, e3, d3⟩ := DataW.trod_bool Try.underlying4 t3
  simp only [List.cons.injEq, and_true] at e3
  subst e3
  obtain ⟨v10, v11, v12, u0, u1, u2, m, rfl, hd1, hp1, s0, s1, s2⟩ := Go.Joins.open_agg3 Try.underlying66 (by kernel_rfl) (by kernel_rfl) (hval 1 66 v1 rfl rfl) h1
  obtain ⟨b10, f0, g0, x0⟩ := DataW.trod_int Try.underlying3 s0
  simp only [List.cons.injEq, and_true] at f0
  subst f0
  obtain ⟨b11, f1, g1, x1⟩ := DataW.trod_int Try.underlying3 s1
  simp only [List.cons.injEq, and_true] at f1
  subst f1
  obtain ⟨b12, f2, g2, x2⟩ := DataW.trod_int Try.underlying36 s2
  simp only [List.cons.injEq, and_true] at f2
  subst f2
  have t32 : 0 ≤ b12 := by
    simp only [Lit.wf, show IntKind.u32.min = 0 from rfl, Bool.and_eq_true, decide_eq_true_eq] at x2
    exact x2.1
  obtain ⟨tt, rfl⟩ : ∃ tt : Nat, b12 = (tt : Int) := ⟨b12.toNat, by omega⟩
  have hby : Go.Proofs.Ytnkcbkfccbfjpaa.Z.isByte l0 = true := (Go.Proofs.Ytnkcbkfccbfjpaa.Z.isByte_iff l0).2 (fun q hq => Bu.wf_u8 (hw0 q hq))
  have hF := Go.Proofs.Ytnkcbkfccbfjpaa.Z.spoilt_f 6500000000 (Nat.le_refl _) l0 hby (by omega) a1 a2 a3 b10 b11 tt (Bu.wf_u64 w2) (Bu.wf_i64 w1).2 (Bu.wf_i64 w1).1
  clear hA0 hval0
  refine (Go.Proofs.Ytnkcbkfccbfjpaa.RVolumesSpoilt.satchellaw27_VolumesSpoilt.calls _ A0 c0 l0 a1 a2 a3 b10 b11 _ true W (Go.Proofs.YtnkcbkfccbfjpaaW.PrintWords.Kd.C_of_reads (enc := Value.int .u8) (d := (0 : Int)) (h1 := fun _ => rfl) hR0) hc0 hF).mono fun e W' ⟨he, bel⟩ => ?_
  subst he
  exact ⟨_, rfl, _, _, _, [], _, [], hW', trodAll_mk1 (shut_bool Try.underlying4 _), (trodAll_cons_mk (Below.trod laidOut (by kernel_rfl) (of_decide_eq_true (by kernel_rfl)) k0 bel lt0) (trodAll_cons_mk (Below.trod laidOut (by kernel_rfl) (of_decide_eq_true (by kernel_rfl)) k1 bel lt1) trodAll_mk0)), rfl, bel.frame _, fun h => by cases h⟩
theorem proved : Rows.VolumesSpoiltUptoSaid :=
  OpenClaim.holds_of_cond 10 Try.f10 rfl rfl rfl rfl rfl rfl rfl ⟨rfl, rfl, rfl, rfl, rfl⟩ rfl rfl rfl rfl rfl (by kernel_rfl) Try.func10 (by kernel_rfl)
    (of_decide_eq_true (by kernel_rfl)) (by unfold Func.isWrapper; first | (rw [if_pos (by decide +kernel)]; kernel_rfl) | (rw [if_neg (by decide +kernel)]; exact ⟨rfl, rfl⟩))
    (fun os started H enc _ F => lifted os started H enc F)
#print axioms proved
end Go.Proofs.Ytnkcbkfccbfjpaa.volumesSpoilt
namespace Go.Proofs.Ytnkcbkfccbfjpaa
/-- The row, under a short name, for the claim. -/
theorem volumesSpoilt_holds : Rows.VolumesSpoiltUptoSaid := volumesSpoilt.proved
end Go.Proofs.Ytnkcbkfccbfjpaa
