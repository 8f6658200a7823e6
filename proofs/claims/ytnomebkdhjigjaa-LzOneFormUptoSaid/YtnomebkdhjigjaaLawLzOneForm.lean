/- LzOneForm is true of every input of bulk at most 1048576. -/
import Derived.Test.YtnomebkdhjigjaaRows
import Derived.Test.YtnomebkdhjigjaaOw
import Derived.Test.YtnomebkdhjigjaaBs
import Derived.Lib.SmallJoins
import Derived.WalkKit
import Derived.ProofKit
import Derived.OpenShut
import Derived.ShutString
import Derived.ChangeOld
import Derived.Below
import Derived.SizedLaws
import Derived.JoinedCond
namespace Go.Proofs.Ytnomebkdhjigjaa.lzOneForm
open Go.ChangeShapes Go.WideShapes Go.ChangeAt Go.RowKit
open Go.Deep
set_option linter.unusedVariables false
theorem own : ownKnob Try.prog.godebug = none := by kernel_rfl
theorem laidOut : laidOutB Try.prog = true := by kernel_rfl
set_option maxRecDepth 100000 in
theorem lifted (os : Os) (started : os.Started) (H : Type) (enc : TypeId × Value → H) (F : Stop.Interp) :
    ReturnsInHanded {} Try.checked os 12 .any ((Rows.OpenSpec.upto Rows.lzOneFormSpec).pre6 enc Try.prog Try.f12 Rows.lzOneFormUptoRow.domain false) (((Rows.OpenSpec.upto Rows.lzOneFormSpec).at F).post enc Try.prog Try.f12 false true false false) := by
  refine returnsInHanded_of_cond (C := Try.checked) (s := Rows.OpenSpec.upto Rows.lzOneFormSpec) (k := Rows.uptoSmall) rfl own started (by kernel_rfl) Try.func12
    (OpenSpec.witness (enc := enc) (C := Try.checked) (s := Rows.OpenSpec.upto Rows.lzOneFormSpec) (k := Rows.uptoSmall) rfl false ⟨#[], #[.agg #[.slice none 0 0, .slice none 0 0, .slice none 0 0, .int .i64 0]], []⟩ 8 (by kernel_rfl) (by kernel_rfl) (by kernel_rfl)
      (x := ([.agg [.nil, .nil, .nil, .lit (.int .i64 0)]], [], [])) (by kernel_rfl) rfl (by kernel_rfl)) ?_
  intro W base args ds gs before hval0 hW hcnd hk _
  have hval : ∀ (j : Nat) t v, Try.f12.params[j]? = some t → args[j]? = some v → Value.okWide Try.prog W .any base t v := hval0
  have hW' := hW
  obtain ⟨p, q, hA0, hV, rfl, hfz, hnd⟩ := hW
  have hA : DataW.TrodAll enc Try.prog W 0 (fun _ => true) true Try.f12.params.toList args.toList ds p := hA0
  rw [Try.params12] at hA hval
  obtain ⟨v0, vs0, d0, ds0, p0, q0, hargs, rfl, rfl, h0, r0⟩ := trodAll_cons hA
  obtain ⟨rfl, rfl, rfl⟩ := trodAll_nil r0
  obtain rfl : args = #[v0] := by cases args; simp_all
  obtain ⟨rfl, rfl⟩ := trodVars_none hV
  have hb := Bu.small hk
  have b0 : Rows.uptoBulk d0 ≤ 1048576 := Nat.le_trans (Bu.part_le (by simp)) hb
  have k0 := h0
  have lt0 : ∀ x ∈ p0, x.block < W.heap.size := by obtain ⟨m, hm⟩ := k0; exact DataW.trod_lt m _ _ _ hm
  obtain ⟨v00, v01, v02, v03, y0, y1, y2, y3, n, rfl, hd0, hp0, t0, t1, t2, t3⟩ := Go.Joins.open_agg4 Try.underlying65 (by kernel_rfl) (by kernel_rfl) (hval 0 65 v0 rfl rfl) h0
  have e0 : Rows.uptoBulk y0.1 ≤ 1048576 ∧ Rows.uptoBulk y1.1 ≤ 1048576 ∧ Rows.uptoBulk y2.1 ≤ 1048576 := by
    rw [hd0] at b0
    simp only [Rows.uptoBulk, Rows.uptoBulkAll] at b0
    omega
  obtain ⟨A0, n0, c0, rfl⟩ := Bu.slice_shape Try.underlying22 t0
  obtain ⟨l0, hl0, hc0, hm0, hb0, hn0, hw0, hr0⟩ := Bu.open_nums Try.underlying22 Try.underlying5 (by kernel_rfl) (⟨_, t0⟩ : DataW.Trod enc Try.prog W 0 (fun _ => true) true 22 (.slice A0 n0 c0) y0.1 y0.2)
  subst hl0
  have hR0 : Go.Proofs.YtnomebkdhjigjaaW.PrintWords.ReadsInt W .u8 A0 l0.length l0 := ⟨rfl, Nat.le_trans hc0 (Nat.le_trans hm0 (by decide)), fun h => by
    cases A0 with
    | none => have := hn0 rfl; omega
    | some a => exact ⟨a, rfl, fun i hi => hr0 a rfl i hi⟩⟩
  obtain ⟨A2, n2, c2, rfl⟩ := Bu.slice_shape Try.underlying22 t2
  obtain ⟨l2, hl2, hc2, hm2, hb2, hn2, hw2, hr2⟩ := Bu.open_nums Try.underlying22 Try.underlying5 (by kernel_rfl) (⟨_, t2⟩ : DataW.Trod enc Try.prog W 0 (fun _ => true) true 22 (.slice A2 n2 c2) y2.1 y2.2)
  subst hl2
  have hR2 : Go.Proofs.YtnomebkdhjigjaaW.PrintWords.ReadsInt W .u8 A2 l2.length l2 := ⟨rfl, Nat.le_trans hc2 (Nat.le_trans hm2 (by decide)), fun h => by
    cases A2 with
    | none => have := hn2 rfl; omega
    | some a => exact ⟨a, rfl, fun i hi => hr2 a rfl i hi⟩⟩
  obtain ⟨A1, n1, c1, rfl⟩ := Bu.slice_shape Try.underlying37 t1
  obtain ⟨l1, hl1, hc1, hm1, hb1, hC1, hs1⟩ := Bu.open_seqs (⟨_, t1⟩ : DataW.Trod enc Try.prog W 0 (fun _ => true) true 37 (.slice A1 n1 c1) y1.1 y1.2)
  subst hl1
  obtain ⟨a3, e3, d3, w3⟩ := DataW.trod_int Try.underlying3 t3
  simp only [List.cons.injEq, and_true] at e3
  subst e3
  have hF1 : ∀ i, i < l1.length → (l1.getD i Go.Proofs.Ytnomebkdhjigjaa.Z.z44).f0.length ≤ 1048576 ∧ (l1.getD i Go.Proofs.Ytnomebkdhjigjaa.Z.z44).f2 ≤ 9223372036854775807 := fun i hi => by
    have h := hs1 i hi
    exact ⟨Nat.le_trans h.1 e0.2.1, (Bu.wf_i64 h.2.2.2).2⟩
  have hB1 : ∀ s ∈ l1, Go.Proofs.Ytnomebkdhjigjaa.W.BytM s.f0 := fun s hs x hx => by
    obtain ⟨i, hi, e⟩ := List.mem_iff_getElem.1 hs
    have h := (hs1 i hi).2.1 x (by rw [List.getD_eq_getElem?_getD, List.getElem?_eq_getElem hi, Option.getD_some, e]; exact hx)
    exact Bu.wf_u8 h
  clear hA0 hval0
  refine (Go.Proofs.Ytnomebkdhjigjaa.W.oneform_walk A0 A1 A2 c0 c1 c2 l0 l2 l1 a3 W hR0 hc0 (Go.Proofs.Ytnomebkdhjigjaa.W.byt_of l0 (Go.Proofs.Ytnomebkdhjigjaa.W.bytesB_wf hw0)) (Go.Proofs.Ytnomebkdhjigjaa.W.bytesB_wf hw0) (by omega) hC1 hc1 (by omega) hF1 hB1 hR2 hc2 (by omega)).mono fun e W' ⟨he, bel⟩ => ?_
  subst he
  exact ⟨_, rfl, _, _, _, [], _, [], hW', trodAll_mk1 (shut_bool Try.underlying4 _), (trodAll_cons_mk (Below.trod laidOut (by kernel_rfl) (of_decide_eq_true (by kernel_rfl)) k0 bel lt0) trodAll_mk0), rfl, bel.frame _, fun h => by cases h⟩
theorem proved : Rows.LzOneFormUptoSaid :=
  OpenClaim.holds_of_cond 12 Try.f12 rfl rfl rfl rfl rfl rfl rfl ⟨rfl, rfl, rfl, rfl, rfl⟩ rfl rfl rfl rfl rfl (by kernel_rfl) Try.func12 (by kernel_rfl)
    (of_decide_eq_true (by kernel_rfl)) (by unfold Func.isWrapper; first | (rw [if_pos (by decide +kernel)]; kernel_rfl) | (rw [if_neg (by decide +kernel)]; exact ⟨rfl, rfl⟩))
    (fun os started H enc _ F => lifted os started H enc F)
#print axioms proved
end Go.Proofs.Ytnomebkdhjigjaa.lzOneForm
namespace Go.Proofs.Ytnomebkdhjigjaa
/-- The row, under a short name, for the claim. -/
theorem lzOneForm_holds : Rows.LzOneFormUptoSaid := lzOneForm.proved
end Go.Proofs.Ytnomebkdhjigjaa
