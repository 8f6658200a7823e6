/- lz.Encode as the print says it: a contract over lists. -/
import Derived.Test.YtnomebkdhjigjaaEf
namespace Go.Proofs.Ytnomebkdhjigjaa.Z
open Go.RowKit Go.Proofs.YtnomebkdhjigjaaW.PrintWords Go.Proofs.YtnomebkdhjigjaaW.PrintLast Go.Proofs.YtnomebkdhjigjaaW.PrintMore
set_option linter.unusedVariables false
set_option linter.unusedSimpArgs false
theorem wfB_of {l : List Int} (h : W.bytesB l = true) : W.WfB l := fun x hx => by
  unfold W.bytesB at h
  rw [List.all_eq_true] at h
  have := h x hx
  simp at this
  simp only [Lit.wf, show IntKind.u8.min = 0 from rfl, show IntKind.u8.max = 255 from rfl, Bool.and_eq_true, decide_eq_true_eq]
  omega
def lz_Encode.f (l0 : List Int) (l1 : List Int) : Option (List Int × Int) := if l0.length ≤ 1099511627776 ∧ l1.length ≤ 1099511627776 ∧ W.bytesB l0 = true ∧ W.bytesB l1 = true then some (W.encode l0 l1) else none
theorem lz_Encode.calls (A0 : Option Addr) (c0 : Nat) (l0 : List Int) (A1 : Option Addr) (c1 : Nat) (l1 : List Int) (r1 : List Int) (r2 : Int) (w : World) (hr0 : Kd.C (Kd.int .u8) w A0 l0.length l0) (hc0 : l0.length ≤ c0) (hr1 : Kd.C (Kd.int .u8) w A1 l1.length l1) (hc1 : l1.length ≤ c1) (h : lz_Encode.f l0 l1 = some (r1, r2)) :
    Calls Try.prog 28 #[.slice A0 l0.length c0, .slice A1 l1.length c1] w fun e w' => ∃ v0_ : Value, e = .returned (.tuple #[v0_, .int .i64 r2]) ∧ Kd.R (Kd.int .u8) 5 w' w.heap.size (fun _ => True) v0_ r1 ∧ Below w.heap.size w w' := by
  unfold lz_Encode.f at h
  by_cases c : l0.length ≤ 1099511627776 ∧ l1.length ≤ 1099511627776 ∧ W.bytesB l0 = true ∧ W.bytesB l1 = true
  · rw [if_pos c] at h
    have e := Option.some.inj h
    refine (W.Encode_calls A0 A1 c0 c1 l0 l1 w (W.reads_of_C hr0) hc0 (wfB_of c.2.2.1) c.1 (W.reads_of_C hr1) hc1 (wfB_of c.2.2.2) c.2.1).mono ?_
    rintro e' w' ⟨v, he, ho, hb⟩
    rw [e] at he ho
    exact ⟨_, he, Kd.R_of_own ho (fun _ _ => trivial), hb⟩
  · rw [if_neg c] at h
    cases h
end Go.Proofs.Ytnomebkdhjigjaa.Z
