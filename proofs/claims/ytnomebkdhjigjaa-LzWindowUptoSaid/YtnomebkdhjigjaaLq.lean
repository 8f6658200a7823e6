/- lz.Play and lz.Decode as the print says them: contracts over lists. -/
import Derived.Test.YtnomebkdhjigjaaLp
import Derived.Test.YtnomebkdhjigjaaAd
namespace Go.Proofs.Ytnomebkdhjigjaa.Z
open Go.RowKit Go.Proofs.YtnomebkdhjigjaaW.PrintWords Go.Proofs.YtnomebkdhjigjaaW.PrintLast Go.Proofs.YtnomebkdhjigjaaW.PrintMore
open Go.Proofs.Ytnomebkdhjigjaa.MLzDecodes
set_option linter.unusedVariables false
set_option linter.unusedSimpArgs false
def lz_Play.f (l0 : List (S44)) (l1 : List Int) (a2 : Int) : Option (List Int × Int) := if l0.length ≤ 140737488355327 ∧ shortS l0 = true ∧ l1.length ≤ 140737488355327 then some (W.play l0 l1 a2) else none
theorem lz_Play.calls (A0 : Option Addr) (c0 : Nat) (l0 : List (S44)) (A1 : Option Addr) (c1 : Nat) (l1 : List Int) (a2 : Int) (r1 : List Int) (r2 : Int) (w : World) (hr0 : Kd.C k44 w A0 l0.length l0) (hc0 : l0.length ≤ c0) (hr1 : Kd.C (Kd.int .u8) w A1 l1.length l1) (hc1 : l1.length ≤ c1) (h : lz_Play.f l0 l1 a2 = some (r1, r2)) :
    Calls Try.prog 35 #[.slice A0 l0.length c0, .slice A1 l1.length c1, .int .i64 a2] w fun e w' => ∃ v0_ : Value, e = .returned (.tuple #[v0_, .int .i64 r2]) ∧ Kd.R (Kd.int .u8) 5 w' w.heap.size (fun _ => True) v0_ r1 ∧ Below w.heap.size w w' := by
  unfold lz_Play.f at h
  by_cases c : l0.length ≤ 140737488355327 ∧ shortS l0 = true ∧ l1.length ≤ 140737488355327
  · rw [if_pos c] at h
    have e := Option.some.inj h
    refine (W.Play_calls A0 A1 c0 c1 l0 l1 a2 w hr0 hc0 c.1 (shortS_at c.2.1) (W.reads_of_C hr1) hc1 c.2.2).mono ?_
    rintro e' w' ⟨A', c', he, ho, hb⟩
    rw [e] at he ho
    exact ⟨_, he, Kd.R_of_own ho (fun _ _ => trivial), hb⟩
  · rw [if_neg c] at h
    cases h
end Go.Proofs.Ytnomebkdhjigjaa.Z
