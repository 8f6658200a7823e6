/- lent of lz's laws as the print says it: two lists of new memory, read alone. -/
import Derived.Test.YtnomebkdhjigjaaLi
import Derived.Test.YtnomebkdhjigjaaLu
namespace Go.Proofs.Ytnomebkdhjigjaa.MLzDecodes
open Go.RowKit Go.Proofs.YtnomebkdhjigjaaW.PrintWords Go.Proofs.YtnomebkdhjigjaaW.PrintLast Go.Proofs.YtnomebkdhjigjaaW.PrintMore
set_option linter.unusedVariables false
set_option linter.unusedSimpArgs false
def satchellaw03_lent.f (l0 : List Int) : Option (List Int × List Int) := if l0.length ≤ 140737488351232 then some (l0, l0 ++ W.marks 32) else none
theorem satchellaw03_lent.calls (A0 : Option Addr) (c0 : Nat) (l0 : List Int) (r1 : List Int) (r2 : List Int) (w : World) (hr0 : Kd.C (Kd.int .u8) w A0 l0.length l0) (hc0 : l0.length ≤ c0) (h : satchellaw03_lent.f l0 = some (r1, r2)) :
    Calls Try.prog 20 #[.slice A0 l0.length c0] w fun e w' => ∃ v0_ v1_ : Value, e = .returned (.tuple #[v0_, v1_]) ∧ Kd.R (Kd.int .u8) 5 w' w.heap.size (fun k_ => k_ = k_) v0_ r1 ∧ Kd.R (Kd.int .u8) 5 w' w.heap.size (fun k_ => k_ = k_) v1_ r2 ∧ Below w.heap.size w w' := by
  unfold satchellaw03_lent.f at h
  by_cases c : l0.length ≤ 140737488351232
  · rw [if_pos c] at h
    obtain ⟨rfl, rfl⟩ := Option.some.inj h
    refine (W.lent_calls A0 c0 l0 w (W.reads_of_C hr0) c).mono ?_
    rintro e w' ⟨g, cp, he, hg, hcp, ho, hb⟩
    refine ⟨_, _, he, Kd.R_of_own ?_ (fun _ _ => rfl), Kd.R_of_own ho (fun _ _ => rfl), hb⟩
    obtain ⟨h1, h2⟩ := ho
    rcases h2 with ⟨h3, _⟩ | ⟨g', cap, cur, e1, h3, h4, h5, h6, h7, h8⟩
    · cases h3
    · cases e1
      have hn : ∀ q : List Int, (nums .u8 q).length = q.length := fun q => by unfold nums; exact List.length_map ..
      refine ⟨(hn l0).trans (Nat.mul_one _).symm, .inr ⟨g, cp, cur, rfl, h3, h4, Nat.le_trans (by rw [List.length_append]; omega) h5, h6, h7, ?_⟩⟩
      have h9 : (cur.toList.take ((l0 ++ W.marks 32).length * 1)).take (l0.length * 1) = cur.toList.take (l0.length * 1) := by
        rw [List.take_take, Nat.min_eq_left (by rw [List.length_append]; omega)]
      show _ = nums .u8 l0
      rw [← h9, h8, nums_append, List.take_append_of_le_length (by rw [hn]; omega), List.take_of_length_le (by rw [hn]; omega)]
  · rw [if_neg c] at h
    cases h
end Go.Proofs.Ytnomebkdhjigjaa.MLzDecodes
