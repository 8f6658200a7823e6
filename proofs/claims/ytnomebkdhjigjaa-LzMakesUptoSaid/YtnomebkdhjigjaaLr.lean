/- The document's window and copied (as printed): plain facts. -/
import Derived.Test.YtnomebkdhjigjaaMLzDecodesx2
import Derived.Test.YtnomebkdhjigjaaLu
namespace Go.Proofs.Ytnomebkdhjigjaa.W
open Go.RowKit Go.Proofs.Ytnomebkdhjigjaa.MLzDecodes Go.Proofs.YtnomebkdhjigjaaW.PrintWords Go.Proofs.YtnomebkdhjigjaaW.PrintLast
set_option linter.unusedVariables false
theorem ref_copied (back : Nat) (h1 : 1 ≤ back) (n : Nat) (hn : n ≤ 1099511627776) : ∀ (j k i : Nat) (l : List Int), i + j = n → j < k → back ≤ l.length → l.length + j ≤ 1099511627776 → satchelref03_copied.l0 k l (back : Int) (n : Int) (i : Int) = some (copied back j l) := by
  intro j
  induction j with
  | zero =>
    intro k i l hi hk hb hl
    obtain ⟨k, rfl⟩ : ∃ q, k = q + 1 := ⟨k - 1, by omega⟩
    rw [satchelref03_copied.l0, if_neg (by omega)]
    rfl
  | succ j ih =>
    intro k i l hi hk hb hl
    obtain ⟨k, rfl⟩ : ∃ q, k = q + 1 := ⟨k - 1, by omega⟩
    have w1 : wrap64 ((l.length : Int) - (back : Int)) = ((l.length - back : Nat) : Int) := by rw [IntWalk.wrap64_in _ (by omega)]; omega
    have w2 : wrap64 ((i : Int) + 1) = ((i + 1 : Nat) : Int) := by clear w1; rw [IntWalk.wrap64_in _ (by omega)]; omega
    rw [satchelref03_copied.l0, if_pos (by clear w1 w2; omega), w1, w2]
    clear w1 w2
    rw [if_pos (by omega), if_pos (by omega), if_pos (by omega), rd_nat, ih k (i + 1) _ (by omega) (by omega) (by simp; omega) (by simp; omega)]
    rfl
theorem ref_window (l : List Int) (hl : l.length ≤ 140737488355327) : satchelref03_window.f l = some (window l) := by
  unfold satchelref03_window.f window
  by_cases c : 65536 ≤ l.length
  · have w1 : wrap64 ((l.length : Int) - 65535) = ((l.length - 65535 : Nat) : Int) := by rw [IntWalk.wrap64_in _ (by omega)]; omega
    rw [if_pos (by omega), if_pos c, w1]
    clear w1
    rw [if_pos (by omega), if_pos (by omega), Option.bind_some, Int.toNat_natCast, List.nil_append, List.length_nil, if_pos (by rw [List.length_drop]; omega)]
  · rw [if_neg (by omega), if_neg c, Option.bind_some, List.nil_append, List.length_nil, if_pos (by omega)]
end Go.Proofs.Ytnomebkdhjigjaa.W
