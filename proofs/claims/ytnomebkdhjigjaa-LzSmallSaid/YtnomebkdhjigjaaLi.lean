/- kept, same and full of lz's laws (as printed): what they answer at good arguments: plain facts. -/
import Derived.Test.YtnomebkdhjigjaaMLzDecodesx1
import Derived.Test.YtnomebkdhjigjaaLh
namespace Go.Proofs.Ytnomebkdhjigjaa.W
open Go.RowKit Go.Proofs.Ytnomebkdhjigjaa.MLzDecodes Go.Proofs.YtnomebkdhjigjaaW.PrintWords Go.Proofs.YtnomebkdhjigjaaW.PrintLast
set_option linter.unusedVariables false
set_option linter.unusedSimpArgs false
theorem rd_nat' (b : List Int) (p : Nat) : rd b (p : Int) = b.getD p 0 := by simp [rd]
theorem marks_at (i : Nat) (hi : i < 32) : (marks 32).getD i 0 = 171 + (i : Int) := by
  unfold marks
  simp [List.getD_eq_getElem?_getD, List.getElem?_map, List.getElem?_range, hi]
theorem marks_len : (marks 32).length = 32 := by simp [marks]
theorem kept_l0 (b : List Int) (hl : b.length ≤ 140737488355327) : ∀ (j k i : Nat), i + j = b.length + 32 → j < k → satchellaw03_kept.l0 k (b ++ marks 32) b (i : Int) = some true := by
  intro j
  induction j with
  | zero =>
    intro k i hi hk
    obtain ⟨k, rfl⟩ : ∃ q, k = q + 1 := ⟨k - 1, by omega⟩
    rw [satchellaw03_kept.l0, if_neg (by rw [List.length_append, marks_len]; omega)]
  | succ j ih =>
    intro k i hi hk
    obtain ⟨k, rfl⟩ : ∃ q, k = q + 1 := ⟨k - 1, by omega⟩
    have w1 : wrap64 ((i : Int) + 1) = ((i + 1 : Nat) : Int) := by rw [IntWalk.wrap64_in _ (by omega)]; omega
    rw [satchellaw03_kept.l0, if_pos (by clear w1; rw [List.length_append, marks_len]; omega), rd_nat', rd_nat', w1]
    clear w1
    by_cases c : i < b.length
    · have e : (b ++ marks 32).getD i 0 = b.getD i 0 := by
        rw [List.getD_eq_getElem?_getD, List.getD_eq_getElem?_getD, List.getElem?_append_left c]
      rw [if_pos (by omega), if_pos (by omega), e, if_pos rfl, if_neg (by omega)]
      exact ih k (i + 1) (by omega) (by omega)
    · have e : (b ++ marks 32).getD i 0 = 171 + ((i - b.length : Nat) : Int) := by
        rw [List.getD_eq_getElem?_getD, List.getElem?_append_right (by omega), ← List.getD_eq_getElem?_getD, marks_at _ (by omega)]
      have w2 : wrap64 (171 + (i : Int)) = 171 + (i : Int) := IntWalk.wrap64_in _ (by omega)
      have w3 : wrap64 (171 + (i : Int) - (b.length : Int)) = 171 + ((i - b.length : Nat) : Int) := by clear w2; rw [IntWalk.wrap64_in _ (by omega)]; omega
      rw [if_neg (by clear w2 w3; omega), if_pos (by clear w2 w3; omega), if_pos (by clear w2 w3; omega), e, w2, w3]
      clear w2 w3
      rw [if_pos (by omega)]
      exact ih k (i + 1) (by omega) (by omega)
theorem kept_f (b : List Int) (hl : b.length ≤ 140737488355327) : satchellaw03_kept.f (b.length + 33) (b ++ marks 32) b = some true := kept_l0 b hl (b.length + 32) _ 0 (by omega) (by omega)
theorem same_l0 (b : List Int) (hl : b.length ≤ 140737488355327) : ∀ (j k i : Nat), i + j = b.length → j < k → satchellaw03_same.l0 k b b (i : Int) = some true := by
  intro j
  induction j with
  | zero =>
    intro k i hi hk
    obtain ⟨k, rfl⟩ : ∃ q, k = q + 1 := ⟨k - 1, by omega⟩
    rw [satchellaw03_same.l0, if_neg (by omega)]
  | succ j ih =>
    intro k i hi hk
    obtain ⟨k, rfl⟩ : ∃ q, k = q + 1 := ⟨k - 1, by omega⟩
    have w1 : wrap64 ((i : Int) + 1) = ((i + 1 : Nat) : Int) := by rw [IntWalk.wrap64_in _ (by omega)]; omega
    rw [satchellaw03_same.l0, w1]
    clear w1
    rw [if_pos (by omega), if_pos (by omega), if_pos (by omega), if_pos rfl]
    exact ih k (i + 1) (by omega) (by omega)
theorem same_f (b : List Int) (hl : b.length ≤ 140737488355327) : satchellaw03_same.f (b.length + 1) b b = some true := by
  unfold satchellaw03_same.f
  rw [if_pos rfl]
  exact same_l0 b hl b.length _ 0 (by omega) (by omega)
theorem full_l1 (x1 : Int) : ∀ (j k i : Nat) (l : List Int), i + j = 90 → j < k → l.length + j ≤ 140737488355327 → satchellaw03_full.l1 k l x1 (i : Int) = some () := by
  intro j
  induction j with
  | zero =>
    intro k i l hi hk hl
    obtain ⟨k, rfl⟩ : ∃ q, k = q + 1 := ⟨k - 1, by omega⟩
    rw [satchellaw03_full.l1, if_neg (by omega)]
  | succ j ih =>
    intro k i l hi hk hl
    obtain ⟨k, rfl⟩ : ∃ q, k = q + 1 := ⟨k - 1, by omega⟩
    have w1 : wrap64 ((i : Int) + 1) = ((i + 1 : Nat) : Int) := by rw [IntWalk.wrap64_in _ (by omega)]; omega
    rw [satchellaw03_full.l1, w1]
    clear w1
    rw [if_pos (by omega), if_pos (by omega)]
    exact ih k (i + 1) _ (by omega) (by omega) (by rw [List.length_append]; simp; omega)
theorem full_l0 (x1 : Int) : ∀ (j k i : Nat) (l : List Int), i + j = l.length → j + 91 < k → l.length + 90 ≤ 140737488355327 → satchellaw03_full.l0 k l x1 (i : Int) = some () := by
  intro j
  induction j with
  | zero =>
    intro k i l hi hk hl
    obtain ⟨k, rfl⟩ : ∃ q, k = q + 1 := ⟨k - 1, by omega⟩
    rw [satchellaw03_full.l0, if_neg (by omega)]
    exact full_l1 x1 90 k 0 l (by omega) (by omega) hl
  | succ j ih =>
    intro k i l hi hk hl
    obtain ⟨k, rfl⟩ : ∃ q, k = q + 1 := ⟨k - 1, by omega⟩
    have w1 : wrap64 ((i : Int) + 1) = ((i + 1 : Nat) : Int) := by rw [IntWalk.wrap64_in _ (by omega)]; omega
    rw [satchellaw03_full.l0, w1]
    clear w1
    rw [if_pos (by omega), if_pos (by omega)]
    exact ih k (i + 1) _ (by rw [List.length_set]; omega) (by omega) (by rw [List.length_set]; exact hl)
theorem full_f (l : List Int) (x1 : Int) (hl : l.length + 90 ≤ 140737488355327) : satchellaw03_full.f (l.length + 92) l x1 = some () := full_l0 x1 l.length _ 0 l (by omega) (by omega) hl
end Go.Proofs.Ytnomebkdhjigjaa.W
