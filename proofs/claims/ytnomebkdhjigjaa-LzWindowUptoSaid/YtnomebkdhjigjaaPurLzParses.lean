/- How long what Parse tells is: plain facts. -/
import Derived.Test.YtnomebkdhjigjaaLy
import Derived.Test.YtnomebkdhjigjaaAd
namespace Go.Proofs.Ytnomebkdhjigjaa.W
open Go.RowKit Go.Proofs.Ytnomebkdhjigjaa.Z
set_option linter.unusedVariables false
theorem prs_bound (b : List Int) : ∀ (f k : Nat) (L : List S44), (∀ s ∈ L, s.f0.length ≤ b.length) → (∀ s ∈ (prs b f k L).2.2, s.f0.length ≤ b.length) ∧ (prs b f k L).2.2.length ≤ L.length + f := by
  intro f
  induction f with
  | zero => intro k L h; exact ⟨h, Nat.le_refl _⟩
  | succ f ih =>
    intro k L h
    have base : ∀ (x y : Int), (∀ s ∈ (x, y, L).2.2, s.f0.length ≤ b.length) ∧ (x, y, L).2.2.length ≤ L.length + (f + 1) := fun x y => ⟨h, by show L.length ≤ _; omega⟩
    rw [prs]
    by_cases c1 : k = b.length
    · rw [if_pos c1]; exact base _ _
    rw [if_neg c1]
    by_cases c2 : numE b (b.getD k 0 / 16) (k + 1) ≠ 0
    · rw [if_pos c2]; exact base _ _
    rw [if_neg c2]
    by_cases c3 : numS b (b.getD k 0 / 16) (k + 1) > (b.length : Int) - (moreK b (b.getD k 0 / 16) (k + 1) : Nat)
    · rw [if_pos c3]; exact base _ _
    rw [if_neg c3]
    generalize hxs : (b.take (moreK b (b.getD k 0 / 16) (k + 1) + (numS b (b.getD k 0 / 16) (k + 1)).toNat)).drop (moreK b (b.getD k 0 / 16) (k + 1)) = xs
    have hx : xs.length ≤ b.length := by rw [← hxs, List.length_drop, List.length_take]; omega
    have hsn : ∀ (a c : Int) (s : S44), s ∈ L ++ [⟨xs, a, c⟩] → s.f0.length ≤ b.length := fun a c s hs => by
      rcases List.mem_append.1 hs with hs | hs
      · exact h s hs
      · rw [List.mem_singleton.1 hs]; exact hx
    unfold prs.prs2
    split
    · split
      · exact base _ _
      · exact ⟨fun s hs => hsn 0 0 s hs, by show (L ++ [_]).length ≤ _; simp⟩
    · split
      · exact base _ _
      · split
        · exact base _ _
        · split
          · exact base _ _
          · have := ih (moreK b (b.getD k 0 % 16) (moreK b (b.getD k 0 / 16) (k + 1) + (numS b (b.getD k 0 / 16) (k + 1)).toNat + 2)) _ (hsn (b.getD (moreK b (b.getD k 0 / 16) (k + 1) + (numS b (b.getD k 0 / 16) (k + 1)).toNat) 0 + b.getD (moreK b (b.getD k 0 / 16) (k + 1) + (numS b (b.getD k 0 / 16) (k + 1)).toNat + 1) 0 * 256) (numS b (b.getD k 0 % 16) (moreK b (b.getD k 0 / 16) (k + 1) + (numS b (b.getD k 0 / 16) (k + 1)).toNat + 2) + 4))
            refine ⟨this.1, Nat.le_trans this.2 ?_⟩
            simp
            omega
theorem parse_bound (b : List Int) : (∀ s ∈ (parse b).1, s.f0.length ≤ b.length) ∧ (parse b).1.length ≤ b.length + 1 := by
  have h := prs_bound b (b.length + 1) 0 [] (by simp)
  unfold parse
  split
  · exact ⟨by simp, by simp⟩
  · exact ⟨h.1, by simpa using h.2⟩
theorem parse_short (b : List Int) (hb : b.length ≤ 140737488355327) : shortS (parse b).1 = true := by
  unfold shortS
  rw [List.all_eq_true]
  exact fun s hs => decide_eq_true (Nat.le_trans ((parse_bound b).1 s hs) hb)
end Go.Proofs.Ytnomebkdhjigjaa.W
