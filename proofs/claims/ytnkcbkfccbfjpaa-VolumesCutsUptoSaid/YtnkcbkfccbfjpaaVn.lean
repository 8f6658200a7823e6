/- How long a number's bytes are, the document's way. -/
import Derived.Test.YtnkcbkfccbfjpaaVc
import Derived.Test.YtnkcbkfccbfjpaaVh
namespace Go.Proofs.Ytnkcbkfccbfjpaa.XxhW
open Go.RowKit Go.Proofs.Ytnkcbkfccbfjpaa.QVolumesCuts
theorem num_len0 (m : Int) : ∀ (k : Nat) (a : Int) (l t : List Int) (i : Int), 0 ≤ i → m ≤ 1000 → (l.length : Int) = i → i ≤ m → satchelref27_number.l0 k a m l i = some t → (t.length : Int) = m := by
  intro k
  induction k with
  | zero => intro a l t i _ _ _ _ h; simp [satchelref27_number.l0] at h
  | succ k ih =>
    intro a l t i hi hm hl him h
    rw [satchelref27_number.l0] at h
    by_cases c : i < m
    · rw [if_pos c] at h
      have w1 : wrap64 (i + 1) = i + 1 := IntWalk.wrap64_in _ (by omega)
      rw [if_pos (by clear w1; omega), w1] at h
      clear w1
      exact ih _ _ t (i + 1) (by omega) hm (by rw [List.length_append]; simp; omega) (by omega) h
    · rw [if_neg c] at h
      injection h with h
      subst h
      omega
theorem num_len (k : Nat) (a : Int) (t : List Int) (h : satchelref27_number.f k a 8 = some t) : t.length = 8 := by
  have := num_len0 8 k a [] t 0 (by decide) (by decide) rfl (by decide) h
  omega
end Go.Proofs.Ytnkcbkfccbfjpaa.XxhW
