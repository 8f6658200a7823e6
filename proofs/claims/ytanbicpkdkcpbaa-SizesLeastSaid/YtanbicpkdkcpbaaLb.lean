/- The statement SizesLeast, about numbers alone: Up is the least multiple that is not below, and a product by whole steps is a sum; at all numbers of the arguments' kinds. No condition. -/
import Derived.Test.YtanbicpkdkcpbaaLa
import Derived.OpenShut
namespace Go.Proofs.Ytanbicpkdkcpbaa.Pure
open Go.RowKit Go.Proofs.Ytanbicpkdkcpbaa.PSizesLeast Go.Proofs.YtanbicpkdkcpbaaW.PrintWords Go.Proofs.YtanbicpkdkcpbaaW.PrintLast
set_option linter.unusedVariables false
namespace Least

theorem wrap_id {x : Int} (h0 : -9223372036854775808 ≤ x) (h1 : x ≤ 9223372036854775807) : wrap64 x = x := by unfold wrap64; omega

theorem add_neg (m : Nat) (a b : Int) (h : b < 0) : sizes_Add.f (m + 1) a b = some (0, 1) := by
  simp only [sizes_Add.f, sizes_Add.j0, h, decide_true, if_true]; split <;> rfl
theorem add_val (m : Nat) (a b : Int) (h0 : 0 ≤ a) (h1 : 0 ≤ b) (h2 : b ≤ 9223372036854775807) (h3 : a ≤ 9223372036854775807) :
    sizes_Add.f (m + 1) a b = some (if a + b ≤ 9223372036854775807 then (a + b, 0) else (0, 10)) := by
  have e1 : ¬ a < 0 := by omega
  have e2 : ¬ b < 0 := by omega
  have e3 : wrap64 (9223372036854775807 - b) = 9223372036854775807 - b := wrap_id (by omega) (by omega)
  simp only [sizes_Add.f, sizes_Add.j0, e1, e2, decide_false, Bool.false_eq_true, if_false, e3]
  by_cases h : a + b ≤ 9223372036854775807
  · rw [if_neg (by omega), if_pos h, wrap_id (by omega) h]
  · rw [if_pos (by omega), if_neg h]
theorem mul_neg (m : Nat) (a b : Int) (h : a < 0) : sizes_Mul.f (m + 1) a b = some (0, 1) := by
  simp only [sizes_Mul.f, sizes_Mul.j0, h, if_true]
theorem mul_val (m : Nat) (a b : Int) (h0 : 0 ≤ a) (h1 : 0 ≤ b) (h3 : a ≤ 9223372036854775807) :
    sizes_Mul.f (m + 1) a b = some (if a * b ≤ 9223372036854775807 then (a * b, 0) else (0, 10)) := by
  have e1 : ¬ a < 0 := by omega
  have e2 : ¬ b < 0 := by omega
  have hm : 0 ≤ a * b := Int.mul_nonneg h0 h1
  simp only [sizes_Mul.f, sizes_Mul.j0, e1, e2, decide_false, Bool.false_eq_true, if_false]
  by_cases hb : b > 0
  · rw [if_pos hb, if_neg (by omega)]
    have hd : Int.tdiv 9223372036854775807 b = 9223372036854775807 / b := Int.tdiv_eq_ediv_of_nonneg (by omega)
    have hd0 : 0 ≤ (9223372036854775807 : Int) / b := Int.ediv_nonneg (by omega) h1
    have hd1 : (9223372036854775807 : Int) / b ≤ 9223372036854775807 := Int.ediv_le_self _ (by omega)
    rw [hd, wrap_id (by omega) hd1]
    have key : (9223372036854775807 : Int) / b < a ↔ 9223372036854775807 < a * b := Int.ediv_lt_iff_lt_mul hb
    by_cases h : a * b ≤ 9223372036854775807
    · rw [if_neg (by intro q; have := key.1 q; omega), if_pos h, wrap_id (by omega) h]
    · rw [if_pos (key.2 (by omega)), if_neg h]
  · obtain rfl : b = 0 := by omega
    rw [if_neg hb, if_pos (by omega), wrap_id (by omega) (by omega)]

theorem up_bad (m : Nat) (n u : Int) (h : n < 0 ∨ u < 1) : sizes_Up.f (m + 2) n u = some (0, 1) := by
  simp only [sizes_Up.f, sizes_Up.j0]
  by_cases h1 : n < 0
  · rw [if_pos h1]; rfl
  · have h2 : u < 1 := by omega
    rw [if_neg h1]; simp [h2]
theorem up_val (m : Nat) (n u : Int) (h0 : 0 ≤ n) (h1 : 1 ≤ u) (h2 : n ≤ 9223372036854775807) (h3 : u ≤ 9223372036854775807) :
    sizes_Up.f (m + 2) n u = some (if n % u = 0 then (n, 0) else if n + (u - n % u) ≤ 9223372036854775807 then (n + (u - n % u), 0) else (0, 10)) := by
  have e1 : ¬ n < 0 := by omega
  have e2 : ¬ u < 1 := by omega
  have e3 : ¬ u = 0 := by omega
  have ht : Int.tmod n u = n % u := Int.tmod_eq_emod_of_nonneg h0
  have hr0 : 0 ≤ n % u := Int.emod_nonneg _ (by omega)
  have hr1 : n % u < u := Int.emod_lt_of_pos _ (by omega)
  simp only [sizes_Up.f, sizes_Up.j0, e1, e2, e3, decide_false, Bool.false_eq_true, if_false, ht]
  by_cases h : n % u = 0
  · rw [if_pos h, if_pos h]
  · rw [if_neg h, if_neg h, wrap_id (by omega) (by omega), add_val m _ _ h0 (by omega) (by omega) h2]
    simp only [Option.bind_some]

theorem up_one (m : Nat) : sizes_Up.f (m + 2) 1 512 = some (512, 0) := by
  rw [up_val m 1 512 (by omega) (by omega) (by omega) (by omega)]; simp

theorem end_true (m : Nat) (n e p f s g : Int) (hn : 0 ≤ n) (h : (f = 0 ∧ g = 0 ∧ p = s) ∨ (f ≠ 0 ∧ g ≠ 0)) : satchellaw01_SizesLeast.j2 (m + 3) n e p f s g = some true := by
  have e1 : ¬ n < 0 := by omega
  simp only [satchellaw01_SizesLeast.j2, e1, if_false, up_one m, Option.bind_some]
  rcases h with ⟨rfl, rfl, rfl⟩ | ⟨h1, h2⟩
  · simp
  · simp [h1, h2]

theorem loop_true (n t e p f : Int) (hn : 0 ≤ n) (hn1 : n ≤ 9223372036854775807) (ht : 0 ≤ t) (ht1 : t ≤ 255)
    (hpf : (p, f) = if n * t ≤ 9223372036854775807 then (n * t, 0) else (0, 10)) (d : Nat) :
    ∀ (k : Nat) (i : Int), 0 ≤ i → i ≤ t → t - i = d → n * i ≤ 9223372036854775807 → d + 4 < k → satchellaw01_SizesLeast.l0 k n t e p f (n * i) 0 i = some true := by
  induction d with
  | zero =>
    intro k i h0 h1 hd hs hk
    obtain ⟨k, rfl⟩ : ∃ m, k = m + 4 := ⟨k - 4, by omega⟩
    obtain rfl : i = t := by omega
    rw [if_pos hs] at hpf
    obtain ⟨rfl, rfl⟩ := Prod.mk.inj hpf
    rw [satchellaw01_SizesLeast.l0]
    rw [wrap_id (by omega) (by omega), if_neg (by omega)]
    exact end_true _ _ _ _ _ _ _ hn (.inl ⟨rfl, rfl, rfl⟩)
  | succ d ih =>
    intro k i h0 h1 hd hs hk
    obtain ⟨k, rfl⟩ : ∃ m, k = m + 4 := ⟨k - 4, by omega⟩
    have hs0 : 0 ≤ n * i := Int.mul_nonneg hn h0
    have hsum : n * (i + 1) = n * i + n := by rw [Int.mul_add, Int.mul_one]
    rw [satchellaw01_SizesLeast.l0]
    rw [wrap_id (x := t) (by omega) (by omega), if_pos (by omega), if_pos rfl, add_val _ _ _ hs0 hn hn1 hs, wrap_id (x := i + 1) (by omega) (by omega)]
    simp only [Option.bind_some]
    by_cases h : n * i + n ≤ 9223372036854775807
    · rw [if_pos h]
      dsimp only
      rw [← hsum]
      exact ih (k + 3) (i + 1) (by omega) (by omega) (by omega) (by omega) (by omega)
    · rw [if_neg h]
      have hbig : n * (i + 1) ≤ n * t := Int.mul_le_mul_of_nonneg_left (by omega) hn
      rw [if_neg (by omega)] at hpf
      obtain ⟨rfl, rfl⟩ := Prod.mk.inj hpf
      obtain ⟨k, rfl⟩ : ∃ m, k = m + 1 := ⟨k - 1, by omega⟩
      rw [satchellaw01_SizesLeast.l0]
      have hend : ∀ m, satchellaw01_SizesLeast.j2 (m + 3) n e 0 10 0 10 = some true := fun m => end_true m _ _ _ _ _ _ hn (.inr ⟨by omega, by omega⟩)
      simp only [show ¬ ((10 : Int) = 0) by omega, if_false, hend, ite_self]

theorem loop_neg (n t e p f : Int) (hn : n < 0) (ht : 0 ≤ t) (ht1 : t ≤ 255) (he : e = 1) (hf : f = 1) (k : Nat) :
    satchellaw01_SizesLeast.l0 (k + 4) n t e p f 0 0 0 = some true := by
  have hend : ∀ m s g, satchellaw01_SizesLeast.j2 (m + 1) n e p f s g = some true := by
    intro m s g; simp only [satchellaw01_SizesLeast.j2, hn, he, hf, if_true]; simp
  rw [satchellaw01_SizesLeast.l0, add_neg _ _ _ hn]
  simp only [Option.bind_some, if_true, hend]
  rw [satchellaw01_SizesLeast.l0]
  simp only [hend, show ¬ ((1 : Int) = 0) by omega, if_false, ite_self]

theorem fine (n t e p f : Int) (k : Nat) (hn1 : n ≤ 9223372036854775807) (ht : 0 ≤ t) (ht1 : t ≤ 255) (hneg : n < 0 → e = 1)
    (hmul : sizes_Mul.f 300 n t = some (p, f)) : satchellaw01_SizesLeast.l0 300 n t e p f 0 0 0 = some true := by
  by_cases hn : n < 0
  · rw [mul_neg 299 n t hn] at hmul
    obtain ⟨rfl, rfl⟩ := Prod.mk.inj (Option.some.inj hmul)
    exact loop_neg n t e _ _ hn ht ht1 (hneg hn) rfl 296
  · rw [mul_val 299 n t (by omega) ht hn1] at hmul
    have := loop_true n t e p f (by omega) hn1 ht ht1 (Option.some.inj hmul).symm t.toNat 300 0 (by omega) ht (by omega) (by omega) (by omega)
    simpa using this

theorem j0_fine (n t e : Int) (hn1 : n ≤ 9223372036854775807) (ht : 0 ≤ t) (ht1 : t ≤ 255) (hneg : n < 0 → e = 1) :
    satchellaw01_SizesLeast.j0 301 n t e false = some true := by
  obtain ⟨⟨p, f⟩, hpf⟩ : ∃ x, sizes_Mul.f 300 n t = some x := by
    by_cases hn : n < 0
    · exact ⟨_, mul_neg 299 n t hn⟩
    · exact ⟨_, mul_val 299 n t (by omega) ht hn1⟩
  simp only [satchellaw01_SizesLeast.j0]
  rw [wrap_id (x := t) (by omega) (by omega), hpf]
  exact fine n t e p f 300 hn1 ht ht1 hneg hpf
end Least

open Least in
theorem SizesLeast : satchellaw01_SizesLeast.Pure := by
  intro n u t w0 w1 w2
  have b0 := bounds_i64 w0
  have b1 := bounds_i64 w1
  have b2 := bounds_u8 w2
  refine ⟨301, ?_⟩
  have J := fun e (he : n < 0 → e = 1) => j0_fine n t e b0.2 b2.1 b2.2 he
  unfold satchellaw01_SizesLeast.f
  by_cases h : n < 0 ∨ u < 1
  · rw [up_bad 299 n u h]
    simp only [Option.bind_some]
    rw [if_neg (by omega)]
    exact J 1 (fun _ => rfl)
  · have hn : 0 ≤ n := by omega
    have hu : 1 ≤ u := by omega
    have hr0 : 0 ≤ n % u := Int.emod_nonneg _ (by omega)
    have hr1 : n % u < u := Int.emod_lt_of_pos _ (by omega)
    rw [up_val 299 n u hn hu b0.2 b1.2]
    simp only [Option.bind_some]
    by_cases h1 : n % u = 0
    · rw [if_pos h1]
      dsimp only
      rw [if_pos rfl, if_neg (by omega), if_neg (by omega), if_pos (by rw [Int.tmod_eq_emod_of_nonneg hn]; exact h1)]
      rw [wrap_id (by omega) (by omega), decide_eq_false (by omega)]
      exact J 0 (fun h => by omega)
    · rw [if_neg h1]
      by_cases h2 : n + (u - n % u) ≤ 9223372036854775807
      · rw [if_pos h2]
        dsimp only
        have hm : (n + (u - n % u)) % u = 0 := by
          have : n + (u - n % u) = u * (n / u + 1) := by
            have := Int.emod_add_mul_ediv n u
            rw [Int.mul_add, Int.mul_one]; omega
          rw [this]; exact Int.mul_emod_right _ _
        rw [if_pos rfl, if_neg (by omega), if_neg (by omega), if_pos (by rw [Int.tmod_eq_emod_of_nonneg (by omega)]; exact hm)]
        rw [wrap_id (by omega) (by omega), decide_eq_false (by omega)]
        exact J 0 (fun h => by omega)
      · rw [if_neg h2]
        dsimp only
        rw [if_neg (by omega)]
        exact J 10 (fun h => by omega)

end Go.Proofs.Ytanbicpkdkcpbaa.Pure
