/- Volumes, plain: a number out of its bytes, the lowest first. -/
import Derived.Test.YtnkcbkfccbfjpaaVx
import Derived.Test.YtnkcbkfccbfjpaaVq
namespace Go.Proofs.Ytnkcbkfccbfjpaa.XxhW
open Go.RowKit Go.Proofs.Ytnkcbkfccbfjpaa.QVolumesCuts Go.Proofs.YtnkcbkfccbfjpaaW.PrintWords Go.Proofs.YtnkcbkfccbfjpaaW.PrintLast Go.Proofs.YtnkcbkfccbfjpaaW.PrintMore
set_option linter.unusedVariables false
set_option linter.unusedSimpArgs false
def numP (l : List Int) : Nat → Int
  | 0 => 0
  | i + 1 => numP l i + l.getD i 0 * 2 ^ (8 * i)
theorem numP_in (l : List Int) (hb : ∀ q, 0 ≤ l.getD q 0 ∧ l.getD q 0 < 256) : ∀ i, 0 ≤ numP l i ∧ numP l i < 2 ^ (8 * i)
  | 0 => ⟨Int.le_refl _, show (0 : Int) < 2 ^ (8 * 0) by decide⟩
  | i + 1 => by
    have h := numP_in l hb i
    have hq := hb i
    have hp : (0 : Int) < 2 ^ (8 * i) := Int.pow_pos (by decide)
    have e : (2 : Int) ^ (8 * (i + 1)) = 2 ^ (8 * i) * 256 := by rw [show 8 * (i + 1) = 8 * i + 8 by omega, Int.pow_add]; rfl
    have h1 : 0 ≤ l.getD i 0 * 2 ^ (8 * i) := Int.mul_nonneg hq.1 (by omega)
    have h2 : l.getD i 0 * 2 ^ (8 * i) ≤ 255 * 2 ^ (8 * i) := Int.mul_le_mul_of_nonneg_right (by omega) (by omega)
    show 0 ≤ numP l i + l.getD i 0 * 2 ^ (8 * i) ∧ numP l i + l.getD i 0 * 2 ^ (8 * i) < 2 ^ (8 * (i + 1))
    rw [e]
    generalize l.getD i 0 * 2 ^ (8 * i) = z at *
    generalize (2 : Int) ^ (8 * i) = p at *
    omega
theorem or_add (n y i : Nat) (h : n < 2 ^ i) : n ||| y * 2 ^ i = n + y * 2 ^ i := by
  rw [Nat.mul_comm, Nat.or_comm, ← Nat.two_pow_add_eq_or_of_lt h, Nat.add_comm]
theorem nm_l0 (l : List Int) (m : Nat) (hm : m ≤ 8) (hml : m ≤ l.length) (hb : ∀ q, 0 ≤ l.getD q 0 ∧ l.getD q 0 < 256) : ∀ (j k i : Nat), i + j = m → j < k → volumes_number.l0 k l (numP l i) (m : Int) (i : Int) = some (numP l m) := by
  intro j
  induction j with
  | zero =>
    intro k i hi hk
    obtain ⟨k, rfl⟩ : ∃ q, k = q + 1 := ⟨k - 1, by omega⟩
    rw [volumes_number.l0, if_neg (by omega), show i = m by omega]
  | succ j ih =>
    intro k i hi hk
    obtain ⟨k, rfl⟩ : ∃ q, k = q + 1 := ⟨k - 1, by omega⟩
    have hq := hb i
    have hn := numP_in l hb i
    have hn1 := numP_in l hb (i + 1)
    have hn1' : numP l (i + 1) = numP l i + l.getD i 0 * 2 ^ (8 * i) := rfl
    have hpw : (2 : Int) ^ (8 * (i + 1)) ≤ 2 ^ 64 := by
      have : 2 ^ (8 * (i + 1)) ≤ 2 ^ 64 := Nat.pow_le_pow_right (by decide) (by omega)
      exact_mod_cast this
    have h64 : (2 : Int) ^ 64 = 18446744073709551616 := by decide
    have h1 : 0 ≤ l.getD i 0 * 2 ^ (8 * i) := Int.mul_nonneg hq.1 (Int.le_of_lt (Int.pow_pos (by decide)))
    have w1 := Aside0.mk (show wrap64 (8 * (i : Int)) = 8 * (i : Int) from IntWalk.wrap64_in _ (by omega))
    have e1 : IntKind.u64.wrap (rd l (i : Int)) = l.getD i 0 := by rw [rd_at]; exact wrap_u64 ⟨hq.1, by omega⟩
    have e2 : shl .u64 (l.getD i 0) (8 * (i : Int)) = l.getD i 0 * 2 ^ (8 * i) := by
      unfold shl
      rw [show min (8 * (i : Int)).toNat IntKind.u64.bits = 8 * i by
        rw [show (8 * (i : Int)).toNat = 8 * i by omega, show IntKind.u64.bits = 64 from rfl]
        omega]
      exact wrap_u64 ⟨h1, by omega⟩
    have e3 : Go.bits .or .u64 (numP l i) (l.getD i 0 * 2 ^ (8 * i)) = numP l (i + 1) := by
      rw [Go.u64_or _ _ hn.1 (by omega) h1 (by omega)]
      obtain ⟨N, hN⟩ := Int.eq_ofNat_of_zero_le hn.1
      obtain ⟨Y, hY⟩ := Int.eq_ofNat_of_zero_le hq.1
      have hNl : N < 2 ^ (8 * i) := by
        have h := hn.2
        rw [hN] at h
        exact_mod_cast h
      have eY : (l.getD i 0 * 2 ^ (8 * i)).toNat = Y * 2 ^ (8 * i) := by
        rw [hY]
        have : ((Y : Int) * 2 ^ (8 * i)) = ((Y * 2 ^ (8 * i) : Nat) : Int) := by push_cast; rfl
        rw [this, Int.toNat_natCast]
      rw [hn1', eY, hN, Int.toNat_natCast, or_add N Y (8 * i) hNl, hY]
      push_cast
      rfl
    rw [volumes_number.l0, if_pos (by omega), if_pos (by omega), if_pos (by omega), w1.out, if_pos (by omega), e1, e2, e3, wrap_succ _ (by omega)]
    exact ih k (i + 1) (by omega) (by omega)
theorem nm_f (k : Nat) (l : List Int) (m : Nat) (hm : m ≤ 8) (hml : m ≤ l.length) (hb : ∀ q, 0 ≤ l.getD q 0 ∧ l.getD q 0 < 256) (hk : m < k) : volumes_number.f k l (m : Int) = some (numP l m) := nm_l0 l m hm hml hb m k 0 (by omega) hk
/-- The number of a number's bytes. -/
theorem numP_low (a : Int) (ha : 0 ≤ a) (m : Nat) (r : List Int) : ∀ i, i ≤ m → numP (lowL a m ++ r) i = a % 2 ^ (8 * i)
  | 0, _ => by rw [show 8 * 0 = 0 from rfl, Int.pow_zero, Int.emod_one]; rfl
  | i + 1, h => by
    have hg : (lowL a m ++ r).getD i 0 = a / 2 ^ (8 * i) % 256 := by
      rw [List.getD_eq_getElem?_getD, List.getElem?_append_left (by rw [lowL_len]; omega)]
      simp [lowL, show i < m by omega]
    have hp : (0 : Int) < 2 ^ (8 * i) := Int.pow_pos (by decide)
    have e : (2 : Int) ^ (8 * (i + 1)) = 2 ^ (8 * i) * 256 := by rw [show 8 * (i + 1) = 8 * i + 8 by omega, Int.pow_add]; rfl
    show numP (lowL a m ++ r) i + (lowL a m ++ r).getD i 0 * 2 ^ (8 * i) = _
    rw [numP_low a ha m r i (by omega), hg, e]
    generalize (2 : Int) ^ (8 * i) = p at *
    have h1 := Int.mul_ediv_add_emod a p
    have h2 := Int.mul_ediv_add_emod (a / p) 256
    have h3 : a / p / 256 = a / (p * 256) := Int.ediv_ediv_of_nonneg (by omega)
    have h4 := Int.mul_ediv_add_emod a (p * 256)
    rw [← h3] at h4
    have h5 : p * 256 * (a / p / 256) = p * (256 * (a / p / 256)) := Int.mul_assoc _ _ _
    have h6 : p * (a / p) = p * (256 * (a / p / 256)) + p * (a / p % 256) := by rw [← Int.mul_add, h2]
    rw [Int.mul_comm (a / p % 256) p]
    omega
end Go.Proofs.Ytnkcbkfccbfjpaa.XxhW
