/- Volumes, plain: the bytes of a volume: put; the document's sum and numbers. -/
import Derived.Test.YtnkcbkfccbfjpaaVp
import Derived.Test.YtnkcbkfccbfjpaaVi
import Derived.Test.YtnkcbkfccbfjpaaVc
namespace Go.Proofs.Ytnkcbkfccbfjpaa.XxhW
open Go.RowKit Go.Proofs.Ytnkcbkfccbfjpaa.QVolumesCuts Go.Proofs.YtnkcbkfccbfjpaaW.PrintWords Go.Proofs.YtnkcbkfccbfjpaaW.PrintLast Go.Proofs.YtnkcbkfccbfjpaaW.PrintMore
set_option linter.unusedVariables false
set_option linter.unusedSimpArgs false
/-- A number of 64 bits without sign. -/
def W64u (a : Int) : Prop := 0 ≤ a ∧ a < 18446744073709551616
theorem wrap_u64 {x : Int} (h : W64u x) : IntKind.u64.wrap x = x := by
  show x % 18446744073709551616 = x
  exact Int.emod_eq_of_lt h.1 h.2
theorem nat64 (n : Nat) (h : n ≤ 4611686018427387904) : W64u (n : Int) := ⟨by omega, by omega⟩
/-! ### a number's bytes, the document's way -/
theorem num_l0 (a : Int) (ha : W64u a) (m : Nat) (hm : m ≤ 8) : ∀ (j k i : Nat), i + j = m → j < k → satchelref27_number.l0 k (a / 2 ^ (8 * i)) (m : Int) (lowL a i) (i : Int) = some (lowL a m) := by
  intro j
  induction j with
  | zero =>
    intro k i hi hk
    obtain ⟨k, rfl⟩ : ∃ q, k = q + 1 := ⟨k - 1, by omega⟩
    rw [satchelref27_number.l0, if_neg (by omega), show i = m by omega]
  | succ j ih =>
    intro k i hi hk
    obtain ⟨k, rfl⟩ : ∃ q, k = q + 1 := ⟨k - 1, by omega⟩
    have hp : (0 : Int) < 2 ^ (8 * i) := Int.pow_pos (by decide)
    have hq0 : 0 ≤ a / 2 ^ (8 * i) := Int.ediv_nonneg ha.1 (by omega)
    have hq1 : a / 2 ^ (8 * i) ≤ a := Int.ediv_le_self _ ha.1
    have hq2 : a / 2 ^ (8 * i) / 256 = a / 2 ^ (8 * (i + 1)) := by
      rw [Int.ediv_ediv_of_nonneg (by omega), show 8 * (i + 1) = 8 * i + 8 by omega, Int.pow_add]
      rfl
    have hw : W64u (a / 2 ^ (8 * i) / 256) := by
      have := ha.2
      constructor <;> omega
    have e1 : Int.tdiv (a / 2 ^ (8 * i)) 256 = a / 2 ^ (8 * i) / 256 := Int.tdiv_eq_ediv_of_nonneg hq0
    have e2 : Int.tmod (a / 2 ^ (8 * i)) 256 % 256 = a / 2 ^ (8 * i) % 256 := by rw [Int.tmod_eq_emod_of_nonneg hq0]; omega
    rw [satchelref27_number.l0, if_pos (by omega), if_pos (by rw [lowL_len]; omega), e1, e2, wrap_u64 hw, hq2, ← lowL_succ, wrap_succ _ (by omega)]
    exact ih k (i + 1) (by omega) (by omega)
theorem num_f (k : Nat) (a : Int) (m : Nat) (ha : W64u a) (hm : m ≤ 8) (hk : m < k) : satchelref27_number.f k a (m : Int) = some (lowL a m) := by
  have h := num_l0 a ha m hm m k 0 (by omega) hk
  rw [show (8 * 0 : Nat) = 0 from rfl, Int.pow_zero, Int.ediv_one] at h
  exact h
/-! ### the sum, the document's way -/
theorem rs_l1 (l : List Int) (i : Nat) (hi : i < 1000000000) : ∀ (j k q : Nat) (c : Int), q + j = 8 → 0 ≤ c ∧ c < 4294967296 → satchelref08_Sum.l1 (k + j + 1) l c (i : Int) (q : Int) = satchelref08_Sum.l0 k l (stepN j c) ((i + 1 : Nat) : Int) := by
  intro j
  induction j with
  | zero =>
    intro k q c hq hc
    rw [satchelref08_Sum.l1, if_neg (by omega), wrap_succ _ (by omega)]
    rfl
  | succ j ih =>
    intro k q c hq hc
    rw [show k + (j + 1) + 1 = (k + j + 1) + 1 by omega, satchelref08_Sum.l1, if_pos (by omega), Int.tmod_eq_emod_of_nonneg hc.1, wrap_succ _ (by omega)]
    have e : stepN (j + 1) c = stepN j (stepC c) := rfl
    rw [e, ← ih k (q + 1) (stepC c) (by omega) (stepC_in hc)]
    unfold stepC
    split <;> rfl
theorem rs_l0 (l : List Int) (hl : l.length ≤ 100000000) : ∀ (j k i : Nat) (c : Int), i + j = l.length → 10 * j < k → 0 ≤ c ∧ c < 4294967296 → satchelref08_Sum.l0 k l c (i : Int) = some (Go.bits .xor .u32 (crcL (l.drop i) c) 4294967295) := by
  intro j
  induction j with
  | zero =>
    intro k i c hi hk hc
    obtain ⟨k, rfl⟩ : ∃ q, k = q + 1 := ⟨k - 1, by omega⟩
    rw [satchelref08_Sum.l0, if_neg (by omega), List.drop_eq_nil_of_le (by omega)]
    rfl
  | succ j ih =>
    intro k i c hi hk hc
    obtain ⟨k, rfl⟩ : ∃ q, k = (q + 8 + 1) + 1 := ⟨k - 10, by omega⟩
    rw [satchelref08_Sum.l0, if_pos (by omega), if_pos (by omega), rd_at]
    have h1 := rs_l1 l i (by omega) 8 k 0 (Go.bits .xor .u32 c (l.getD i 0 % 4294967296)) rfl (xor32_in _ _)
    rw [show ((0 : Nat) : Int) = 0 from rfl] at h1
    rw [h1, ih k (i + 1) _ (by omega) (by omega) (stepN_in 8 (xor32_in _ _)), List.drop_eq_getElem_cons (show i < l.length by omega), crcL, List.getD_eq_getElem?_getD, List.getElem?_eq_getElem (show i < l.length by omega), Option.getD_some]
theorem rs_f (k : Nat) (l : List Int) (hl : l.length ≤ 100000000) (hk : 10 * l.length < k) : satchelref08_Sum.f k l = some (crc l) := by
  have h := rs_l0 l hl l.length k 0 4294967295 (by omega) hk (by decide)
  rw [List.drop_zero] at h
  exact h
/-! ### a volume's bytes -/
def magicL : List Int := [83, 65, 84, 67, 72, 86, 79, 76]
def headP (set num cnt flag whole at_ size : Int) (b : List Int) : List Int :=
  magicL ++ lowL set 8 ++ lowL num 4 ++ lowL cnt 4 ++ lowL flag 4 ++ lowL whole 8 ++ lowL at_ 8 ++ lowL size 8 ++ lowL (crc b) 4 ++ lowL 0 4
def volP (set num cnt flag whole at_ size : Int) (b : List Int) : List Int := headP set num cnt flag whole at_ size b ++ lowL (crc (headP set num cnt flag whole at_ size b)) 4 ++ b
theorem headP_len (set num cnt flag whole at_ size : Int) (b : List Int) : (headP set num cnt flag whole at_ size b).length = 60 := by
  unfold headP magicL
  simp only [List.length_append, lowL_len, List.length_cons, List.length_nil]
theorem volP_len (set num cnt flag whole at_ size : Int) (b : List Int) : (volP set num cnt flag whole at_ size b).length = 64 + b.length := by
  unfold volP
  simp only [List.length_append, lowL_len, headP_len]
theorem crc64 (l : List Int) : W64u (crc l) := ⟨(crc_in l).1, by have := (crc_in l).2; omega⟩
theorem put_f (k : Nat) (set num cnt whole at_ size : Int) (fl : Bool) (b : List Int) (hs : W64u set) (h1 : W64u num) (h2 : W64u cnt) (h3 : W64u whole) (h4 : W64u at_) (h5 : W64u size) (hb : b.length ≤ 10000000) (hk : 10 * b.length + 1000 < k) :
    volumes_volume_put.f k set num cnt fl whole at_ size b = some (volP set num cnt (if fl = true then 1 else 0) whole at_ size b) := by
  obtain ⟨k, rfl⟩ : ∃ q, k = q + 1 := ⟨k - 1, by omega⟩
  have L : ∀ (l : List Int) (a : Int), l.length ≤ 1000 → volumes_low.f k l a 8 = some (l ++ lowL a 8) := fun l a h => low_f k l a 8 (by decide) (by omega) (by omega)
  have L4 : ∀ (l : List Int) (a : Int), l.length ≤ 1000 → volumes_low.f k l a 4 = some (l ++ lowL a 4) := fun l a h => low_f k l a 4 (by decide) (by omega) (by omega)
  have key : ∀ flag : Int, W64u flag → volumes_volume_put.j0 (k + 1) flag set num cnt fl whole at_ size b = some (volP set num cnt flag whole at_ size b) := by
    intro flag hf
    have hmag : magicL.length = 8 := rfl
    rw [volumes_volume_put.j0, wrap_u64 h1, wrap_u64 h2, wrap_u64 hf, wrap_u64 h3, wrap_u64 h4, wrap_u64 h5, show ([83, 65, 84, 67, 72, 86, 79, 76] : List Int) = magicL from rfl,
      L _ _ (by omega), Option.bind_some, L4 _ _ (by simp only [List.length_append, lowL_len]; omega), Option.bind_some, L4 _ _ (by simp only [List.length_append, lowL_len]; omega), Option.bind_some, L4 _ _ (by simp only [List.length_append, lowL_len]; omega), Option.bind_some,
      L _ _ (by simp only [List.length_append, lowL_len]; omega), Option.bind_some, L _ _ (by simp only [List.length_append, lowL_len]; omega), Option.bind_some, L _ _ (by simp only [List.length_append, lowL_len]; omega), Option.bind_some, gz_f k b (by omega) (by omega), Option.bind_some, wrap_u64 (crc64 b),
      L4 _ _ (by simp only [List.length_append, lowL_len]; omega), Option.bind_some, L4 _ _ (by simp only [List.length_append, lowL_len]; omega), Option.bind_some]
    have e : magicL ++ lowL set 8 ++ lowL num 4 ++ lowL cnt 4 ++ lowL flag 4 ++ lowL whole 8 ++ lowL at_ 8 ++ lowL size 8 ++ lowL (crc b) 4 ++ lowL 0 4 = headP set num cnt flag whole at_ size b := rfl
    rw [e]
    have hl := headP_len set num cnt flag whole at_ size b
    rw [gz_f k _ (by omega) (by omega), Option.bind_some, wrap_u64 (crc64 _), L4 _ _ (by omega), Option.bind_some, if_pos (by rw [List.length_append, lowL_len]; omega)]
    rfl
  unfold volumes_volume_put.f
  cases fl with
  | true => rw [if_pos rfl, if_pos rfl]; exact key 1 ⟨by decide, by decide⟩
  | false => rw [if_neg (by decide), if_neg (by decide)]; exact key 0 ⟨by decide, by decide⟩
/-! ### the spare one, the document's way -/
def xorR (o p : List Int) : List Int := xorG p.length 0 o p
theorem xorR_len (o p : List Int) : (xorR o p).length = o.length := xorG_len _ _ _ _
theorem rdL_at (l : List (List Int)) (i : Nat) : rd_L1 l (i : Int) = l.getD i [] := by simp [rd_L1]
end Go.Proofs.Ytnkcbkfccbfjpaa.XxhW
