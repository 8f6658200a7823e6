/- Volumes, plain: a number's bytes, the sum (CRC-32), exclusive or upon a list, as functions over lists. -/
import Derived.Test.YtnkcbkfccbfjpaaVb
import Derived.Test.YtnkcbkfccbfjpaaVh
import Derived.Laws.BitsAllLaws
namespace Go.Proofs.Ytnkcbkfccbfjpaa.XxhW
open Go.RowKit Go.Proofs.Ytnkcbkfccbfjpaa.QVolumesCuts Go.Proofs.YtnkcbkfccbfjpaaW.PrintWords Go.Proofs.YtnkcbkfccbfjpaaW.PrintLast Go.Proofs.YtnkcbkfccbfjpaaW.PrintMore
set_option linter.unusedVariables false
set_option linter.unusedSimpArgs false
theorem rd_at (l : List Int) (i : Nat) : rd l (i : Int) = l.getD i 0 := by simp [rd]
theorem wrap_small (x : Nat) (h : x ≤ 9223372036854775807) : wrap64 (x : Int) = (x : Int) := IntWalk.wrap64_in _ (by omega)
theorem wrap_succ (x : Nat) (h : x < 9223372036854775807) : wrap64 ((x : Int) + 1) = ((x + 1 : Nat) : Int) := by rw [IntWalk.wrap64_in _ (by omega)]; omega
/-! ### a number's bytes -/
theorem low_l0 (a : Int) (m : Nat) (hm : m ≤ 8) : ∀ (j k i : Nat) (l : List Int), i + j = m → j < k → l.length ≤ 1000000000 → volumes_low.l0 k (l ++ lowL a i) a (m : Int) (i : Int) = some (l ++ lowL a m) := by
  intro j
  induction j with
  | zero =>
    intro k i l hi hk hl
    obtain ⟨k, rfl⟩ : ∃ q, k = q + 1 := ⟨k - 1, by omega⟩
    rw [volumes_low.l0, if_neg (by omega), show i = m by omega]
  | succ j ih =>
    intro k i l hi hk hl
    obtain ⟨k, rfl⟩ : ∃ q, k = q + 1 := ⟨k - 1, by omega⟩
    have w1 : wrap64 (8 * (i : Int)) = 8 * (i : Int) := IntWalk.wrap64_in _ (by omega)
    have e : shr .u64 a (8 * (i : Int)) = a / 2 ^ (8 * i) := by
      unfold shr
      rw [show min (8 * (i : Int)).toNat IntKind.u64.bits = 8 * i by
        rw [show (8 * (i : Int)).toNat = 8 * i by clear w1; omega, show IntKind.u64.bits = 64 from rfl]
        clear w1
        omega]
    rw [volumes_low.l0, if_pos (by clear w1; omega), w1, if_pos (by clear w1; omega), if_pos (by rw [List.length_append, lowL_len]; clear w1; omega), e, wrap_succ _ (by clear w1; omega), List.append_assoc, ← lowL_succ]
    exact ih k (i + 1) l (by clear w1; omega) (by clear w1; omega) hl
theorem low_f (k : Nat) (l : List Int) (a : Int) (m : Nat) (hm : m ≤ 8) (hk : m < k) (hl : l.length ≤ 1000000000) : volumes_low.f k l a (m : Int) = some (l ++ lowL a m) := by
  have h := low_l0 a m hm m k 0 l (by omega) hk hl
  rw [show lowL a 0 = [] from rfl, List.append_nil] at h
  exact h
/-! ### the sum -/
def stepC (x : Int) : Int := if x % 2 = 1 then Go.bits .xor .u32 (x / 2) 3988292384 else x / 2
def stepN : Nat → Int → Int
  | 0, x => x
  | n + 1, x => stepN n (stepC x)
def crcL : List Int → Int → Int
  | [], c => c
  | b :: l, c => crcL l (stepN 8 (Go.bits .xor .u32 c (b % 4294967296)))
def crc (l : List Int) : Int := Go.bits .xor .u32 (crcL l 4294967295) 4294967295
theorem wrap_u32 (x : Int) : 0 ≤ IntKind.u32.wrap x ∧ IntKind.u32.wrap x < 4294967296 := by
  rw [IntKind.wrap_u32']
  omega
theorem xor32_in (x y : Int) : 0 ≤ Go.bits .xor .u32 x y ∧ Go.bits .xor .u32 x y < 4294967296 := wrap_u32 _
theorem stepC_in {x : Int} (h : 0 ≤ x ∧ x < 4294967296) : 0 ≤ stepC x ∧ stepC x < 4294967296 := by
  unfold stepC
  split
  · exact xor32_in _ _
  · omega
theorem stepN_in : ∀ (n : Nat) {x : Int}, 0 ≤ x ∧ x < 4294967296 → 0 ≤ stepN n x ∧ stepN n x < 4294967296
  | 0, x, h => h
  | n + 1, x, h => stepN_in n (stepC_in h)
theorem crc_in (l : List Int) : 0 ≤ crc l ∧ crc l < 4294967296 := xor32_in _ _
theorem and_one {x : Int} (h : 0 ≤ x ∧ x < 4294967296) : Go.bits .and .u32 x 1 = x % 2 := by
  rw [Go.u32_and x 1 h.1 h.2 (by decide) (by decide), show (1 : Int).toNat = 1 from rfl, Nat.and_one_is_mod]
  omega
theorem gz_l1 (l : List Int) (n i : Nat) (hi : i < 1000000000) : ∀ (j k q : Nat) (c : Int), q + j = 8 → 0 ≤ c ∧ c < 4294967296 → gzip_Sum.l1 (k + j + 1) c l (n : Int) (i : Int) (q : Int) = gzip_Sum.l0 k (stepN j c) l (n : Int) ((i + 1 : Nat) : Int) := by
  intro j
  induction j with
  | zero =>
    intro k q c hq hc
    rw [gzip_Sum.l1, if_neg (by omega), wrap_succ _ (by omega)]
    rfl
  | succ j ih =>
    intro k q c hq hc
    rw [show k + (j + 1) + 1 = (k + j + 1) + 1 by omega, gzip_Sum.l1, if_pos (by omega), and_one hc, wrap_succ _ (by omega)]
    have e : stepN (j + 1) c = stepN j (stepC c) := rfl
    rw [e, ← ih k (q + 1) (stepC c) (by omega) (stepC_in hc)]
    unfold stepC
    split <;> rfl
theorem gz_l0 (l : List Int) (hl : l.length ≤ 100000000) : ∀ (j k i : Nat) (c : Int), i + j = l.length → 10 * j < k → 0 ≤ c ∧ c < 4294967296 → gzip_Sum.l0 k c l (l.length : Int) (i : Int) = some (Go.bits .xor .u32 (crcL (l.drop i) c) 4294967295) := by
  intro j
  induction j with
  | zero =>
    intro k i c hi hk hc
    obtain ⟨k, rfl⟩ : ∃ q, k = q + 1 := ⟨k - 1, by omega⟩
    rw [gzip_Sum.l0, if_neg (by omega), List.drop_eq_nil_of_le (by omega)]
    rfl
  | succ j ih =>
    intro k i c hi hk hc
    obtain ⟨k, rfl⟩ : ∃ q, k = (q + 8 + 1) + 1 := ⟨k - 10, by omega⟩
    rw [gzip_Sum.l0, if_pos (by omega), if_pos (by omega), if_pos (by omega), rd_at]
    have h1 := gz_l1 l l.length i (by omega) 8 k 0 (Go.bits .xor .u32 c (l.getD i 0 % 4294967296)) rfl (xor32_in _ _)
    rw [show ((0 : Nat) : Int) = 0 from rfl] at h1
    rw [h1, ih k (i + 1) _ (by omega) (by omega) (stepN_in 8 (xor32_in _ _)), List.drop_eq_getElem_cons (show i < l.length by omega), crcL, List.getD_eq_getElem?_getD, List.getElem?_eq_getElem (show i < l.length by omega), Option.getD_some]
theorem gz_f (k : Nat) (l : List Int) (hl : l.length ≤ 100000000) (hk : 10 * l.length < k) : gzip_Sum.f k l = some (crc l) := by
  have h := gz_l0 l hl l.length k 0 4294967295 (by omega) hk (by decide)
  rw [List.drop_zero] at h
  exact h
/-! ### exclusive or upon a list -/
def xorG : Nat → Nat → List Int → List Int → List Int
  | 0, _, tt, _ => tt
  | n + 1, i, tt, b => xorG n (i + 1) (tt.set i (Go.bits .xor .u8 (tt.getD i 0) (b.getD i 0))) b
theorem xorG_len : ∀ (n i : Nat) (tt b : List Int), (xorG n i tt b).length = tt.length
  | 0, _, _, _ => rfl
  | n + 1, i, tt, b => by rw [xorG, xorG_len, List.length_set]
theorem xor_l0 (b : List Int) (hb : b.length ≤ 100000000) : ∀ (j k i : Nat) (tt : List Int), i + j = b.length → j < k → b.length ≤ tt.length → volumes_xor.l0 k tt b (b.length : Int) (i : Int) = some (xorG j i tt b) := by
  intro j
  induction j with
  | zero =>
    intro k i tt hi hk hl
    obtain ⟨k, rfl⟩ : ∃ q, k = q + 1 := ⟨k - 1, by omega⟩
    rw [volumes_xor.l0, if_neg (by omega)]
    rfl
  | succ j ih =>
    intro k i tt hi hk hl
    obtain ⟨k, rfl⟩ : ∃ q, k = q + 1 := ⟨k - 1, by omega⟩
    rw [volumes_xor.l0, if_pos (by omega), if_pos (by omega), if_pos (by omega), if_pos (by omega), rd_at, rd_at, wrap_succ _ (by omega), Int.toNat_natCast]
    exact ih k (i + 1) _ (by omega) (by omega) (by rw [List.length_set]; exact hl)
theorem xor_f (k : Nat) (tt b : List Int) (hb : b.length ≤ 100000000) (hk : b.length < k) (hl : b.length ≤ tt.length) : volumes_xor.f k tt b = some (xorG b.length 0 tt b) := xor_l0 b hb b.length k 0 tt (by omega) hk hl
end Go.Proofs.Ytnkcbkfccbfjpaa.XxhW
