/- XXH32 and XXH64 are one-to-one in the seed and in each number that is taken: plain facts. -/
import Derived.Test.YtnkcbkfccbfjpaaZb
namespace Go.Proofs.Ytnkcbkfccbfjpaa.X
open Go.Proofs.Ytnkcbkfccbfjpaa.XxhW
set_option linter.unusedVariables false
theorem mul_inj (M p q : Int) (hM : 0 < M) (hpq : p * q % M = 1 % M) {x y : Int} (hx : 0 ≤ x ∧ x < M) (hy : 0 ≤ y ∧ y < M) (h : x * p % M = y * p % M) : x = y := by
  have e : ∀ z : Int, 0 ≤ z ∧ z < M → (z * p % M) * q % M = z := fun z hz => by
    have h1 : (z * p % M) * q % M = z * p * q % M := by rw [Int.mul_emod, Int.emod_emod_of_dvd _ (Int.dvd_refl M), ← Int.mul_emod]
    have h2 : z * p * q % M = z % M := by rw [Int.mul_assoc, Int.mul_emod, hpq, ← Int.mul_emod, Int.mul_one]
    rw [h1, h2]
    exact Int.emod_eq_of_lt hz.1 hz.2
  rw [← e x hx, ← e y hy, h]
theorem digits (P a b a' b' : Int) (h0 : 0 ≤ b) (h1 : b < P) (h0' : 0 ≤ b') (h1' : b' < P) (h : a * P + b = a' * P + b') : a = a' ∧ b = b' := by
  have hP : 0 ≤ P := by omega
  have key : ∀ u v r r' : Int, 0 ≤ r → r < P → 0 ≤ r' → r' < P → u * P + r = v * P + r' → ¬ u < v := by
    intro u v r r' a1 a2 a3 a4 e hlt
    have := Int.mul_le_mul_of_nonneg_right (show u + 1 ≤ v by omega) hP
    rw [Int.add_mul, Int.one_mul] at this
    omega
  have e1 := key a a' b b' h0 h1 h0' h1' h
  have e2 := key a' a b' b h0' h1' h0 h1 h.symm
  have e3 : a = a' := by omega
  subst e3
  exact ⟨rfl, by omega⟩
theorem rot_inj (W k : Nat) (M : Int) (hk : k ≤ W) (hM : M = 2 ^ W) {x y : Int} (hx : 0 ≤ x ∧ x < M) (hy : 0 ≤ y ∧ y < M) (h : (x * 2 ^ k) % M + x / 2 ^ (W - k) = (y * 2 ^ k) % M + y / 2 ^ (W - k)) : x = y := by
  have ⟨_, _, _, b0, b1, _⟩ := rot_parts W k x M hk hM hx.1 hx.2
  have ⟨_, _, _, c0, c1, _⟩ := rot_parts W k y M hk hM hy.1 hy.2
  obtain ⟨P, hP⟩ : ∃ P : Int, P = 2 ^ k := ⟨_, rfl⟩
  obtain ⟨Q, hQ⟩ : ∃ Q : Int, Q = 2 ^ (W - k) := ⟨_, rfl⟩
  have hPp : 0 < P := by rw [hP]; exact Int.pow_pos (by decide)
  have hQp : 0 < Q := by rw [hQ]; exact Int.pow_pos (by decide)
  have hm : M = Q * P := by rw [hM, hQ, hP, ← Int.pow_add, Nat.sub_add_cancel hk]
  rw [← hP] at b1 c1 h
  rw [← hQ] at b0 b1 c0 c1 h
  rw [hm, Int.mul_comm x P, Int.mul_comm y P, Int.mul_comm Q P, Int.mul_emod_mul_of_pos x Q hPp, Int.mul_emod_mul_of_pos y Q hPp, Int.mul_comm P, Int.mul_comm P] at h
  obtain ⟨e1, e2⟩ := digits P _ _ _ _ b0 b1 c0 c1 h
  rw [← Int.mul_ediv_add_emod x Q, ← Int.mul_ediv_add_emod y Q, e1, e2]
theorem xs_inj (s : Nat) (hs : 0 < s) (x y : Nat) (h : x ^^^ (x >>> s) = y ^^^ (y >>> s)) : x = y := by
  have h2 : x ^^^ y = (x >>> s) ^^^ (y >>> s) := by
    apply Nat.eq_of_testBit_eq
    intro i
    have := congrArg (fun z => z.testBit i) h
    simp only [Nat.testBit_xor] at this ⊢
    revert this
    cases x.testBit i <;> cases y.testBit i <;> cases (x >>> s).testBit i <;> cases (y >>> s).testBit i <;> simp
  rw [← Nat.shiftRight_xor_distrib, Nat.shiftRight_eq_div_pow] at h2
  have hd : x ^^^ y = 0 := by
    rcases Nat.eq_zero_or_pos (x ^^^ y) with h0 | h0
    · exact h0
    · have := Nat.div_lt_self h0 (show 1 < 2 ^ s from Nat.one_lt_two_pow (by omega))
      omega
  apply Nat.eq_of_testBit_eq
  intro i
  have := congrArg (fun z => z.testBit i) hd
  simp only [Nat.testBit_xor, Nat.zero_testBit] at this
  revert this
  cases x.testBit i <;> cases y.testBit i <;> simp
theorem xor_inj (x y c : Nat) (h : x ^^^ c = y ^^^ c) : x = y := by
  apply Nat.eq_of_testBit_eq
  intro i
  have := congrArg (fun z => z.testBit i) h
  simp only [Nat.testBit_xor] at this
  revert this
  cases x.testBit i <;> cases y.testBit i <;> cases c.testBit i <;> simp
theorem bits_xor_u32_nat (a b : Nat) (ha : a < 4294967296) (hb : b < 4294967296) : Go.bits .xor .u32 (a : Int) (b : Int) = ((a ^^^ b : Nat) : Int) := by
  have hx : a ^^^ b < 2 ^ 32 := Nat.xor_lt_two_pow (by omega) (by omega)
  have h1 : (BitVec.ofInt 32 (a : Int)).toNat = a := by
    rw [BitVec.ofInt_natCast, BitVec.toNat_ofNat]; exact Nat.mod_eq_of_lt (by omega)
  have h2 : (BitVec.ofInt 32 (b : Int)).toNat = b := by
    rw [BitVec.ofInt_natCast, BitVec.toNat_ofNat]; exact Nat.mod_eq_of_lt (by omega)
  show IntKind.u32.wrap ((BitVec.ofInt 32 (a : Int) ^^^ BitVec.ofInt 32 (b : Int)).toNat : Int) = _
  rw [BitVec.toNat_xor, h1, h2, IntKind.wrap_u32]
  omega
theorem bits_xor_u8_range (a b : Int) : 0 ≤ Go.bits .xor .u8 a b ∧ Go.bits .xor .u8 a b < 256 := by
  show 0 ≤ IntKind.u8.wrap _ ∧ IntKind.u8.wrap _ < 256
  rw [IntKind.wrap_u8]
  omega
theorem xor32_range (x y : Int) (hx : W32 x) (hy : W32 y) : W32 (Go.bits .xor .u32 x y) := by
  obtain ⟨a, rfl⟩ := Int.eq_ofNat_of_zero_le hx.1
  obtain ⟨b, rfl⟩ := Int.eq_ofNat_of_zero_le hy.1
  have h1 := hx.2
  have h2 := hy.2
  rw [bits_xor_u32_nat a b (by omega) (by omega)]
  have := Nat.xor_lt_two_pow (n := 32) (x := a) (y := b) (by omega) (by omega)
  exact ⟨by omega, by omega⟩
theorem xs32_inj (s : Nat) (D : Int) (hD : D = 2 ^ s) (hs : 0 < s) {x y : Int} (hx : W32 x) (hy : W32 y) (h : Go.bits .xor .u32 x (x / D) = Go.bits .xor .u32 y (y / D)) : x = y := by
  obtain ⟨a, rfl⟩ := Int.eq_ofNat_of_zero_le hx.1
  obtain ⟨b, rfl⟩ := Int.eq_ofNat_of_zero_le hy.1
  have h1 := hx.2
  have h2 := hy.2
  have e : ∀ c : Nat, (c : Int) / D = ((c >>> s : Nat) : Int) := fun c => by
    rw [Nat.shiftRight_eq_div_pow, hD]; simp
  have l : ∀ c : Nat, c >>> s ≤ c := fun c => by rw [Nat.shiftRight_eq_div_pow]; exact Nat.div_le_self _ _
  have la := l a
  have lb := l b
  rw [e, e, bits_xor_u32_nat _ _ (by omega) (by omega), bits_xor_u32_nat _ _ (by omega) (by omega)] at h
  have := xs_inj s hs a b (by exact_mod_cast h)
  omega
theorem xs64_inj (s : Nat) (D : Int) (hD : D = 2 ^ s) (hs : 0 < s) {x y : Int} (hx : W64 x) (hy : W64 y) (h : Go.bits .xor .u64 x (x / D) = Go.bits .xor .u64 y (y / D)) : x = y := by
  obtain ⟨a, rfl⟩ := Int.eq_ofNat_of_zero_le hx.1
  obtain ⟨b, rfl⟩ := Int.eq_ofNat_of_zero_le hy.1
  have h1 := hx.2
  have h2 := hy.2
  have e : ∀ c : Nat, (c : Int) / D = ((c >>> s : Nat) : Int) := fun c => by
    rw [Nat.shiftRight_eq_div_pow, hD]; simp
  have l : ∀ c : Nat, c >>> s ≤ c := fun c => by rw [Nat.shiftRight_eq_div_pow]; exact Nat.div_le_self _ _
  have la := l a
  have lb := l b
  rw [e, e, bits_xor_u64_nat _ _ (by omega) (by omega), bits_xor_u64_nat _ _ (by omega) (by omega)] at h
  have := xs_inj s hs a b (by exact_mod_cast h)
  omega
theorem xor64_inj {x y c : Int} (hx : W64 x) (hy : W64 y) (hc : W64 c) (h : Go.bits .xor .u64 x c = Go.bits .xor .u64 y c) : x = y := by
  obtain ⟨a, rfl⟩ := Int.eq_ofNat_of_zero_le hx.1
  obtain ⟨b, rfl⟩ := Int.eq_ofNat_of_zero_le hy.1
  obtain ⟨d, rfl⟩ := Int.eq_ofNat_of_zero_le hc.1
  have h1 := hx.2
  have h2 := hy.2
  have h3 := hc.2
  rw [bits_xor_u64_nat _ _ (by omega) (by omega), bits_xor_u64_nat _ _ (by omega) (by omega)] at h
  have := xor_inj a b d (by exact_mod_cast h)
  omega
theorem xor64_comm {x c : Int} (hx : W64 x) (hc : W64 c) : Go.bits .xor .u64 x c = Go.bits .xor .u64 c x := by
  obtain ⟨a, rfl⟩ := Int.eq_ofNat_of_zero_le hx.1
  obtain ⟨d, rfl⟩ := Int.eq_ofNat_of_zero_le hc.1
  have h1 := hx.2
  have h3 := hc.2
  rw [bits_xor_u64_nat _ _ (by omega) (by omega), bits_xor_u64_nat _ _ (by omega) (by omega), Nat.xor_comm]
theorem rot32_inj (k : Nat) (hk : k ≤ 32) {x y : Int} (hx : W32 x) (hy : W32 y) (h : rot32 x k = rot32 y k) : x = y := rot_inj 32 k 4294967296 hk (by decide) hx hy h
theorem rot64_inj (k : Nat) (hk : k ≤ 64) {x y : Int} (hx : W64 x) (hy : W64 y) (h : rot64 x k = rot64 y k) : x = y := rot_inj 64 k 18446744073709551616 hk (by decide) hx hy h
theorem m32_0 {x y : Int} (hx : W32 x) (hy : W32 y) (h : x * 2654435761 % 4294967296 = y * 2654435761 % 4294967296) : x = y := mul_inj 4294967296 2654435761 244002641 (by decide) (by decide +kernel) hx hy h
theorem m64_0 {x y : Int} (hx : W64 x) (hy : W64 y) (h : x * 11400714785074694791 % 18446744073709551616 = y * 11400714785074694791 % 18446744073709551616) : x = y := mul_inj 18446744073709551616 11400714785074694791 614540362697595703 (by decide) (by decide +kernel) hx hy h
theorem m32_1 {x y : Int} (hx : W32 x) (hy : W32 y) (h : x * 2246822519 % 4294967296 = y * 2246822519 % 4294967296) : x = y := mul_inj 4294967296 2246822519 3066638151 (by decide) (by decide +kernel) hx hy h
theorem m64_1 {x y : Int} (hx : W64 x) (hy : W64 y) (h : x * 14029467366897019727 % 18446744073709551616 = y * 14029467366897019727 % 18446744073709551616) : x = y := mul_inj 18446744073709551616 14029467366897019727 839798700976720815 (by decide) (by decide +kernel) hx hy h
theorem m32_2 {x y : Int} (hx : W32 x) (hy : W32 y) (h : x * 3266489917 % 4294967296 = y * 3266489917 % 4294967296) : x = y := mul_inj 4294967296 3266489917 2828982549 (by decide) (by decide +kernel) hx hy h
theorem m64_2 {x y : Int} (hx : W64 x) (hy : W64 y) (h : x * 1609587929392839161 % 18446744073709551616 = y * 1609587929392839161 % 18446744073709551616) : x = y := mul_inj 18446744073709551616 1609587929392839161 16855272203555305545 (by decide) (by decide +kernel) hx hy h
theorem m32_3 {x y : Int} (hx : W32 x) (hy : W32 y) (h : x * 668265263 % 4294967296 = y * 668265263 % 4294967296) : x = y := mul_inj 4294967296 668265263 2701016015 (by decide) (by decide +kernel) hx hy h
theorem m64_3 {x y : Int} (hx : W64 x) (hy : W64 y) (h : x * 9650029242287828579 % 18446744073709551616 = y * 9650029242287828579 % 18446744073709551616) : x = y := mul_inj 18446744073709551616 9650029242287828579 15596783062780822347 (by decide) (by decide +kernel) hx hy h
theorem m32_4 {x y : Int} (hx : W32 x) (hy : W32 y) (h : x * 374761393 % 4294967296 = y * 374761393 % 4294967296) : x = y := mul_inj 4294967296 374761393 2923004241 (by decide) (by decide +kernel) hx hy h
theorem m64_4 {x y : Int} (hx : W64 x) (hy : W64 y) (h : x * 2870177450012600261 % 18446744073709551616 = y * 2870177450012600261 % 18446744073709551616) : x = y := mul_inj 18446744073709551616 2870177450012600261 14236653164957433613 (by decide) (by decide +kernel) hx hy h
theorem add32_inj {h h' c : Int} (hh : W32 h) (hh' : W32 h') (e : (h + c) % 4294967296 = (h' + c) % 4294967296) : h = h' := by
  obtain ⟨a, b⟩ := hh
  obtain ⟨c1, d⟩ := hh'
  omega
theorem add32_inj' {h u u' : Int} (e : (h + u) % 4294967296 = (h + u') % 4294967296) : u % 4294967296 = u' % 4294967296 := by omega
theorem add64_inj {h h' c : Int} (hh : W64 h) (hh' : W64 h') (e : (h + c) % 18446744073709551616 = (h' + c) % 18446744073709551616) : h = h' := by
  obtain ⟨a, b⟩ := hh
  obtain ⟨c1, d⟩ := hh'
  omega
theorem add64_inj' {h u u' : Int} (e : (h + u) % 18446744073709551616 = (h + u') % 18446744073709551616) : u % 18446744073709551616 = u' % 18446744073709551616 := by omega
theorem step32_state {h h' w : Int} (hh : W32 h) (hh' : W32 h') (e : step32 h w = step32 h' w) : h = h' := by
  unfold step32 at e
  have r1 := rot32_range ((h + w * 2246822519) % 4294967296) 13 (by decide) (w32_mod _)
  have r2 := rot32_range ((h' + w * 2246822519) % 4294967296) 13 (by decide) (w32_mod _)
  have e1 := m32_0 r1 r2 e
  have e2 := rot32_inj 13 (by decide) (w32_mod (h + w * 2246822519)) (w32_mod (h' + w * 2246822519)) e1
  exact add32_inj hh hh' e2
theorem step32_unit {h w w' : Int} (hw : W32 w) (hw' : W32 w') (e : step32 h w = step32 h w') : w = w' := by
  unfold step32 at e
  have r1 := rot32_range ((h + w * 2246822519) % 4294967296) 13 (by decide) (w32_mod _)
  have r2 := rot32_range ((h + w' * 2246822519) % 4294967296) 13 (by decide) (w32_mod _)
  have e1 := m32_0 r1 r2 e
  have e2 := rot32_inj 13 (by decide) (w32_mod (h + w * 2246822519)) (w32_mod (h + w' * 2246822519)) e1
  exact m32_1 hw hw' (add32_inj' e2)
theorem step32_range (h w : Int) : W32 (step32 h w) := by unfold step32; exact w32_mod _
theorem word32_state {h h' w : Int} (hh : W32 h) (hh' : W32 h') (e : word32 h w = word32 h' w) : h = h' := by
  unfold word32 at e
  have r1 := rot32_range ((h + w * 3266489917) % 4294967296) 17 (by decide) (w32_mod _)
  have r2 := rot32_range ((h' + w * 3266489917) % 4294967296) 17 (by decide) (w32_mod _)
  have e1 := m32_3 r1 r2 e
  have e2 := rot32_inj 17 (by decide) (w32_mod (h + w * 3266489917)) (w32_mod (h' + w * 3266489917)) e1
  exact add32_inj hh hh' e2
theorem word32_unit {h w w' : Int} (hw : W32 w) (hw' : W32 w') (e : word32 h w = word32 h w') : w = w' := by
  unfold word32 at e
  have r1 := rot32_range ((h + w * 3266489917) % 4294967296) 17 (by decide) (w32_mod _)
  have r2 := rot32_range ((h + w' * 3266489917) % 4294967296) 17 (by decide) (w32_mod _)
  have e1 := m32_3 r1 r2 e
  have e2 := rot32_inj 17 (by decide) (w32_mod (h + w * 3266489917)) (w32_mod (h + w' * 3266489917)) e1
  exact m32_2 hw hw' (add32_inj' e2)
theorem word32_range (h w : Int) : W32 (word32 h w) := by unfold word32; exact w32_mod _
theorem byte32_state {h h' w : Int} (hh : W32 h) (hh' : W32 h') (e : byte32 h w = byte32 h' w) : h = h' := by
  unfold byte32 at e
  have r1 := rot32_range ((h + w * 374761393) % 4294967296) 11 (by decide) (w32_mod _)
  have r2 := rot32_range ((h' + w * 374761393) % 4294967296) 11 (by decide) (w32_mod _)
  have e1 := m32_0 r1 r2 e
  have e2 := rot32_inj 11 (by decide) (w32_mod (h + w * 374761393)) (w32_mod (h' + w * 374761393)) e1
  exact add32_inj hh hh' e2
theorem byte32_unit {h w w' : Int} (hw : W32 w) (hw' : W32 w') (e : byte32 h w = byte32 h w') : w = w' := by
  unfold byte32 at e
  have r1 := rot32_range ((h + w * 374761393) % 4294967296) 11 (by decide) (w32_mod _)
  have r2 := rot32_range ((h + w' * 374761393) % 4294967296) 11 (by decide) (w32_mod _)
  have e1 := m32_0 r1 r2 e
  have e2 := rot32_inj 11 (by decide) (w32_mod (h + w * 374761393)) (w32_mod (h + w' * 374761393)) e1
  exact m32_4 hw hw' (add32_inj' e2)
theorem byte32_range (h w : Int) : W32 (byte32 h w) := by unfold byte32; exact w32_mod _
theorem round64_unit {v w w' : Int} (hw : W64 w) (hw' : W64 w') (e : round64 v w = round64 v w') : w = w' := by
  unfold round64 at e
  have r1 := rot64_range ((v + w * 14029467366897019727) % 18446744073709551616) 31 (by decide) (w64_mod _)
  have r2 := rot64_range ((v + w' * 14029467366897019727) % 18446744073709551616) 31 (by decide) (w64_mod _)
  have e1 := m64_0 r1 r2 e
  have e2 := rot64_inj 31 (by decide) (w64_mod (v + w * 14029467366897019727)) (w64_mod (v + w' * 14029467366897019727)) e1
  exact m64_1 hw hw' (add64_inj' e2)
theorem mul64_drop {a b c m : Int} (h : (a * m + c) % 18446744073709551616 = (b * m + c) % 18446744073709551616) : a * m % 18446744073709551616 = b * m % 18446744073709551616 := by
  obtain ⟨x, hx⟩ : ∃ x, x = a * m := ⟨_, rfl⟩
  obtain ⟨y, hy⟩ : ∃ y, y = b * m := ⟨_, rfl⟩
  rw [← hx, ← hy] at h ⊢
  omega
theorem word64_state {h h' w : Int} (hh : W64 h) (hh' : W64 h') (e : word64 h w = word64 h' w) : h = h' := by
  unfold word64 at e
  have x1 := xor64_range h (round64 0 w) hh (round64_range 0 w)
  have x2 := xor64_range h' (round64 0 w) hh' (round64_range 0 w)
  have e1 := m64_0 (rot64_range _ 27 (by decide) x1) (rot64_range _ 27 (by decide) x2) (mul64_drop e)
  have e2 := rot64_inj 27 (by decide) x1 x2 e1
  exact xor64_inj hh hh' (round64_range 0 w) e2
theorem word64_range (h w : Int) : W64 (word64 h w) := by unfold word64; exact w64_mod _
theorem word64_unit {h w w' : Int} (hh : W64 h) (hw : W64 w) (hw' : W64 w') (e : word64 h w = word64 h w') : w = w' := by
  unfold word64 at e
  have x1 := xor64_range h (round64 0 w) hh (round64_range 0 w)
  have x2 := xor64_range h (round64 0 w') hh (round64_range 0 w')
  have e1 := m64_0 (rot64_range _ 27 (by decide) x1) (rot64_range _ 27 (by decide) x2) (mul64_drop e)
  have e2 := rot64_inj 27 (by decide) x1 x2 e1
  rw [xor64_comm hh (round64_range 0 w), xor64_comm hh (round64_range 0 w')] at e2
  have e4 := xor64_inj (round64_range 0 w) (round64_range 0 w') hh e2
  exact round64_unit hw hw' e4
theorem half64_state {h h' w : Int} (hh : W64 h) (hh' : W64 h') (e : half64 h w = half64 h' w) : h = h' := by
  unfold half64 at e
  have x1 := xor64_range h (w * 11400714785074694791 % 18446744073709551616) hh (w64_mod (w * 11400714785074694791))
  have x2 := xor64_range h' (w * 11400714785074694791 % 18446744073709551616) hh' (w64_mod (w * 11400714785074694791))
  have e1 := m64_1 (rot64_range _ 23 (by decide) x1) (rot64_range _ 23 (by decide) x2) (mul64_drop e)
  have e2 := rot64_inj 23 (by decide) x1 x2 e1
  exact xor64_inj hh hh' (w64_mod (w * 11400714785074694791)) e2
theorem half64_range (h w : Int) : W64 (half64 h w) := by unfold half64; exact w64_mod _
theorem byte64_state {h h' w : Int} (hh : W64 h) (hh' : W64 h') (e : byte64 h w = byte64 h' w) : h = h' := by
  unfold byte64 at e
  have x1 := xor64_range h (w * 2870177450012600261 % 18446744073709551616) hh (w64_mod (w * 2870177450012600261))
  have x2 := xor64_range h' (w * 2870177450012600261 % 18446744073709551616) hh' (w64_mod (w * 2870177450012600261))
  have e1 := m64_0 (rot64_range _ 11 (by decide) x1) (rot64_range _ 11 (by decide) x2) (e)
  have e2 := rot64_inj 11 (by decide) x1 x2 e1
  exact xor64_inj hh hh' (w64_mod (w * 2870177450012600261)) e2
theorem byte64_range (h w : Int) : W64 (byte64 h w) := by unfold byte64; exact w64_mod _
theorem byte64_unit {h w w' : Int} (hh : W64 h) (hw : W64 w) (hw' : W64 w') (e : byte64 h w = byte64 h w') : w = w' := by
  unfold byte64 at e
  have x1 := xor64_range h (w * 2870177450012600261 % 18446744073709551616) hh (w64_mod (w * 2870177450012600261))
  have x2 := xor64_range h (w' * 2870177450012600261 % 18446744073709551616) hh (w64_mod (w' * 2870177450012600261))
  have e1 := m64_0 (rot64_range _ 11 (by decide) x1) (rot64_range _ 11 (by decide) x2) (e)
  have e2 := rot64_inj 11 (by decide) x1 x2 e1
  rw [xor64_comm hh (w64_mod (w * 2870177450012600261)), xor64_comm hh (w64_mod (w' * 2870177450012600261))] at e2
  have e4 := xor64_inj (w64_mod (w * 2870177450012600261)) (w64_mod (w' * 2870177450012600261)) hh e2
  exact m64_4 hw hw' e4
theorem shift32 {z : Int} (D : Int) (hz : W32 z) (hD : 0 < D) : W32 (z / D) := ⟨Int.ediv_nonneg hz.1 (Int.le_of_lt hD), Int.lt_of_le_of_lt (Int.ediv_le_self _ hz.1) hz.2⟩
theorem shift64 {z : Int} (D : Int) (hz : W64 z) (hD : 0 < D) : W64 (z / D) := ⟨Int.ediv_nonneg hz.1 (Int.le_of_lt hD), Int.lt_of_le_of_lt (Int.ediv_le_self _ hz.1) hz.2⟩
def f32a (h : Int) : Int := (Go.bits .xor .u32 h (h / 32768) * 2246822519) % 4294967296
def f32b (h : Int) : Int := (Go.bits .xor .u32 h (h / 8192) * 3266489917) % 4294967296
theorem fin32_eq (h : Int) : fin32 h = Go.bits .xor .u32 (f32b (f32a h)) (f32b (f32a h) / 65536) := rfl
theorem f32a_inj {x y : Int} (hx : W32 x) (hy : W32 y) (h : f32a x = f32a y) : x = y := by
  unfold f32a at h
  exact xs32_inj 15 32768 (by decide) (by decide) hx hy (m32_1 (xor32_range _ _ hx (shift32 32768 hx (by decide))) (xor32_range _ _ hy (shift32 32768 hy (by decide))) h)
theorem f32b_inj {x y : Int} (hx : W32 x) (hy : W32 y) (h : f32b x = f32b y) : x = y := by
  unfold f32b at h
  exact xs32_inj 13 8192 (by decide) (by decide) hx hy (m32_2 (xor32_range _ _ hx (shift32 8192 hx (by decide))) (xor32_range _ _ hy (shift32 8192 hy (by decide))) h)
theorem f32a_range (x : Int) : W32 (f32a x) := by unfold f32a; exact w32_mod _
theorem f32b_range (x : Int) : W32 (f32b x) := by unfold f32b; exact w32_mod _
theorem fin32_inj {x y : Int} (hx : W32 x) (hy : W32 y) (h : fin32 x = fin32 y) : x = y := by
  rw [fin32_eq, fin32_eq] at h
  exact f32a_inj hx hy (f32b_inj (f32a_range x) (f32a_range y) (xs32_inj 16 65536 (by decide) (by decide) (f32b_range _) (f32b_range _) h))
def f64a (h : Int) : Int := (Go.bits .xor .u64 h (h / 8589934592) * 14029467366897019727) % 18446744073709551616
def f64b (h : Int) : Int := (Go.bits .xor .u64 h (h / 536870912) * 1609587929392839161) % 18446744073709551616
theorem fin64_eq (h : Int) : fin64 h = Go.bits .xor .u64 (f64b (f64a h)) (f64b (f64a h) / 4294967296) := rfl
theorem f64a_inj {x y : Int} (hx : W64 x) (hy : W64 y) (h : f64a x = f64a y) : x = y := by
  unfold f64a at h
  exact xs64_inj 33 8589934592 (by decide) (by decide) hx hy (m64_1 (xor64_range _ _ hx (shift64 8589934592 hx (by decide))) (xor64_range _ _ hy (shift64 8589934592 hy (by decide))) h)
theorem f64b_inj {x y : Int} (hx : W64 x) (hy : W64 y) (h : f64b x = f64b y) : x = y := by
  unfold f64b at h
  exact xs64_inj 29 536870912 (by decide) (by decide) hx hy (m64_2 (xor64_range _ _ hx (shift64 536870912 hx (by decide))) (xor64_range _ _ hy (shift64 536870912 hy (by decide))) h)
theorem f64a_range (x : Int) : W64 (f64a x) := by unfold f64a; exact w64_mod _
theorem f64b_range (x : Int) : W64 (f64b x) := by unfold f64b; exact w64_mod _
theorem fin64_inj {x y : Int} (hx : W64 x) (hy : W64 y) (h : fin64 x = fin64 y) : x = y := by
  rw [fin64_eq, fin64_eq] at h
  exact f64a_inj hx hy (f64b_inj (f64a_range x) (f64a_range y) (xs64_inj 32 4294967296 (by decide) (by decide) (f64b_range _) (f64b_range _) h))
end Go.Proofs.Ytnkcbkfccbfjpaa.X
