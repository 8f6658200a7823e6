/- Texts of mine made one: Vu, Vv, Tq, Tp, Tb, Tr, Tt. -/
import Derived.Test.YtnkcbkfccbfjpaaVp
import Derived.Test.YtnkcbkfccbfjpaaVr
import Derived.Test.YtnkcbkfccbfjpaaVx
import Derived.Test.YtnkcbkfccbfjpaaVy
import Derived.Test.YtnkcbkfccbfjpaaTc
import Derived.Test.YtnkcbkfccbfjpaaXX
import Derived.Test.YtnkcbkfccbfjpaaVz
import Derived.Test.YtnkcbkfccbfjpaaTa
/- A burst of at most 32 bits is found by the sum (CRC-32): plain, over natural numbers. -/
namespace Go.Proofs.Ytnkcbkfccbfjpaa.Burst
set_option linter.unusedVariables false
/-- A step of the register. -/
def stp (x : Nat) : Nat := if x % 2 = 1 then (x / 2) ^^^ 3988292384 else x / 2
theorem xor_half (x y : Nat) : (x ^^^ y) / 2 = x / 2 ^^^ y / 2 := by
  apply Nat.eq_of_testBit_eq
  intro i
  rw [← Nat.testBit_succ, Nat.testBit_xor, Nat.testBit_xor, Nat.testBit_succ, Nat.testBit_succ]
theorem xor_odd (x y : Nat) : (x ^^^ y) % 2 = (x + y) % 2 := by
  have h := Nat.testBit_xor x y 0
  rw [Nat.testBit_zero, Nat.testBit_zero, Nat.testBit_zero] at h
  rcases Nat.mod_two_eq_zero_or_one x with hx | hx <;> rcases Nat.mod_two_eq_zero_or_one y with hy | hy <;> rcases Nat.mod_two_eq_zero_or_one (x ^^^ y) with hz | hz <;> simp [hx, hy, hz] at h <;> omega
theorem stp_xor (x y : Nat) : stp (x ^^^ y) = stp x ^^^ stp y := by
  unfold stp
  rw [xor_half, xor_odd]
  rcases Nat.mod_two_eq_zero_or_one x with hx | hx <;> rcases Nat.mod_two_eq_zero_or_one y with hy | hy
  · rw [if_neg (by omega), if_neg (by omega), if_neg (by omega)]
  · rw [if_pos (by omega), if_neg (by omega), if_pos (by omega), Nat.xor_assoc]
  · rw [if_pos (by omega), if_pos (by omega), if_neg (by omega), Nat.xor_assoc, Nat.xor_assoc, Nat.xor_comm 3988292384]
  · rw [if_neg (by omega), if_pos (by omega), if_pos (by omega), Nat.xor_assoc, ← Nat.xor_assoc 3988292384, Nat.xor_comm 3988292384, Nat.xor_assoc, Nat.xor_self, Nat.xor_zero]
theorem stp_zero : stp 0 = 0 := rfl
theorem stp_lt {x : Nat} (h : x < 4294967296) : stp x < 4294967296 := by
  unfold stp
  split
  · exact Nat.xor_lt_two_pow (n := 32) (by omega) (by decide)
  · omega
theorem stp_small {x : Nat} (h : x < 4294967296) (h2 : stp x < 2147483648) : x = 2 * stp x := by
  unfold stp at h2 ⊢
  split
  · rename_i ho
    rw [if_pos ho] at h2
    exfalso
    have hb : (x / 2 ^^^ 3988292384).testBit 31 = true := by
      rw [Nat.testBit_xor, Nat.testBit_lt_two_pow (show x / 2 < 2 ^ 31 by omega)]
      decide
    have := Nat.testBit_lt_two_pow (show x / 2 ^^^ 3988292384 < 2 ^ 31 from h2)
    rw [this] at hb
    cases hb
  · omega
/-- The register runs over bits that are put upon it. -/
def run : List Bool → Nat → Nat
  | [], d => d
  | e :: es, d => run es (stp (d ^^^ e.toNat))
def num : List Bool → Nat
  | [] => 0
  | e :: es => e.toNat + 2 * num es
theorem run_lt : ∀ (es : List Bool) {d : Nat}, d < 4294967296 → run es d < 4294967296
  | [], d, h => h
  | e :: es, d, h => run_lt es (stp_lt (Nat.xor_lt_two_pow (n := 32) h (by cases e <;> decide)))
theorem run_xor : ∀ (es fs : List Bool) (d f : Nat), es.length = fs.length → run (List.zipWith xor es fs) (d ^^^ f) = run es d ^^^ run fs f
  | [], [], d, f, _ => rfl
  | e :: es, g :: fs, d, f, h => by
    show run (List.zipWith xor es fs) (stp ((d ^^^ f) ^^^ (xor e g).toNat)) = run es (stp (d ^^^ e.toNat)) ^^^ run fs (stp (f ^^^ g.toNat))
    have hx : (xor e g).toNat = e.toNat ^^^ g.toNat := by cases e <;> cases g <;> rfl
    rw [← run_xor es fs _ _ (by simpa using h), ← stp_xor, hx]
    congr 2
    rw [Nat.xor_assoc, Nat.xor_assoc]
    congr 1
    rw [← Nat.xor_assoc, ← Nat.xor_assoc, Nat.xor_comm f]
/-- What ends small began as the window says. -/
theorem back : ∀ (es : List Bool) (d : Nat), d < 4294967296 → es.length ≤ 32 → run es d < 2 ^ (32 - es.length) → d = num es + 2 ^ es.length * run es d := by
  intro es
  induction es with
  | nil => intro d hd _ _; simp [run, num]
  | cons e es ih =>
    intro d hd hl hr
    have hl' : es.length + 1 ≤ 32 := hl
    have hx : d ^^^ e.toNat < 4294967296 := Nat.xor_lt_two_pow (n := 32) hd (by cases e <;> decide)
    have hr' : run es (stp (d ^^^ e.toNat)) < 2 ^ (32 - (es.length + 1)) := hr
    have hp : 2 ^ (32 - (es.length + 1)) ≤ 2 ^ (32 - es.length) := Nat.pow_le_pow_right (by decide) (by omega)
    have h1 := ih (stp (d ^^^ e.toNat)) (stp_lt hx) (by omega) (Nat.lt_of_lt_of_le hr' hp)
    have hnum : ∀ fs : List Bool, num fs < 2 ^ fs.length := by
      intro fs
      induction fs with
      | nil => simp [num]
      | cons f fs ih2 =>
        simp only [num, List.length_cons, Nat.pow_succ]
        have : f.toNat ≤ 1 := by cases f <;> decide
        omega
    have hsm : stp (d ^^^ e.toNat) < 2147483648 := by
      rw [h1]
      have h2 := hnum es
      have h3 : 2 ^ es.length * (run es (stp (d ^^^ e.toNat)) + 1) ≤ 2 ^ es.length * 2 ^ (32 - (es.length + 1)) := Nat.mul_le_mul_left _ hr'
      rw [← Nat.pow_add, show es.length + (32 - (es.length + 1)) = 31 by omega, Nat.mul_add, Nat.mul_one] at h3
      omega
    have h4 := stp_small hx hsm
    have h5 : d = (2 * stp (d ^^^ e.toNat)) ^^^ e.toNat := by rw [← h4, Nat.xor_assoc, Nat.xor_self, Nat.xor_zero]
    have h6 : ∀ z : Nat, (2 * z) ^^^ e.toNat = 2 * z + e.toNat := fun z => by
      cases e with
      | false => simp
      | true =>
        have a := xor_half (2 * z) 1
        have b := xor_odd (2 * z) 1
        show 2 * z ^^^ 1 = 2 * z + 1
        rw [show 2 * z / 2 = z by omega, show (1 : Nat) / 2 = 0 from rfl, Nat.xor_zero] at a
        omega
    rw [h6] at h5
    show d = e.toNat + 2 * num es + 2 ^ (es.length + 1) * run es (stp (d ^^^ e.toNat))
    rw [Nat.pow_succ, Nat.mul_comm (2 ^ es.length) 2, Nat.mul_assoc]
    generalize stp (d ^^^ e.toNat) = y at *
    generalize 2 ^ es.length * run es y = q at *
    omega
theorem num_zero : ∀ es : List Bool, num es = 0 → ∀ e ∈ es, e = false
  | [], _, e, h => by simp at h
  | f :: es, h, e, he => by
    have h' : f.toNat + 2 * num es = 0 := h
    have hf : f = false := by cases f <;> simp at h' ⊢
    rcases List.mem_cons.1 he with rfl | he
    · exact hf
    · exact num_zero es (by omega) e he
/-- Zeros behind leave what is not zero. -/
theorem run_zeros : ∀ (n d : Nat), d < 4294967296 → run (List.replicate n false) d = 0 → d = 0
  | 0, d, _, h => h
  | n + 1, d, hd, h => by
    have h' : run (List.replicate n false) (stp (d ^^^ 0)) = 0 := h
    rw [Nat.xor_zero] at h'
    have h2 := run_zeros n (stp d) (stp_lt hd) h'
    have := stp_small hd (by omega)
    omega
theorem run_front : ∀ n, run (List.replicate n false) 0 = 0
  | 0 => rfl
  | n + 1 => by show run (List.replicate n false) (stp (0 ^^^ 0)) = 0; exact run_front n
theorem run_app : ∀ (a b : List Bool) (d : Nat), run (a ++ b) d = run b (run a d)
  | [], b, d => rfl
  | e :: a, b, d => run_app a b _
/-- A window of at most 32 bits, zeros ahead and behind: found. -/
theorem burst (n m : Nat) (es : List Bool) (hl : es.length ≤ 32) (h : run (List.replicate n false ++ es ++ List.replicate m false) 0 = 0) : ∀ e ∈ es, e = false := by
  rw [run_app, run_app, run_front] at h
  have h0 := run_zeros m _ (run_lt es (by decide)) h
  have h1 := back es 0 (by decide) hl (by rw [h0]; exact Nat.pow_pos (by decide))
  rw [h0, Nat.mul_zero, Nat.add_zero] at h1
  exact num_zero es h1.symm
/-- A window that runs into the sum's own field: found. -/
theorem burst_end (n : Nat) (es : List Bool) (q : Nat) (hl : es.length ≤ 32) (hq : q < 2 ^ (32 - es.length)) (h : run (List.replicate n false ++ es) 0 = q) : q = 0 ∧ ∀ e ∈ es, e = false := by
  rw [run_app, run_front] at h
  have h1 := back es 0 (by decide) hl (by rw [h]; exact hq)
  rw [h] at h1
  have hp : 0 < 2 ^ es.length := Nat.pow_pos (by decide)
  have hq0 : q = 0 := by
    rcases Nat.eq_zero_or_pos q with h2 | h2
    · exact h2
    · have := Nat.mul_pos hp h2; omega
  exact ⟨hq0, num_zero es (by omega)⟩
end Go.Proofs.Ytnkcbkfccbfjpaa.Burst
/- The sum of bytes as the register's run over their bits: plain. -/
namespace Go.Proofs.Ytnkcbkfccbfjpaa.Burst
open Go.Proofs.Ytnkcbkfccbfjpaa.XxhW
set_option linter.unusedVariables false
def stp8 (x : Nat) : Nat := stp (stp (stp (stp (stp (stp (stp (stp x)))))))
def bits8 (b : Nat) : List Bool := [b.testBit 0, b.testBit 1, b.testBit 2, b.testBit 3, b.testBit 4, b.testBit 5, b.testBit 6, b.testBit 7]
theorem stp8_xor (x y : Nat) : stp8 (x ^^^ y) = stp8 x ^^^ stp8 y := by
  unfold stp8
  rw [stp_xor, stp_xor, stp_xor, stp_xor, stp_xor, stp_xor, stp_xor, stp_xor]
theorem zero8 (c : Nat) : run [false, false, false, false, false, false, false, false] c = stp8 c := by
  simp only [run, Bool.toNat_false, Nat.xor_zero]
  rfl
theorem byte0 (b : Nat) (h : b < 256) : stp8 b = run (bits8 b) 0 := by
  have : ∀ k : Fin 256, stp8 k.1 = run (bits8 k.1) 0 := by decide +kernel
  exact this ⟨b, h⟩
theorem byte (b c : Nat) (h : b < 256) : stp8 (c ^^^ b) = run (bits8 b) c := by
  have h1 := run_xor [false, false, false, false, false, false, false, false] (bits8 b) c 0 rfl
  rw [Nat.xor_zero, zero8, ← byte0 b h] at h1
  rw [stp8_xor, ← h1]
  congr 1
  simp [bits8]
def crcN : List Nat → Nat → Nat
  | [], c => c
  | b :: l, c => crcN l (stp8 (c ^^^ b))
def bitsL (l : List Nat) : List Bool := l.flatMap bits8
theorem crcN_run : ∀ (l : List Nat) (c : Nat), (∀ b ∈ l, b < 256) → crcN l c = run (bitsL l) c
  | [], c, _ => rfl
  | b :: l, c, h => by
    show crcN l (stp8 (c ^^^ b)) = run (bits8 b ++ bitsL l) c
    rw [run_app, ← byte b c (h b List.mem_cons_self), crcN_run l _ (fun x hx => h x (List.mem_cons_of_mem _ hx))]
theorem bitsL_len : ∀ l : List Nat, (bitsL l).length = 8 * l.length
  | [] => rfl
  | b :: l => by
    show (bits8 b ++ bitsL l).length = 8 * (l.length + 1)
    rw [List.length_append, bitsL_len l]
    show 8 + 8 * l.length = _
    omega
/-- Two lists of bytes: how their sums differ. -/
theorem crcN_diff (l m : List Nat) (c : Nat) (hl : ∀ b ∈ l, b < 256) (hm : ∀ b ∈ m, b < 256) (h : l.length = m.length) : crcN l c ^^^ crcN m c = run (List.zipWith xor (bitsL l) (bitsL m)) 0 := by
  rw [crcN_run l c hl, crcN_run m c hm, ← run_xor _ _ _ _ (by rw [bitsL_len, bitsL_len, h]), Nat.xor_self]
/-! ### the program's sum -/
theorem stepC_nat (x : Nat) (h : x < 4294967296) : stepC (x : Int) = ((stp x : Nat) : Int) := by
  unfold stepC stp
  by_cases c : x % 2 = 1
  · rw [if_pos (by omega), if_pos c, show (x : Int) / 2 = ((x / 2 : Nat) : Int) by omega, Go.u32_xor _ _ (by omega) (by omega) (by decide) (by decide)]
    rfl
  · rw [if_neg (by omega), if_neg c]
    omega
theorem stepN_nat : ∀ (n : Nat) (x : Nat), x < 4294967296 → ∃ y : Nat, stepN n (x : Int) = (y : Int) ∧ y < 4294967296
  | 0, x, h => ⟨x, rfl, h⟩
  | n + 1, x, h => by
    show ∃ y : Nat, stepN n (stepC (x : Int)) = _ ∧ _
    rw [stepC_nat x h]
    exact stepN_nat n _ (stp_lt h)
theorem step8_nat (x : Nat) (h : x < 4294967296) : stepN 8 (x : Int) = ((stp8 x : Nat) : Int) := by
  simp only [stepN]
  have h1 := stp_lt h
  have h2 := stp_lt h1
  have h3 := stp_lt h2
  have h4 := stp_lt h3
  have h5 := stp_lt h4
  have h6 := stp_lt h5
  have h7 := stp_lt h6
  rw [stepC_nat _ h, stepC_nat _ h1, stepC_nat _ h2, stepC_nat _ h3, stepC_nat _ h4, stepC_nat _ h5, stepC_nat _ h6, stepC_nat _ h7]
  rfl
theorem stp8_lt {x : Nat} (h : x < 4294967296) : stp8 x < 4294967296 := stp_lt (stp_lt (stp_lt (stp_lt (stp_lt (stp_lt (stp_lt (stp_lt h)))))))
theorem crcL_nat : ∀ (l : List Nat) (c : Nat), (∀ b ∈ l, b < 256) → c < 4294967296 → crcL (l.map fun b : Nat => (b : Int)) (c : Int) = ((crcN l c : Nat) : Int) ∧ crcN l c < 4294967296
  | [], c, _, hc => ⟨rfl, hc⟩
  | b :: l, c, h, hc => by
    have hb := h b List.mem_cons_self
    have hx : c ^^^ b < 4294967296 := Nat.xor_lt_two_pow (n := 32) hc (by omega)
    have e : Go.bits .xor .u32 (c : Int) ((b : Int) % 4294967296) = ((c ^^^ b : Nat) : Int) := by
      rw [show (b : Int) % 4294967296 = (b : Int) by omega, Go.u32_xor _ _ (by omega) (by omega) (by omega) (by omega)]
      simp
    show crcL (l.map fun b : Nat => (b : Int)) (stepN 8 (Go.bits .xor .u32 (c : Int) ((b : Int) % 4294967296))) = ((crcN l (stp8 (c ^^^ b)) : Nat) : Int) ∧ crcN l (stp8 (c ^^^ b)) < 4294967296
    rw [e, step8_nat _ hx]
    exact crcL_nat l _ (fun x hx2 => h x (List.mem_cons_of_mem _ hx2)) (stp8_lt hx)
theorem crc_nat (l : List Nat) (h : ∀ b ∈ l, b < 256) : crc (l.map fun b : Nat => (b : Int)) = ((crcN l 4294967295 ^^^ 4294967295 : Nat) : Int) := by
  obtain ⟨h1, h2⟩ := crcL_nat l 4294967295 h (by decide)
  unfold crc
  rw [show (4294967295 : Int) = ((4294967295 : Nat) : Int) from rfl, h1, Go.u32_xor _ _ (by omega) (by omega) (by decide) (by decide)]
  simp
theorem xor_cancel {a b c : Nat} (h : a ^^^ c = b ^^^ c) : a = b := by
  have := congrArg (· ^^^ c) h
  simpa [Nat.xor_assoc] using this
/-- Equal sums, and bits that differ within one window of 32 alone: no bit differs. -/
theorem crc_burst (l m : List Nat) (hl : ∀ b ∈ l, b < 256) (hm : ∀ b ∈ m, b < 256) (h : l.length = m.length) (n : Nat) (es : List Bool) (k : Nat) (he : es.length ≤ 32) (hw : List.zipWith xor (bitsL l) (bitsL m) = List.replicate n false ++ es ++ List.replicate k false)
    (hc : crc (l.map fun b : Nat => (b : Int)) = crc (m.map fun b : Nat => (b : Int))) : ∀ e ∈ es, e = false := by
  rw [crc_nat l hl, crc_nat m hm] at hc
  have h1 : crcN l 4294967295 = crcN m 4294967295 := xor_cancel (Int.ofNat_inj.1 hc)
  have h2 := crcN_diff l m 4294967295 hl hm h
  rw [h1, Nat.xor_self, hw] at h2
  exact burst n k es he h2.symm
end Go.Proofs.Ytnkcbkfccbfjpaa.Burst
/- Bits of bytes; a window of 32 bits that differ is found by a sum behind the bytes: plain. -/
namespace Go.Proofs.Ytnkcbkfccbfjpaa.Burst
open Go.Proofs.Ytnkcbkfccbfjpaa.XxhW
set_option linter.unusedVariables false
/-! ### bits of a list of bytes -/
theorem bits8_get (b r : Nat) (h : r < 8) : (bits8 b).getD r false = b.testBit r := by
  unfold bits8
  match r, h with
  | 0, _ => rfl
  | 1, _ => rfl
  | 2, _ => rfl
  | 3, _ => rfl
  | 4, _ => rfl
  | 5, _ => rfl
  | 6, _ => rfl
  | 7, _ => rfl
/-- Bit j of a list of bytes. -/
def bt (l : List Nat) (j : Nat) : Bool := (l.getD (j / 8) 0).testBit (j % 8)
theorem bitsL_get : ∀ (l : List Nat) (j : Nat), (bitsL l).getD j false = bt l j
  | [], j => by simp [bitsL, bt]
  | b :: l, j => by
    show (bits8 b ++ bitsL l).getD j false = bt (b :: l) j
    have e : (bits8 b).length = 8 := rfl
    by_cases c : j < 8
    · rw [List.getD_eq_getElem?_getD, List.getElem?_append_left (by rw [e]; exact c), ← List.getD_eq_getElem?_getD, bits8_get b j c]
      unfold bt
      rw [show j / 8 = 0 by omega, show j % 8 = j by omega]
      rfl
    · rw [List.getD_eq_getElem?_getD, List.getElem?_append_right (by rw [e]; omega), ← List.getD_eq_getElem?_getD, e, bitsL_get l (j - 8)]
      unfold bt
      rw [show j / 8 = (j - 8) / 8 + 1 by omega, show j % 8 = (j - 8) % 8 by omega]
      rfl
theorem bitsL_app (a b : List Nat) : bitsL (a ++ b) = bitsL a ++ bitsL b := List.flatMap_append
theorem getD_xor : ∀ (a b : List Bool), a.length = b.length → ∀ j, (List.zipWith xor a b).getD j false = xor (a.getD j false) (b.getD j false)
  | [], [], _, j => by simp
  | [], _ :: _, h, _ => by simp at h
  | _ :: _, [], h, _ => by simp at h
  | x :: a, y :: b, h, 0 => rfl
  | x :: a, y :: b, h, j + 1 => by
    have := getD_xor a b (by simpa using h) j
    simpa using this
theorem bytes_ext : ∀ (l m : List Nat), l.length = m.length → (∀ b ∈ l, b < 256) → (∀ b ∈ m, b < 256) → (∀ j, bt l j = bt m j) → l = m
  | [], [], _, _, _, _ => rfl
  | [], _ :: _, h, _, _, _ => by simp at h
  | _ :: _, [], h, _, _, _ => by simp at h
  | a :: l, b :: m, h, hl, hm, hj => by
    have e : a = b := by
      apply Nat.eq_of_testBit_eq
      intro i
      by_cases c : i < 8
      · have := hj i
        unfold bt at this
        rw [show i / 8 = 0 by omega, show i % 8 = i by omega] at this
        exact this
      · have h8 : (256 : Nat) ≤ 2 ^ i := by
          have := Nat.pow_le_pow_right (show 0 < 2 by decide) (show 8 ≤ i by omega)
          exact this
        rw [Nat.testBit_lt_two_pow (Nat.lt_of_lt_of_le (hl a List.mem_cons_self) h8), Nat.testBit_lt_two_pow (Nat.lt_of_lt_of_le (hm b List.mem_cons_self) h8)]
    rw [e, bytes_ext l m (by simpa using h) (fun x hx => hl x (List.mem_cons_of_mem _ hx)) (fun x hx => hm x (List.mem_cons_of_mem _ hx)) (fun j => by
      have := hj (j + 8)
      unfold bt at this
      rw [show (j + 8) / 8 = j / 8 + 1 by omega, show (j + 8) % 8 = j % 8 by omega] at this
      exact this)]
/-- A list of bits that are false outside a window. -/
theorem window (D : List Bool) (a : Nat) (h : ∀ j, D.getD j false = true → a ≤ j ∧ j < a + 32) : D = List.replicate (min a D.length) false ++ (D.drop a).take 32 ++ List.replicate (D.length - a - 32) false := by
  apply List.ext_getElem?
  intro j
  have hj := h j
  rw [List.getD_eq_getElem?_getD] at hj
  by_cases c1 : j < min a D.length
  · rw [List.append_assoc, List.getElem?_append_left (by rw [List.length_replicate]; exact c1), List.getElem?_replicate, if_pos c1]
    rw [List.getElem?_eq_getElem (by omega)] at hj ⊢
    cases e : D[j]'(by omega) with
    | false => rfl
    | true => have := hj e; omega
  · rw [List.append_assoc, List.getElem?_append_right (by rw [List.length_replicate]; omega), List.length_replicate]
    by_cases c2 : j < D.length
    · have ha : min a D.length = a := by omega
      rw [ha]
      by_cases c3 : j < a + 32
      · rw [List.getElem?_append_left (by rw [List.length_take, List.length_drop]; omega), List.getElem?_take, if_pos (by omega), List.getElem?_drop, show a + (j - a) = j by omega]
      · have hlen : ((D.drop a).take 32).length = 32 := by rw [List.length_take, List.length_drop]; omega
        rw [List.getElem?_append_right (by rw [hlen]; omega), List.getElem?_replicate, if_pos (by rw [hlen]; omega)]
        rw [List.getElem?_eq_getElem (by omega)] at hj ⊢
        cases e : D[j]'(by omega) with
        | false => rfl
        | true => have := hj e; omega
    · rw [List.getElem?_eq_none (by omega), List.getElem?_eq_none]
      rw [List.length_append, List.length_take, List.length_drop, List.length_replicate]
      omega
theorem all_false {D : List Bool} (h : ∀ e ∈ D, e = false) (j : Nat) : D.getD j false = false := by
  rw [List.getD_eq_getElem?_getD]
  by_cases c : j < D.length
  · rw [List.getElem?_eq_getElem c, Option.getD_some]
    exact h _ (List.getElem_mem c)
  · rw [List.getElem?_eq_none (by omega)]
    rfl
theorem num_app : ∀ a b : List Bool, num (a ++ b) = num a + 2 ^ a.length * num b
  | [], b => by simp [num]
  | e :: a, b => by
    show e.toNat + 2 * num (a ++ b) = e.toNat + 2 * num a + 2 ^ (a.length + 1) * num b
    rw [num_app a b, Nat.pow_succ, Nat.mul_add, Nat.mul_comm (2 ^ a.length) 2, Nat.mul_assoc]
    omega
theorem num_byte (b : Nat) (h : b < 256) : num (bits8 b) = b := by
  have : ∀ k : Fin 256, num (bits8 k.1) = k.1 := by decide +kernel
  exact this ⟨b, h⟩
theorem num_xor : ∀ a b : List Bool, a.length = b.length → num (List.zipWith xor a b) = num a ^^^ num b
  | [], [], _ => rfl
  | [], _ :: _, h => by simp at h
  | _ :: _, [], h => by simp at h
  | x :: a, y :: b, h => by
    show (xor x y).toNat + 2 * num (List.zipWith xor a b) = (x.toNat + 2 * num a) ^^^ (y.toNat + 2 * num b)
    have h1 := num_xor a b (by simpa using h)
    have h2 := xor_half (x.toNat + 2 * num a) (y.toNat + 2 * num b)
    have h3 := xor_odd (x.toNat + 2 * num a) (y.toNat + 2 * num b)
    have hx : x.toNat < 2 := by cases x <;> decide
    have hy : y.toNat < 2 := by cases y <;> decide
    rw [show (x.toNat + 2 * num a) / 2 = num a by omega, show (y.toNat + 2 * num b) / 2 = num b by omega, ← h1] at h2
    have hz : (xor x y).toNat = (x.toNat + y.toNat) % 2 := by cases x <;> cases y <;> rfl
    generalize (x.toNat + 2 * num a) ^^^ (y.toNat + 2 * num b) = z at h2 h3 ⊢
    omega
theorem num_lt : ∀ (D : List Bool) (m : Nat), (∀ j, m ≤ j → D.getD j false = false) → num D < 2 ^ m
  | [], m, _ => Nat.pow_pos (by decide)
  | e :: D, 0, h => by
    have h0 := h 0 (Nat.le_refl _)
    have h1 := num_lt D 0 (fun j _ => by have := h (j + 1) (by omega); simpa using this)
    have : e = false := by simpa using h0
    subst this
    show 0 + 2 * num D < 1
    have : num D < 1 := h1
    omega
  | e :: D, m + 1, h => by
    have h1 := num_lt D m (fun j hj => by have := h (j + 1) (by omega); simpa using this)
    show e.toNat + 2 * num D < 2 ^ (m + 1)
    have he : e.toNat < 2 := by cases e <;> decide
    rw [Nat.pow_succ]
    omega
theorem num_none (D : List Bool) (h : ∀ j, D.getD j false = false) : num D = 0 := by
  have := num_lt D 0 (fun j _ => h j)
  simpa using this
theorem num_zero' (D : List Bool) (h : num D = 0) : ∀ j, D.getD j false = false := all_false (num_zero D h)
/-- A list, and a sum of 32 bits behind it: where both fit, and the bits differ within one window of 32 alone, no bit differs. -/
theorem sum_burst (P P' Q Q' : List Nat) (a : Nat) (hP : ∀ b ∈ P, b < 256) (hP' : ∀ b ∈ P', b < 256) (hl : P.length = P'.length) (hQl : Q.length = Q'.length) (hQ4 : Q.length = 4)
    (hw : ∀ j, xor (bt P j) (bt P' j) = true → a ≤ j ∧ j < a + 32) (hw2 : ∀ j, xor (bt Q j) (bt Q' j) = true → a ≤ 8 * P.length + j ∧ 8 * P.length + j < a + 32)
    (h1 : num (bitsL Q) = crcN P 4294967295 ^^^ 4294967295) (h2 : num (bitsL Q') = crcN P' 4294967295 ^^^ 4294967295) : (∀ j, bt P j = bt P' j) ∧ ∀ j, bt Q j = bt Q' j := by
  obtain ⟨DP, hDP⟩ : ∃ x, x = List.zipWith xor (bitsL P) (bitsL P') := ⟨_, rfl⟩
  obtain ⟨DQ, hDQ⟩ : ∃ x, x = List.zipWith xor (bitsL Q) (bitsL Q') := ⟨_, rfl⟩
  have lP : DP.length = 8 * P.length := by rw [hDP, List.length_zipWith, bitsL_len, bitsL_len]; omega
  have lQ : DQ.length = 32 := by rw [hDQ, List.length_zipWith, bitsL_len, bitsL_len]; omega
  have gP : ∀ j, DP.getD j false = xor (bt P j) (bt P' j) := fun j => by rw [hDP, getD_xor _ _ (by rw [bitsL_len, bitsL_len, hl]), bitsL_get, bitsL_get]
  have gQ : ∀ j, DQ.getD j false = xor (bt Q j) (bt Q' j) := fun j => by rw [hDQ, getD_xor _ _ (by rw [bitsL_len, bitsL_len, hQl]), bitsL_get, bitsL_get]
  have key : run DP 0 = num DQ := by
    rw [hDP, hDQ, ← crcN_diff P P' 4294967295 hP hP' hl, num_xor _ _ (by rw [bitsL_len, bitsL_len, hQl]), h1, h2]
    generalize crcN P 4294967295 = x
    generalize crcN P' 4294967295 = y
    rw [Nat.xor_comm y, Nat.xor_assoc x, ← Nat.xor_assoc 4294967295 4294967295, Nat.xor_self, Nat.zero_xor]
  have fin : (∀ j, DP.getD j false = false) ∧ ∀ j, DQ.getD j false = false := by
    by_cases c : a + 32 ≤ 8 * P.length
    · have q0 : ∀ j, DQ.getD j false = false := fun j => by
        cases e : DQ.getD j false with
        | false => rfl
        | true => rw [gQ] at e; have := hw2 j e; omega
      rw [num_none DQ q0] at key
      have hwin := window DP a (fun j hj => hw j (by rw [← gP]; exact hj))
      rw [hwin] at key
      have hall := burst _ _ _ (by rw [List.length_take]; omega) key
      refine ⟨fun j => ?_, q0⟩
      cases e : DP.getD j false with
      | false => rfl
      | true =>
        have hj := hw j (by rw [← gP]; exact e)
        have := all_false hall (j - a)
        rw [List.getD_eq_getElem?_getD, List.getElem?_take, if_pos (by omega), List.getElem?_drop, show a + (j - a) = j by omega, ← List.getD_eq_getElem?_getD, e] at this
        exact absurd this (by decide)
    · have hwin := window DP a (fun j hj => hw j (by rw [← gP]; exact hj))
      rw [show DP.length - a - 32 = 0 by omega, List.replicate_zero, List.append_nil] at hwin
      have hel : ((DP.drop a).take 32).length = 8 * P.length - a := by rw [List.length_take, List.length_drop]; omega
      have hq : num DQ < 2 ^ (32 - ((DP.drop a).take 32).length) := by
        refine num_lt DQ _ (fun j hj => ?_)
        cases e : DQ.getD j false with
        | false => rfl
        | true =>
          by_cases cj : j < 32
          · rw [gQ] at e; have := hw2 j e; omega
          · rw [List.getD_eq_getElem?_getD, List.getElem?_eq_none (by omega)] at e
            exact absurd e (by decide)
      rw [hwin] at key
      obtain ⟨q0, hall⟩ := burst_end _ _ _ (by omega) hq key
      refine ⟨fun j => ?_, num_zero' DQ q0⟩
      cases e : DP.getD j false with
      | false => rfl
      | true =>
        have hj := hw j (by rw [← gP]; exact e)
        have := all_false hall (j - a)
        rw [List.getD_eq_getElem?_getD, List.getElem?_take, if_pos (by omega), List.getElem?_drop, show a + (j - a) = j by omega, ← List.getD_eq_getElem?_getD, e] at this
        exact absurd this (by decide)
  refine ⟨fun j => ?_, fun j => ?_⟩
  · have := fin.1 j
    rw [gP] at this
    revert this
    cases bt P j <;> cases bt P' j <;> decide
  · have := fin.2 j
    rw [gQ] at this
    revert this
    cases bt Q j <;> cases bt Q' j <;> decide
/-- The body's sum. -/
theorem body_burst (P P' : List Nat) (a : Nat) (hP : ∀ b ∈ P, b < 256) (hP' : ∀ b ∈ P', b < 256) (hl : P.length = P'.length) (o : Nat) (hw : ∀ j, xor (bt P j) (bt P' j) = true → a ≤ o + j ∧ o + j < a + 32) (h1 : crcN P 4294967295 = crcN P' 4294967295) : P = P' := by
  obtain ⟨DP, hDP⟩ : ∃ x, x = List.zipWith xor (bitsL P) (bitsL P') := ⟨_, rfl⟩
  have lP : DP.length = 8 * P.length := by rw [hDP, List.length_zipWith, bitsL_len, bitsL_len]; omega
  have gP : ∀ j, DP.getD j false = xor (bt P j) (bt P' j) := fun j => by rw [hDP, getD_xor _ _ (by rw [bitsL_len, bitsL_len, hl]), bitsL_get, bitsL_get]
  have key : run DP 0 = 0 := by rw [hDP, ← crcN_diff P P' 4294967295 hP hP' hl, h1, Nat.xor_self]
  have hwin := window DP (a - o) (fun j hj => by have := hw j (by rw [← gP]; exact hj); omega)
  rw [hwin] at key
  have hall := burst _ _ _ (by rw [List.length_take]; omega) key
  refine bytes_ext P P' hl hP hP' (fun j => ?_)
  have : DP.getD j false = false := by
    cases e : DP.getD j false with
    | false => rfl
    | true =>
      have hj := hw j (by rw [← gP]; exact e)
      have := all_false hall (j - (a - o))
      rw [List.getD_eq_getElem?_getD, List.getElem?_take, if_pos (by omega), List.getElem?_drop, show (a - o) + (j - (a - o)) = j by omega, ← List.getD_eq_getElem?_getD, e] at this
      exact absurd this (by decide)
  rw [gP] at this
  revert this
  cases bt P j <;> cases bt P' j <;> decide
end Go.Proofs.Ytnkcbkfccbfjpaa.Burst
/- Volumes, plain: what a volume of Cut says can be (can, step), and the numbers in its head. -/
namespace Go.Proofs.Ytnkcbkfccbfjpaa.XxhW
open Go.RowKit Go.Proofs.Ytnkcbkfccbfjpaa.QVolumesCuts Go.Proofs.YtnkcbkfccbfjpaaW.PrintWords Go.Proofs.YtnkcbkfccbfjpaaW.PrintLast Go.Proofs.YtnkcbkfccbfjpaaW.PrintMore
set_option linter.unusedVariables false
set_option linter.unusedSimpArgs false
theorem cnt_facts (len s n : Nat) (hs : 1 ≤ s) (hn : n = max 1 ((len + s - 1) / s)) : len ≤ n * s ∧ (2 ≤ n → (n - 1) * s < len) ∧ (n = 1 → len ≤ s) := by
  have h1 := Nat.div_add_mod (len + s - 1) s
  have h2 := Nat.mod_lt (len + s - 1) (show s > 0 by omega)
  rw [Nat.mul_comm] at h1
  have a1 : len ≤ n * s := by
    have : (len + s - 1) / s * s ≤ n * s := Nat.mul_le_mul_right _ (by omega)
    omega
  refine ⟨a1, fun h => ?_, fun h => ?_⟩
  · have e : n = (len + s - 1) / s := by omega
    rw [← e] at h1
    rw [Nat.sub_mul, Nat.one_mul]
    have : s ≤ n * s := Nat.le_mul_of_pos_left _ (by omega)
    omega
  · rw [h, Nat.one_mul] at a1
    exact a1
set_option maxHeartbeats 4000000 in
theorem step_part (k : Nat) (hk : 5 ≤ k) (set : Int) (len s n i : Nat) (b : List Int) (hs : 1 ≤ s) (hs2 : s ≤ 4194305) (hlen : len ≤ 4194304) (hn : n = max 1 ((len + s - 1) / s)) (hn2 : n ≤ 1000) (hc : volumes_count.f (len : Int) (s : Int) = some (n : Int)) (hi : i < n) (at_ size : Nat) (hat : at_ = i * s) (hsz : size = min (i * s + s) len - i * s) :
    ∃ r, volumes_volume_step.f k set (i : Int) (n : Int) false (len : Int) (at_ : Int) (size : Int) b = some r ∧ 0 ≤ r := by
  obtain ⟨k, rfl⟩ : ∃ q, k = q + 3 := ⟨k - 3, by omega⟩
  obtain ⟨c1, c2, c3⟩ := cnt_facts len s n hs hn
  unfold volumes_volume_step.f
  by_cases h1 : n = 1
  · have hi0 : i = 0 := by omega
    subst hi0
    have hl := c3 h1
    rw [Nat.zero_mul] at hat hsz
    rw [if_pos (by omega), if_pos (by omega), if_pos (by omega)]
    exact ⟨0, rfl, by decide⟩
  · have h2 := c2 (by omega)
    have hi1 : i * s ≤ (n - 1) * s := Nat.mul_le_mul_right _ (by omega)
    have e1 := Aside0.mk (show wrap64 ((n : Int) - 1) = ((n - 1 : Nat) : Int) by rw [show (n : Int) - 1 = ((n - 1 : Nat) : Int) by omega]; exact wrap_small _ (by omega))
    have hns : n * s = (n - 1) * s + s := by rw [Nat.sub_mul, Nat.one_mul]; have : s ≤ n * s := Nat.le_mul_of_pos_left _ (by omega); omega
    have hsl : s < len := by have : s ≤ (n - 1) * s := Nat.le_mul_of_pos_left _ (by omega); omega
    have e3 := Aside0.mk (show wrap64 ((s : Int) * (i : Int)) = ((i * s : Nat) : Int) by rw [← Int.natCast_mul, Nat.mul_comm]; exact wrap_small _ (by omega))
    rw [if_neg (by omega), if_neg (by decide), e1.out, volumes_volume_step.j0]
    simp only [e1.out]
    by_cases h3 : i = n - 1
    · have hb : ((i : Int) == ((n - 1 : Nat) : Int)) = true := by rw [h3]; simp
      have hA : at_ = (n - 1) * s := by rw [hat, h3]
      have hm := Aside0.mk (show Int.tmod (at_ : Int) ((n - 1 : Nat) : Int) = 0 by rw [Int.tmod_eq_emod_of_nonneg (by omega), hA, Int.natCast_mul, Int.mul_emod_right])
      have hd := Aside0.mk (show Int.tdiv (at_ : Int) ((n - 1 : Nat) : Int) = (s : Int) by rw [Int.tdiv_eq_ediv_of_nonneg (by omega), hA, Int.natCast_mul, Int.mul_ediv_cancel_left _ (by omega)])
      have e4 := Aside0.mk (show wrap64 ((len : Int) - ((i * s : Nat) : Int)) = ((len - i * s : Nat) : Int) by rw [show (len : Int) - ((i * s : Nat) : Int) = ((len - i * s : Nat) : Int) by omega]; exact wrap_small _ (by omega))
      have hi2 : i * s = (n - 1) * s := by rw [h3]
      rw [if_pos hb, if_neg (by omega), if_pos hm.out, hd.out, wrap_small _ (by omega), volumes_volume_step.j1, if_neg (by omega), if_neg (by omega), hc, Option.bind_some, volumes_volume_step.j2, show ((n : Int) != (n : Int)) = false by simp, if_neg (by decide), if_neg (by decide), e1.out, if_pos (by omega), e3.out, e4.out, if_pos (by omega), if_pos (by omega)]
      exact ⟨_, rfl, by omega⟩
    · have hb : ((i : Int) == ((n - 1 : Nat) : Int)) = false := by rw [beq_eq_false_iff_ne]; omega
      have hi3 : i * s + s ≤ (n - 1) * s := by
        have : (i + 1) * s ≤ (n - 1) * s := Nat.mul_le_mul_right _ (by omega)
        rw [Nat.add_mul, Nat.one_mul] at this
        exact this
      have hss : size = s := by omega
      rw [if_neg (by rw [hb]; decide), hss, volumes_volume_step.j1, if_neg (by omega), if_neg (by omega), hc, Option.bind_some, volumes_volume_step.j2, show ((n : Int) != (n : Int)) = false by simp, if_neg (by decide), if_neg (by decide), e1.out, if_neg (by omega), if_pos rfl, e3.out, if_pos (by omega)]
      exact ⟨_, rfl, by omega⟩
set_option maxHeartbeats 4000000 in
theorem step_spare (k : Nat) (hk : 5 ≤ k) (set : Int) (len s n : Nat) (b : List Int) (hs : 1 ≤ s) (hs2 : s ≤ 4194305) (hlen : len ≤ 4194304) (hn : n = max 1 ((len + s - 1) / s)) (hn2 : n ≤ 1000) (hc : volumes_count.f (len : Int) (s : Int) = some (n : Int)) (size : Nat) (hsz : size = min s len) :
    ∃ r, volumes_volume_step.f k set (n : Int) (n : Int) true (len : Int) 0 (size : Int) b = some r ∧ 0 ≤ r := by
  obtain ⟨k, rfl⟩ : ∃ q, k = q + 3 := ⟨k - 3, by omega⟩
  obtain ⟨c1, c2, c3⟩ := cnt_facts len s n hs hn
  unfold volumes_volume_step.f
  by_cases h1 : n = 1
  · have hl := c3 h1
    rw [if_pos (by omega), if_pos (by omega), if_pos (by omega)]
    exact ⟨0, rfl, by decide⟩
  · have h2 := c2 (by omega)
    have hsl : s < len := by have : s ≤ (n - 1) * s := Nat.le_mul_of_pos_left _ (by omega); omega
    have hss : size = s := by omega
    rw [if_neg (by omega), if_pos rfl, volumes_volume_step.j0, if_neg (by decide), hss, volumes_volume_step.j1, if_neg (by omega), if_neg (by omega), hc, Option.bind_some, volumes_volume_step.j2, show ((n : Int) != (n : Int)) = false by simp, if_neg (by decide), if_pos rfl, if_pos rfl, if_pos rfl]
    exact ⟨_, rfl, by omega⟩
theorem can_of_step (k : Nat) (set : Int) (num n len at_ size : Nat) (sp : Bool) (b : List Int) (hn : 1 ≤ n) (hn2 : n ≤ 1000) (hlen : len ≤ 4194304) (ha : at_ ≤ 4194304) (hsz : size ≤ 4194304) (hsp : sp = ((num : Int) == (n : Int))) (hnum : num ≤ n) (r : Int) (hr : 0 ≤ r) (h : volumes_volume_step.f k set (num : Int) (n : Int) sp (len : Int) (at_ : Int) (size : Int) b = some r) :
    volumes_volume_can.f (k + 1) set (num : Int) (n : Int) sp (len : Int) (at_ : Int) (size : Int) b = some true := by
  unfold volumes_volume_can.f
  rw [if_neg (by omega), if_neg (by omega), if_neg (by omega), if_neg (by omega), if_neg (by omega), if_neg (by omega), if_neg (by omega), decide_eq_false (by omega), volumes_volume_can.j0, if_neg (by decide), ← hsp, show (sp != sp) = false by simp, if_neg (by decide), if_neg (by omega), if_neg (by omega), h, Option.bind_some, decide_eq_true (by omega)]
/-- What the volumes of Cut say can be. -/
theorem can_cut (k : Nat) (hk : 6 ≤ k) (set : Int) (l : List Int) (S : Nat) (hS : 1 ≤ S) (hS2 : S ≤ 9223372036854775743) (hl : l.length ≤ 4194304) (hn : countOf l S ≤ 1000) (b : List Int) :
    (∀ i, i < countOf l S → volumes_volume_can.f k set (i : Int) ((countOf l S : Nat) : Int) false (l.length : Int) ((i * stepOf l S : Nat) : Int) ((piece l (stepOf l S) i).length : Int) b = some true) ∧
    volumes_volume_can.f k set ((countOf l S : Nat) : Int) ((countOf l S : Nat) : Int) true (l.length : Int) 0 ((min (stepOf l S) l.length : Nat) : Int) b = some true := by
  obtain ⟨f1, _, _, f4, f5, f6, f7⟩ := count_facts l S hS hS2 hl
  obtain ⟨k, rfl⟩ : ∃ q, k = q + 1 := ⟨k - 1, by omega⟩
  refine ⟨fun i hi => ?_, ?_⟩
  · have h4 := f4 i hi
    have hp := piece_len l (stepOf l S) i
    obtain ⟨r, h, hr⟩ := step_part k (by omega) set l.length (stepOf l S) (countOf l S) i b f5 f6 hl rfl hn f1 hi _ _ rfl hp
    exact can_of_step k set i (countOf l S) l.length _ _ false b f7 hn hl (by omega) (by omega) (by symm; rw [beq_eq_false_iff_ne]; omega) (by omega) r hr h
  · obtain ⟨r, h, hr⟩ := step_spare k (by omega) set l.length (stepOf l S) (countOf l S) b f5 f6 hl rfl hn f1 _ rfl
    exact can_of_step k set (countOf l S) (countOf l S) l.length 0 _ true b f7 hn hl (by omega) (by omega) (by simp) (by omega) r hr h
/-! ### the numbers in a volume's head -/
theorem drop_app (a b : List Int) (n : Nat) (h : a.length = n) : (a ++ b).drop n = b := by rw [← h, List.drop_left]
theorem drop_more (v a b : List Int) (n m q : Nat) (h : v.drop n = a ++ b) (ha : a.length = m) (hq : q = n + m) : v.drop q = b := by
  rw [hq, ← List.drop_drop, h]
  exact drop_app a b m ha
theorem vol_fields (set num cnt flag whole at_ size : Int) (b : List Int) (h0 : W64u set) (h1 : 0 ≤ num ∧ num < 4294967296) (h2 : 0 ≤ cnt ∧ cnt < 4294967296) (h3 : 0 ≤ flag ∧ flag < 4294967296) (h4 : W64u whole) (h5 : W64u at_) (h6 : W64u size) :
    (volP set num cnt flag whole at_ size b).take 8 = magicL ∧ numP ((volP set num cnt flag whole at_ size b).drop 8) 8 = set ∧ numP ((volP set num cnt flag whole at_ size b).drop 16) 4 = num ∧ numP ((volP set num cnt flag whole at_ size b).drop 20) 4 = cnt ∧ numP ((volP set num cnt flag whole at_ size b).drop 24) 4 = flag ∧
    numP ((volP set num cnt flag whole at_ size b).drop 28) 8 = whole ∧ numP ((volP set num cnt flag whole at_ size b).drop 36) 8 = at_ ∧ numP ((volP set num cnt flag whole at_ size b).drop 44) 8 = size ∧ numP ((volP set num cnt flag whole at_ size b).drop 52) 4 = crc b ∧ numP ((volP set num cnt flag whole at_ size b).drop 56) 4 = 0 ∧
    numP ((volP set num cnt flag whole at_ size b).drop 60) 4 = crc ((volP set num cnt flag whole at_ size b).take 60) ∧ (volP set num cnt flag whole at_ size b).drop 64 = b := by
  obtain ⟨v, hv⟩ : ∃ v, v = volP set num cnt flag whole at_ size b := ⟨_, rfl⟩
  have hH := headP_len set num cnt flag whole at_ size b
  have t60 : v.take 60 = headP set num cnt flag whole at_ size b := by
    rw [hv]
    unfold volP
    rw [List.append_assoc, List.take_append_of_le_length (by omega), List.take_of_length_le (by omega)]
  have d60 : v.drop 60 = lowL (crc (headP set num cnt flag whole at_ size b)) 4 ++ b := by
    rw [hv]
    unfold volP
    rw [List.append_assoc]
    exact drop_app _ _ 60 hH
  have d64 := drop_more v _ _ 60 4 64 d60 (lowL_len _ _) rfl
  have hc := crc_in (headP set num cnt flag whole at_ size b)
  have hcb := crc_in b
  obtain ⟨z, hz⟩ : ∃ z, z = lowL (crc (headP set num cnt flag whole at_ size b)) 4 ++ b := ⟨_, rfl⟩
  have hv2 : v = magicL ++ (lowL set 8 ++ (lowL num 4 ++ (lowL cnt 4 ++ (lowL flag 4 ++ (lowL whole 8 ++ (lowL at_ 8 ++ (lowL size 8 ++ (lowL (crc b) 4 ++ (lowL 0 4 ++ z))))))))) := by
    rw [hv, hz]
    unfold volP headP
    simp only [List.append_assoc]
  rw [← hv]
  have hmag : magicL.length = 8 := rfl
  have d8 := (congrArg (List.drop 8) hv2).trans (drop_app _ _ 8 hmag)
  have d16 := drop_more v _ _ 8 8 16 d8 (lowL_len _ _) rfl
  have d20 := drop_more v _ _ 16 4 20 d16 (lowL_len _ _) rfl
  have d24 := drop_more v _ _ 20 4 24 d20 (lowL_len _ _) rfl
  have d28 := drop_more v _ _ 24 4 28 d24 (lowL_len _ _) rfl
  have d36 := drop_more v _ _ 28 8 36 d28 (lowL_len _ _) rfl
  have d44 := drop_more v _ _ 36 8 44 d36 (lowL_len _ _) rfl
  have d52 := drop_more v _ _ 44 8 52 d44 (lowL_len _ _) rfl
  have d56 := drop_more v _ _ 52 4 56 d52 (lowL_len _ _) rfl
  have e8 : ∀ x : Int, W64u x → x % 2 ^ (8 * 8) = x := fun x h => by
    have : (2 : Int) ^ (8 * 8) = 18446744073709551616 := by decide
    rw [this]
    exact Int.emod_eq_of_lt h.1 h.2
  have e4 : ∀ x : Int, 0 ≤ x ∧ x < 4294967296 → x % 2 ^ (8 * 4) = x := fun x h => by
    have : (2 : Int) ^ (8 * 4) = 4294967296 := by decide
    rw [this]
    exact Int.emod_eq_of_lt h.1 h.2
  refine ⟨by rw [hv2, List.take_append_of_le_length (by rw [hmag]; omega)]; rfl, ?_, ?_, ?_, ?_, ?_, ?_, ?_, ?_, ?_, ?_, d64⟩
  · rw [d8, numP_low _ h0.1 8 _ 8 (by decide), e8 _ h0]
  · rw [d16, numP_low _ h1.1 4 _ 4 (by decide), e4 _ h1]
  · rw [d20, numP_low _ h2.1 4 _ 4 (by decide), e4 _ h2]
  · rw [d24, numP_low _ h3.1 4 _ 4 (by decide), e4 _ h3]
  · rw [d28, numP_low _ h4.1 8 _ 8 (by decide), e8 _ h4]
  · rw [d36, numP_low _ h5.1 8 _ 8 (by decide), e8 _ h5]
  · rw [d44, numP_low _ h6.1 8 _ 8 (by decide), e8 _ h6]
  · rw [d52, numP_low _ hcb.1 4 _ 4 (by decide), e4 _ hcb]
  · rw [d56, numP_low _ (by decide) 4 _ 4 (by decide)]; rfl
  · rw [d60, t60, numP_low _ hc.1 4 _ 4 (by decide), e4 _ hc]
end Go.Proofs.Ytnkcbkfccbfjpaa.XxhW
/- Read of volumes (f38), over what get answers: the walk. -/
namespace Go.Proofs.Ytnkcbkfccbfjpaa.XxhW
open Go.RowKit Go.Proofs.Ytnkcbkfccbfjpaa.QVolumesCuts Go.Proofs.YtnkcbkfccbfjpaaW.PrintWords Go.Proofs.YtnkcbkfccbfjpaaW.PrintLast Go.Proofs.YtnkcbkfccbfjpaaW.PrintMore
set_option linter.unusedVariables false
set_option linter.unusedSimpArgs false
theorem own_ge_b {w : World} {B : Nat} {e : TypeId} {size n : Nat} {rv : Value} {xs : List Value} (h : w.ownsRow B e size rv n xs) (i : Nat) (hi : some i = rv.ownBlock) : B ≤ i ∧ i < w.heap.size := by
  rcases h.2 with ⟨rfl, _⟩ | ⟨g, cap, cur, rfl, h2, h3, h4⟩
  · cases hi
  · injection hi with hi
    subst hi
    exact ⟨h2, blk_lt h3⟩
set_option maxHeartbeats 8000000 in
set_option maxRecDepth 100000 in
theorem read_refuse (A : Option Addr) (c : Nat) (b : List Int) (w : World) (er : Int) (he : (er != 0) = true)
    (hget : ∀ W : World, Below w.heap.size w W → Calls Try.prog 67 #[.slice A b.length c] W fun e w' => (e = .returned (.tuple #[.agg #[.int .u64 0, .int .i64 0, .int .i64 0, .bool false, .int .i64 0, .int .i64 0, .int .i64 0, .slice none 0 0], .int .i64 er])) ∧ Below W.heap.size W w') :
    Calls Try.prog 38 #[.slice A b.length c] w fun e w' => ∃ v7_ : Value, e = .returned (.tuple #[.agg #[.int .u64 0, .int .i64 0, .int .i64 0, .bool false, .int .i64 0, .int .i64 0, .int .i64 0], v7_, .int .i64 er]) ∧ Kd.R (Kd.int .u8) 5 w' w.heap.size (fun _ => True) v7_ ([] : List Int) ∧ Below w.heap.size w w' := by
  have HGt := Aside0.mk hget
  clear hget
  have HB := Aside0.mk (Below.refl w.heap.size w)
  go_enter Try.func38, Try.ntmps38
  go_upto_region 3 with (first | ((with_reducible refine gate_dst (N := 2) rfl ?_); refine box_event ?hg (N := 2) ?hd (cs := #[.int .u64 0, .int .i64 0, .int .i64 0, .bool false, .int .i64 0, .int .i64 0, .int .i64 0]) (t := 68) ?hr ?_; (case hd => rfl); (case hg => rfl); (case hr => first | (go_simp; done) | (go_simp; rfl)); intro gr hgv w1 hbox hb; have n0 := Aside0.mk (below_step HB.out hb); have n1 := Aside0.mk (show w.heap.size ≤ gr by rw [hgv]; exact below_size HB.out); have BKR := Aside0.mk hbox; have GR := n1; clear n1; clear HB; have HB := n0; clear n0 hb hbox hgv) | (go_at_call 67; refine (HGt.out _ HB.out).mono ?_; rintro e w2 ⟨rfl, hb2⟩; have n0 := Aside0.mk (below_step HB.out hb2); have n1 := Aside0.mk (blk_below BKR.out hb2); clear HB BKR; have HB := n0; have BKR := n1; clear n0 n1) | ((with_reducible refine gate_dst (N := 5) rfl ?_); refine box_event ?hg (N := 5) ?hd (cs := #[.int .u64 0, .int .i64 0, .int .i64 0, .bool false, .int .i64 0, .int .i64 0, .int .i64 0, .slice none 0 0]) (t := 88) ?hr ?_; (case hd => rfl); (case hg => rfl); (case hr => first | (go_simp; done) | (go_simp; rfl)); intro gv hgv w3 hbox hb; have n0 := Aside0.mk (below_step HB.out hb); have n1 := Aside0.mk (show w.heap.size ≤ gv by rw [hgv]; exact below_size HB.out); have n2 := Aside0.mk (blk_below BKR.out hb); clear BKR; have BKR := n2; have BKV := Aside0.mk hbox; have GV := n1; clear n1 n2; have y0 : w3.cell? ⟨gv, 0, none⟩ = some (.int .u64 0) := (blk_cell hbox 0).trans rfl; have z0 := blk_frozen hbox 0; have y1 : w3.cell? ⟨gv, 1, none⟩ = some (.int .i64 0) := (blk_cell hbox 1).trans rfl; have z1 := blk_frozen hbox 1; have y2 : w3.cell? ⟨gv, 2, none⟩ = some (.int .i64 0) := (blk_cell hbox 2).trans rfl; have z2 := blk_frozen hbox 2; have y3 : w3.cell? ⟨gv, 3, none⟩ = some (.bool false) := (blk_cell hbox 3).trans rfl; have z3 := blk_frozen hbox 3; have y4 : w3.cell? ⟨gv, 4, none⟩ = some (.int .i64 0) := (blk_cell hbox 4).trans rfl; have z4 := blk_frozen hbox 4; have y5 : w3.cell? ⟨gv, 5, none⟩ = some (.int .i64 0) := (blk_cell hbox 5).trans rfl; have z5 := blk_frozen hbox 5; have y6 : w3.cell? ⟨gv, 6, none⟩ = some (.int .i64 0) := (blk_cell hbox 6).trans rfl; have z6 := blk_frozen hbox 6; have y7 : w3.cell? ⟨gv, 7, none⟩ = some (.slice none 0 0) := (blk_cell hbox 7).trans rfl; have z7 := blk_frozen hbox 7; clear HB; have HB := n0; clear n0 hb hbox hgv))
  clear y0 y1 y2 y3 y4 y5 y6 y7 z0 z1 z2 z3 z4 z5 z6 z7
  have h8 := set8 BKV.out (.int .u64 0) (.int .i64 0) (.int .i64 0) (.bool false) (.int .i64 0) (.int .i64 0) (.int .i64 0) (.slice none 0 0)
  have hne : gr ≠ gv := blk_ne BKR.out BKV.out (by decide)
  have hgv := GV.out
  have HBz := Aside0.mk (((Fr.of_below HB.out (fun i => i ≠ gv)).then h8.2).below (B := w.heap.size) (fun i hi => ⟨hi, by omega⟩))
  have HRz := Aside0.mk (h8.2.heap BKR.out hne)
  have HVz := Aside0.mk h8.1
  have HNE := Aside0.mk hne
  clear hne hgv h8 HB BKR BKV
  generalize ((((((((w3.setCell ⟨gv, 0, none⟩ (.int .u64 0)).setCell ⟨gv, 1, none⟩ (.int .i64 0)).setCell ⟨gv, 2, none⟩ (.int .i64 0)).setCell ⟨gv, 3, none⟩ (.bool false)).setCell ⟨gv, 4, none⟩ (.int .i64 0)).setCell ⟨gv, 5, none⟩ (.int .i64 0)).setCell ⟨gv, 6, none⟩ (.int .i64 0)).setCell ⟨gv, 7, none⟩ (.slice none 0 0)) = wz at HBz HRz HVz ⊢
  have x0 : wz.cell? ⟨gr, 0, none⟩ = some (.int .u64 0) := (blk_cell HRz.out 0).trans rfl
  have u0 := blk_frozen HRz.out 0
  have x1 : wz.cell? ⟨gr, 1, none⟩ = some (.int .i64 0) := (blk_cell HRz.out 1).trans rfl
  have u1 := blk_frozen HRz.out 1
  have x2 : wz.cell? ⟨gr, 2, none⟩ = some (.int .i64 0) := (blk_cell HRz.out 2).trans rfl
  have u2 := blk_frozen HRz.out 2
  have x3 : wz.cell? ⟨gr, 3, none⟩ = some (.bool false) := (blk_cell HRz.out 3).trans rfl
  have u3 := blk_frozen HRz.out 3
  have x4 : wz.cell? ⟨gr, 4, none⟩ = some (.int .i64 0) := (blk_cell HRz.out 4).trans rfl
  have u4 := blk_frozen HRz.out 4
  have x5 : wz.cell? ⟨gr, 5, none⟩ = some (.int .i64 0) := (blk_cell HRz.out 5).trans rfl
  have u5 := blk_frozen HRz.out 5
  have x6 : wz.cell? ⟨gr, 6, none⟩ = some (.int .i64 0) := (blk_cell HRz.out 6).trans rfl
  have u6 := blk_frozen HRz.out 6
  go_wp2_with fail
  clear x0 x1 x2 x3 x4 x5 x6 u0 u1 u2 u3 u4 u5 u6
  have g7 := set7 HRz.out (.int .u64 0) (.int .i64 0) (.int .i64 0) (.bool false) (.int .i64 0) (.int .i64 0) (.int .i64 0)
  have hgr := GR.out
  have HBx := Aside0.mk (((Fr.of_below HBz.out (fun i => i ≠ gr)).then g7.2).below (B := w.heap.size) (fun i hi => ⟨hi, by omega⟩))
  (try simp only [Exit.inBlock, Exit.then])
  refine bodyPost_ret (results_ctt rfl _ _ gr 68 #[.int .u64 0, .int .i64 0, .int .i64 0, .bool false, .int .i64 0, .int .i64 0, .int .i64 0] (0, 0) _ rfl g7.1 Try.underlying68 rfl (by kernel_rfl)) rfl ?_
  exact ⟨_, by first | rfl | (simp; done), Kd.R_nil _ _ _ _ _, HBx.out⟩
set_option maxHeartbeats 8000000 in
set_option maxRecDepth 100000 in
theorem read_ok (A : Option Addr) (c : Nat) (b : List Int) (w : World) (v0 v1 v2 : Int) (v3 : Bool) (v4 v5 v6 : Int) (l : List Int) (cb : Nat) (hl : l.length ≤ 100000000)
    (hget : ∀ W : World, Below w.heap.size w W → Calls Try.prog 67 #[.slice A b.length c] W fun e w' => (∃ A' : Option Addr, e = .returned (.tuple #[.agg #[.int .u64 v0, .int .i64 v1, .int .i64 v2, .bool v3, .int .i64 v4, .int .i64 v5, .int .i64 v6, (Value.slice A' l.length cb)], .int .i64 0]) ∧ ReadsInt W .u8 A' l.length l) ∧ Below W.heap.size W w') :
    Calls Try.prog 38 #[.slice A b.length c] w fun e w' => ∃ v7_ : Value, e = .returned (.tuple #[.agg #[.int .u64 v0, .int .i64 v1, .int .i64 v2, .bool v3, .int .i64 v4, .int .i64 v5, .int .i64 v6], v7_, .int .i64 0]) ∧ Kd.R (Kd.int .u8) 5 w' w.heap.size (fun _ => True) v7_ l ∧ Below w.heap.size w w' := by
  have HGt := Aside0.mk hget
  clear hget
  have HB := Aside0.mk (Below.refl w.heap.size w)
  go_enter Try.func38, Try.ntmps38
  go_upto_region 4 with (first | ((with_reducible refine gate_dst (N := 2) rfl ?_); refine box_event ?hg (N := 2) ?hd (cs := #[.int .u64 0, .int .i64 0, .int .i64 0, .bool false, .int .i64 0, .int .i64 0, .int .i64 0]) (t := 68) ?hr ?_; (case hd => rfl); (case hg => rfl); (case hr => first | (go_simp; done) | (go_simp; rfl)); intro gr hgv w1 hbox hb; have n0 := Aside0.mk (below_step HB.out hb); have n1 := Aside0.mk (show w.heap.size ≤ gr by rw [hgv]; exact below_size HB.out); have BKR := Aside0.mk hbox; have GR := n1; clear n1; clear HB; have HB := n0; clear n0 hb hbox hgv) | (go_at_call 67; refine (HGt.out _ HB.out).mono ?_; rintro e w2 ⟨⟨A', rfl, hrd⟩, hb2⟩; have n0 := Aside0.mk (below_step HB.out hb2); have n1 := Aside0.mk (blk_below BKR.out hb2); clear HB BKR; have HB := n0; have BKR := n1; have HRD := Aside0.mk hrd; have HB1 := Aside0.mk hb2; clear n0 n1 hrd hb2) | ((with_reducible refine gate_dst (N := 5) rfl ?_); refine box_event ?hg (N := 5) ?hd (cs := #[.int .u64 0, .int .i64 0, .int .i64 0, .bool false, .int .i64 0, .int .i64 0, .int .i64 0, .slice none 0 0]) (t := 88) ?hr ?_; (case hd => rfl); (case hg => rfl); (case hr => first | (go_simp; done) | (go_simp; rfl)); intro gv hgv w3 hbox hb; have n0 := Aside0.mk (below_step HB.out hb); have n1 := Aside0.mk (show w.heap.size ≤ gv by rw [hgv]; exact below_size HB.out); have n2 := Aside0.mk (blk_below BKR.out hb); clear BKR; have BKR := n2; have BKV := Aside0.mk hbox; have GV := n1; clear n1 n2; have n3 := Aside0.mk (below_step HB1.out hb); have GV1 := Aside0.mk (show w1.heap.size ≤ gv by rw [hgv]; exact below_size HB1.out); clear HB1; have HB1 := n3; clear n3; have y0 : w3.cell? ⟨gv, 0, none⟩ = some (.int .u64 0) := (blk_cell hbox 0).trans rfl; have z0 := blk_frozen hbox 0; have y1 : w3.cell? ⟨gv, 1, none⟩ = some (.int .i64 0) := (blk_cell hbox 1).trans rfl; have z1 := blk_frozen hbox 1; have y2 : w3.cell? ⟨gv, 2, none⟩ = some (.int .i64 0) := (blk_cell hbox 2).trans rfl; have z2 := blk_frozen hbox 2; have y3 : w3.cell? ⟨gv, 3, none⟩ = some (.bool false) := (blk_cell hbox 3).trans rfl; have z3 := blk_frozen hbox 3; have y4 : w3.cell? ⟨gv, 4, none⟩ = some (.int .i64 0) := (blk_cell hbox 4).trans rfl; have z4 := blk_frozen hbox 4; have y5 : w3.cell? ⟨gv, 5, none⟩ = some (.int .i64 0) := (blk_cell hbox 5).trans rfl; have z5 := blk_frozen hbox 5; have y6 : w3.cell? ⟨gv, 6, none⟩ = some (.int .i64 0) := (blk_cell hbox 6).trans rfl; have z6 := blk_frozen hbox 6; have y7 : w3.cell? ⟨gv, 7, none⟩ = some (.slice none 0 0) := (blk_cell hbox 7).trans rfl; have z7 := blk_frozen hbox 7; clear HB; have HB := n0; clear n0 hb hbox hgv))
  clear y0 y1 y2 y3 y4 y5 y6 y7 z0 z1 z2 z3 z4 z5 z6 z7
  have h8 := set8 BKV.out (.int .u64 v0) (.int .i64 v1) (.int .i64 v2) (.bool v3) (.int .i64 v4) (.int .i64 v5) (.int .i64 v6) ((Value.slice A' l.length cb))
  have hne : gr ≠ gv := blk_ne BKR.out BKV.out (by decide)
  have hgv := GV.out
  have HBz := Aside0.mk (((Fr.of_below HB.out (fun i => i ≠ gv)).then h8.2).below (B := w.heap.size) (fun i hi => ⟨hi, by omega⟩))
  have HRz := Aside0.mk (h8.2.heap BKR.out hne)
  have HVz := Aside0.mk h8.1
  have HNE := Aside0.mk hne
  have hgv1 := GV1.out
  have HB1z := Aside0.mk (((Fr.of_below HB1.out (fun i => i ≠ gv)).then h8.2).below (B := w1.heap.size) (fun i hi => ⟨hi, by omega⟩))
  clear hgv1 HB1
  clear hne hgv h8 HB BKR BKV
  generalize ((((((((w3.setCell ⟨gv, 0, none⟩ (.int .u64 v0)).setCell ⟨gv, 1, none⟩ (.int .i64 v1)).setCell ⟨gv, 2, none⟩ (.int .i64 v2)).setCell ⟨gv, 3, none⟩ (.bool v3)).setCell ⟨gv, 4, none⟩ (.int .i64 v4)).setCell ⟨gv, 5, none⟩ (.int .i64 v5)).setCell ⟨gv, 6, none⟩ (.int .i64 v6)).setCell ⟨gv, 7, none⟩ ((Value.slice A' l.length cb))) = wz at HBz HRz HVz HB1z ⊢
  have HBd := Aside0.mk (show Below w.heap.size w wz.drew from below_drew HBz.out)
  have HB1d := Aside0.mk (show Below w1.heap.size w1 wz.drew from below_drew HB1z.out)
  have HRd := Aside0.mk (show wz.drew.heap[gr]? = some (.cells #[.int .u64 0, .int .i64 0, .int .i64 0, .bool false, .int .i64 0, .int .i64 0, .int .i64 0] 68 (0, 0)) from HRz.out)
  have HVd := Aside0.mk (show wz.drew.heap[gv]? = some (.cells #[.int .u64 v0, .int .i64 v1, .int .i64 v2, .bool v3, .int .i64 v4, .int .i64 v5, .int .i64 v6, (Value.slice A' l.length cb)] 88 (0, 0)) from HVz.out)
  have y0 : wz.drew.cell? ⟨gv, 0, none⟩ = some (.int .u64 v0) := (blk_cell HVd.out 0).trans rfl
  have y1 : wz.drew.cell? ⟨gv, 1, none⟩ = some (.int .i64 v1) := (blk_cell HVd.out 1).trans rfl
  have y2 : wz.drew.cell? ⟨gv, 2, none⟩ = some (.int .i64 v2) := (blk_cell HVd.out 2).trans rfl
  have y3 : wz.drew.cell? ⟨gv, 3, none⟩ = some (.bool v3) := (blk_cell HVd.out 3).trans rfl
  have y4 : wz.drew.cell? ⟨gv, 4, none⟩ = some (.int .i64 v4) := (blk_cell HVd.out 4).trans rfl
  have y5 : wz.drew.cell? ⟨gv, 5, none⟩ = some (.int .i64 v5) := (blk_cell HVd.out 5).trans rfl
  have y6 : wz.drew.cell? ⟨gv, 6, none⟩ = some (.int .i64 v6) := (blk_cell HVd.out 6).trans rfl
  have y7 : wz.drew.cell? ⟨gv, 7, none⟩ = some ((Value.slice A' l.length cb)) := (blk_cell HVd.out 7).trans rfl
  refine start_ (n := 8) (S := fun w' => w'.cell? ⟨gv, 0, none⟩ = some (.int .u64 v0) ∧ w'.cell? ⟨gv, 1, none⟩ = some (.int .i64 v1) ∧ w'.cell? ⟨gv, 2, none⟩ = some (.int .i64 v2) ∧ w'.cell? ⟨gv, 3, none⟩ = some (.bool v3) ∧ w'.cell? ⟨gv, 4, none⟩ = some (.int .i64 v4) ∧ w'.cell? ⟨gv, 5, none⟩ = some (.int .i64 v5) ∧ w'.cell? ⟨gv, 6, none⟩ = some (.int .i64 v6) ∧ w'.cell? ⟨gv, 7, none⟩ = some ((Value.slice A' l.length cb))) (ds := [5]) #[false, false, false, false, false, false, false, false] (by kernel_rfl) rfl rfl ⟨y0, y1, y2, y3, y4, y5, y6, y7⟩ (fun hHeld => ?_)
  generalize wz.drew = wd at HBd HB1d HRd HVd y0 y1 y2 y3 y4 y5 y6 y7 hHeld ⊢
  refine pure_ (i := 0) (N := some 16) (v := ?_) (a' := ?_) #[true, false, false, false, false, false, false, false] rfl rfl (by kernel_rfl) (fun _ _ _ h => h) (Or.inl ⟨by rfl, ?_⟩) ?_ ?_
  rotate_left
  · intro w'
    go_simp
    with_reducible rfl
  rotate_left
  · simp only [Act.put, List.setIfInBounds_toArray, List.set_cons_zero, List.set_cons_succ, i64_w, i32_w]
    rfl
  refine pure_ (i := 2) (N := some 18) (v := ?_) (a' := ?_) #[true, false, true, false, false, false, false, false] rfl rfl (by kernel_rfl) (fun _ _ _ h => h) (Or.inl ⟨by rfl, ?_⟩) ?_ ?_
  rotate_left
  · intro w'
    go_simp
    with_reducible rfl
  rotate_left
  · simp only [Act.put, List.setIfInBounds_toArray, List.set_cons_zero, List.set_cons_succ, i64_w, i32_w]
    rfl
  refine take_ (i := 1) (N := some 17) (v := ?_) (a' := ?_) #[true, true, true, false, false, false, false, false] rfl rfl (by kernel_rfl) (fun _ _ _ h => h) (Or.inl ⟨by rfl, ?_⟩) hHeld ?_ ?_
  rotate_left
  · rintro w' ⟨s0, s1, s2, s3, s4, s5, s6, s7⟩
    go_simp
    with_reducible rfl
  rotate_left
  · simp only [Act.put, List.setIfInBounds_toArray, List.set_cons_zero, List.set_cons_succ, i64_w, i32_w]
    rfl
  refine take_ (i := 3) (N := some 19) (v := ?_) (a' := ?_) #[true, true, true, true, false, false, false, false] rfl rfl (by kernel_rfl) (fun _ _ _ h => h) (Or.inl ⟨by rfl, ?_⟩) hHeld ?_ ?_
  rotate_left
  · rintro w' ⟨s0, s1, s2, s3, s4, s5, s6, s7⟩
    go_simp
    with_reducible rfl
  rotate_left
  · simp only [Act.put, List.setIfInBounds_toArray, List.set_cons_zero, List.set_cons_succ, i64_w, i32_w]
    rfl
  refine one_ (i := 4) (N := some 20) #[true, true, true, true, true, false, false, false] rfl rfl (by kernel_rfl) (by decide) (fun K hK => ?_)
  refine goes_ Try.func68 (by kernel_rfl) rfl #[.slice A' l.length cb] (by rfl) rfl rfl (by simp only [List.map_toArray, List.map_cons, List.map_nil]; rfl) ?_
  with_reducible refine ((clone_any A' cb l wd (HRD.out.below HB1d.out) (by omega))).mono ?_
  rintro e w4 ⟨A4, c4, rfl, ho4, hb4⟩
  refine ⟨_, rfl, ?_⟩
  have HB4 := Aside0.mk (below_step HBd.out hb4)
  have HR4 := Aside0.mk (blk_below HRd.out hb4)
  have HV4 := Aside0.mk (blk_below HVd.out hb4)
  have HO4 := Aside0.mk (Kd.R_of_own (enc := Value.int .u8) (h1 := fun _ => rfl) (ok := fun k => wd.heap.size ≤ k) ho4 (fun k hk => (own_ge_b ho4 k hk.symm).1))
  clear ho4 hb4
  have x0 : w4.cell? ⟨gr, 0, none⟩ = some (.int .u64 0) := (blk_cell HR4.out 0).trans rfl
  have u0 := blk_frozen HR4.out 0
  have x1 : w4.cell? ⟨gr, 1, none⟩ = some (.int .i64 0) := (blk_cell HR4.out 1).trans rfl
  have u1 := blk_frozen HR4.out 1
  have x2 : w4.cell? ⟨gr, 2, none⟩ = some (.int .i64 0) := (blk_cell HR4.out 2).trans rfl
  have u2 := blk_frozen HR4.out 2
  have x3 : w4.cell? ⟨gr, 3, none⟩ = some (.bool false) := (blk_cell HR4.out 3).trans rfl
  have u3 := blk_frozen HR4.out 3
  have x4 : w4.cell? ⟨gr, 4, none⟩ = some (.int .i64 0) := (blk_cell HR4.out 4).trans rfl
  have u4 := blk_frozen HR4.out 4
  have x5 : w4.cell? ⟨gr, 5, none⟩ = some (.int .i64 0) := (blk_cell HR4.out 5).trans rfl
  have u5 := blk_frozen HR4.out 5
  have x6 : w4.cell? ⟨gr, 6, none⟩ = some (.int .i64 0) := (blk_cell HR4.out 6).trans rfl
  have u6 := blk_frozen HR4.out 6
  refine hK.out _ _ ⟨(blk_cell HV4.out 0).trans rfl, (blk_cell HV4.out 1).trans rfl, (blk_cell HV4.out 2).trans rfl, (blk_cell HV4.out 3).trans rfl, (blk_cell HV4.out 4).trans rfl, (blk_cell HV4.out 5).trans rfl, (blk_cell HV4.out 6).trans rfl, (blk_cell HV4.out 7).trans rfl⟩ (fun hHeld => ?_)
  clear hK K
  refine norm_ (a' := ?_) ?_ ?_
  rotate_left
  · show Act.put _ (some 20) _ = _
    simp only [Act.put, List.setIfInBounds_toArray, List.set_cons_zero, List.set_cons_succ, i64_w, i32_w]
    rfl
  refine last_ (i := 5) (N := none) #[true, true, true, true, true, true, false, false] rfl rfl (by kernel_rfl) (by decide) (fun K hK => ?_)
  refine skip_ (w1 := ?_) (by rfl) rfl ?_ ?_
  rotate_left
  · go_simp
    rfl
  refine hK.out _ _ ?_
  clear hK K
  refine pure_ (i := 6) (N := some 3) (v := ?_) (a' := ?_) #[true, true, true, true, true, true, true, false] rfl rfl (by kernel_rfl) (fun _ _ _ h => h) (Or.inl ⟨by rfl, ?_⟩) ?_ ?_
  rotate_left
  · intro w'
    go_simp
    with_reducible rfl
  rotate_left
  · simp only [Act.put, List.setIfInBounds_toArray, List.set_cons_zero, List.set_cons_succ, i64_w, i32_w]
    rfl
  refine pure_ (i := 7) (N := some 4) (v := ?_) (a' := ?_) #[true, true, true, true, true, true, true, true] rfl rfl (by kernel_rfl) (fun _ _ _ h => h) (Or.inl ⟨by rfl, ?_⟩) ?_ ?_
  rotate_left
  · intro w'
    go_simp
    with_reducible rfl
  rotate_left
  · simp only [Act.put, List.setIfInBounds_toArray, List.set_cons_zero, List.set_cons_succ, i64_w, i32_w]
    rfl
  refine done_ (by kernel_rfl) ?_
  go_wp2_with fail
  clear x0 x1 x2 x3 x4 x5 x6 u0 u1 u2 u3 u4 u5 u6
  have g7 := set7 HR4.out (.int .u64 v0) (.int .i64 v1) (.int .i64 v2) (.bool v3) (.int .i64 v4) (.int .i64 v5) (.int .i64 v6)
  have hgr := GR.out
  have HBx := Aside0.mk (((Fr.of_below HB4.out (fun i => i ≠ gr)).then g7.2).below (B := w.heap.size) (fun i hi => ⟨hi, by omega⟩))
  (try simp only [Exit.inBlock, Exit.then])
  refine bodyPost_ret (results_ctt rfl _ _ gr 68 #[.int .u64 v0, .int .i64 v1, .int .i64 v2, .bool v3, .int .i64 v4, .int .i64 v5, .int .i64 v6] (0, 0) _ rfl g7.1 Try.underlying68 rfl (by kernel_rfl)) rfl ?_
  exact ⟨_, by first | rfl | (simp; done), Kd.R_lower (Kd.R_mono (Kd.R_far (p := ⟨gr, 6, none⟩) (Kd.R_far (p := ⟨gr, 5, none⟩) (Kd.R_far (p := ⟨gr, 4, none⟩) (Kd.R_far (p := ⟨gr, 3, none⟩) (Kd.R_far (p := ⟨gr, 2, none⟩) (Kd.R_far (p := ⟨gr, 1, none⟩) (Kd.R_far (p := ⟨gr, 0, none⟩) (Kd.R_types HO4.out HR4.out (by decide)) (fun _ hk => hk.2) (.int .u64 v0)) (fun _ hk => hk.2) (.int .i64 v1)) (fun _ hk => hk.2) (.int .i64 v2)) (fun _ hk => hk.2) (.bool v3)) (fun _ hk => hk.2) (.int .i64 v4)) (fun _ hk => hk.2) (.int .i64 v5)) (fun _ hk => hk.2) (.int .i64 v6)) (fun _ hk => trivial)) (below_size HBd.out), HBx.out⟩
end Go.Proofs.Ytnkcbkfccbfjpaa.XxhW
/- Volumes, plain: what Read answers; a volume of which neighbouring bits are turned is refused, any other volume of Cut is read. -/
namespace Go.Proofs.Ytnkcbkfccbfjpaa.Z
open Go.RowKit Go.Proofs.Ytnkcbkfccbfjpaa.XxhW Go.Proofs.Ytnkcbkfccbfjpaa.Burst Go.Proofs.Ytnkcbkfccbfjpaa.QVolumesCuts Go.Proofs.YtnkcbkfccbfjpaaW.PrintWords Go.Proofs.YtnkcbkfccbfjpaaW.PrintLast Go.Proofs.YtnkcbkfccbfjpaaW.PrintMore
set_option linter.unusedVariables false
set_option linter.unusedSimpArgs false
/-! ### what Read answers -/
def isByte (b : List Int) : Bool := b.all fun q => decide (0 ≤ q) && decide (q < 256)
def magicOk (b : List Int) : Bool := (strOfNums (b.take 8)).toList == [83, 65, 84, 67, 72, 86, 79, 76]
def canP (b : List Int) : Option Bool := volumes_volume_can.f 10 (numP (b.drop 8) 8) (numP (b.drop 16) 4) (numP (b.drop 20) 4) (numP (b.drop 24) 4 == 1) (wrap64 (numP (b.drop 28) 8)) (wrap64 (numP (b.drop 36) 8)) (wrap64 (numP (b.drop 44) 8)) (b.drop 64)
def volumes_Read.f (b : List Int) : Option (Int × Int × Int × Bool × Int × Int × Int × List Int × Int) :=
  if isByte b = true then (if 64 ≤ b.length then (if b.length ≤ 100000000 then (
    if magicOk b = true then (if numP (b.drop 60) 4 = crc (b.take 60) then (if numP (b.drop 56) 4 = 0 then (if numP (b.drop 24) 4 ≤ 1 then (
      (canP b).bind fun cn => if cn = true ∧ wrap64 (numP (b.drop 44) 8) = ((b.drop 64).length : Int) then
        (if numP (b.drop 52) 4 = crc (b.drop 64) then some (numP (b.drop 8) 8, numP (b.drop 16) 4, numP (b.drop 20) 4, (numP (b.drop 24) 4 == 1), wrap64 (numP (b.drop 28) 8), wrap64 (numP (b.drop 36) 8), wrap64 (numP (b.drop 44) 8), b.drop 64, 0) else some (0, 0, 0, false, 0, 0, 0, [], 131))
        else some (0, 0, 0, false, 0, 0, 0, [], 270)) else none) else none) else some (0, 0, 0, false, 0, 0, 0, [], 270)) else some (0, 0, 0, false, 0, 0, 0, [], 270)) else none) else none) else none
theorem isByte_iff (b : List Int) : isByte b = true ↔ ∀ q ∈ b, 0 ≤ q ∧ q < 256 := by
  unfold isByte
  rw [List.all_eq_true]
  constructor
  · intro h q hq
    have := h q hq
    simp only [Bool.and_eq_true, decide_eq_true_eq] at this
    exact this
  · intro h q hq
    simp only [Bool.and_eq_true, decide_eq_true_eq]
    exact h q hq
theorem isByte_get {b : List Int} (h : isByte b = true) (q : Nat) : 0 ≤ b.getD q 0 ∧ b.getD q 0 < 256 := by
  rw [List.getD_eq_getElem?_getD]
  by_cases c : q < b.length
  · rw [List.getElem?_eq_getElem c, Option.getD_some]
    exact (isByte_iff b).1 h _ (List.getElem_mem c)
  · rw [List.getElem?_eq_none (by omega)]
    decide
/-! ### a volume of Cut -/
theorem numP_congr {l m : List Int} : ∀ n, (∀ i, i < n → l.getD i 0 = m.getD i 0) → numP l n = numP m n
  | 0, _ => rfl
  | n + 1, h => by
    show numP l n + l.getD n 0 * 2 ^ (8 * n) = numP m n + m.getD n 0 * 2 ^ (8 * n)
    rw [numP_congr n (fun i hi => h i (by omega)), h n (by omega)]
theorem drop_get (l : List Int) (o i : Nat) : (l.drop o).getD i 0 = l.getD (o + i) 0 := by
  rw [List.getD_eq_getElem?_getD, List.getElem?_drop, ← List.getD_eq_getElem?_getD]
theorem take_get {l m : List Int} (h : l.take 64 = m.take 64) (i : Nat) (hi : i < 64) : l.getD i 0 = m.getD i 0 := by
  have := congrArg (fun x => x.getD i 0) h
  simp only [List.getD_eq_getElem?_getD, List.getElem?_take, if_pos hi] at this
  rw [List.getD_eq_getElem?_getD, List.getD_eq_getElem?_getD, this]
theorem num_same {l m : List Int} (h : l.take 64 = m.take 64) (o n : Nat) (hn : o + n ≤ 64) : numP (l.drop o) n = numP (m.drop o) n :=
  numP_congr n fun i hi => by rw [drop_get, drop_get, take_get h _ (by omega)]
theorem take_take {l m : List Int} (h : l.take 64 = m.take 64) (o : Nat) (ho : o ≤ 64) : l.take o = m.take o := by
  have := congrArg (List.take o) h
  rw [List.take_take, List.take_take, Nat.min_eq_left ho] at this
  exact this
theorem can_bytes (k : Nat) (v0 v1 v2 : Int) (v3 : Bool) (v4 v5 v6 : Int) (b b' : List Int) : volumes_volume_can.f k v0 v1 v2 v3 v4 v5 v6 b = volumes_volume_can.f k v0 v1 v2 v3 v4 v5 v6 b' := by
  have s2 : ∀ k x3 x4 x5 x6 x72 x0 x1 x2 x3' x4' x5' x6', volumes_volume_step.j2 k x3 x4 x5 x6 x72 x0 x1 x2 x3' x4' x5' x6' b = volumes_volume_step.j2 k x3 x4 x5 x6 x72 x0 x1 x2 x3' x4' x5' x6' b' := by
    intro k
    cases k <;> intros <;> rfl
  have s1 : ∀ k x3 x4 x5 x6 x0 x1 x2 x3' x4' x5' x6', volumes_volume_step.j1 k x3 x4 x5 x6 x0 x1 x2 x3' x4' x5' x6' b = volumes_volume_step.j1 k x3 x4 x5 x6 x0 x1 x2 x3' x4' x5' x6' b' := by
    intro k
    cases k with
    | zero => intros; rfl
    | succ k => intros; simp only [volumes_volume_step.j1, s2]
  have s0 : ∀ k x3 x4 x5 x6 x43 x0 x1 x2 x3' x4' x5' x6', volumes_volume_step.j0 k x3 x4 x5 x6 x43 x0 x1 x2 x3' x4' x5' x6' b = volumes_volume_step.j0 k x3 x4 x5 x6 x43 x0 x1 x2 x3' x4' x5' x6' b' := by
    intro k
    cases k with
    | zero => intros; rfl
    | succ k => intros; simp only [volumes_volume_step.j0, s1]
  have st : ∀ k x0 x1 x2 x3 x4 x5 x6, volumes_volume_step.f k x0 x1 x2 x3 x4 x5 x6 b = volumes_volume_step.f k x0 x1 x2 x3 x4 x5 x6 b' := by
    intros
    simp only [volumes_volume_step.f, s0]
  have cj : ∀ k y x0 x1 x2 x3 x4 x5 x6, volumes_volume_can.j0 k y x0 x1 x2 x3 x4 x5 x6 b = volumes_volume_can.j0 k y x0 x1 x2 x3 x4 x5 x6 b' := by
    intro k
    cases k with
    | zero => intros; rfl
    | succ k => intros; simp only [volumes_volume_can.j0, st]
  simp only [volumes_volume_can.f, cj]
/-- A volume that can be read. -/
structure Good (v : List Int) : Prop where
  byt : isByte v = true
  len : 64 ≤ v.length
  most : v.length ≤ 100000000
  magic : v.take 8 = magicL
  sum : numP (v.drop 60) 4 = crc (v.take 60)
  zero : numP (v.drop 56) 4 = 0
  flag : numP (v.drop 24) 4 ≤ 1
  can : canP v = some true
  size : wrap64 (numP (v.drop 44) 8) = ((v.drop 64).length : Int)
  body : numP (v.drop 52) 4 = crc (v.drop 64)
theorem Good.read {v : List Int} (h : Good v) : volumes_Read.f v = some (numP (v.drop 8) 8, numP (v.drop 16) 4, numP (v.drop 20) 4, (numP (v.drop 24) 4 == 1), wrap64 (numP (v.drop 28) 8), wrap64 (numP (v.drop 36) 8), wrap64 (numP (v.drop 44) 8), v.drop 64, 0) := by
  have hm : magicOk v = true := by unfold magicOk; rw [h.magic]; decide +kernel
  unfold volumes_Read.f
  rw [if_pos h.byt, if_pos h.len, if_pos h.most, if_pos hm, if_pos h.sum, if_pos h.zero, if_pos h.flag, h.can, Option.bind_some, if_pos ⟨rfl, h.size⟩, if_pos h.body]
/-! ### bytes as natural numbers -/
def up (V : List Nat) : List Int := V.map fun b : Nat => (b : Int)
theorem up_len (V : List Nat) : (up V).length = V.length := by simp [up]
theorem up_take (V : List Nat) (n : Nat) : (up V).take n = up (V.take n) := by simp [up, List.map_take]
theorem up_drop (V : List Nat) (n : Nat) : (up V).drop n = up (V.drop n) := by simp [up, List.map_drop]
theorem up_get (V : List Nat) (q : Nat) : (up V).getD q 0 = ((V.getD q 0 : Nat) : Int) := by
  simp only [up, List.getD_eq_getElem?_getD, List.getElem?_map]
  cases V[q]? <;> rfl
theorem up_byte {V : List Nat} (h : ∀ b ∈ V, b < 256) : isByte (up V) = true := by
  rw [isByte_iff]
  intro q hq
  obtain ⟨b, hb, rfl⟩ := List.mem_map.1 hq
  have := h b hb
  omega
theorem up_of {v : List Int} (h : isByte v = true) : ∃ V : List Nat, v = up V ∧ ∀ b ∈ V, b < 256 := by
  refine ⟨v.map Int.toNat, ?_, ?_⟩
  · unfold up
    rw [List.map_map]
    conv => lhs; rw [← List.map_id v]
    refine List.map_congr_left (fun x hx => ?_)
    have := (isByte_iff v).1 h x hx
    show x = ((x.toNat : Nat) : Int)
    omega
  · intro b hb
    obtain ⟨x, hx, rfl⟩ := List.mem_map.1 hb
    have := (isByte_iff v).1 h x hx
    omega
theorem up_inj {V W : List Nat} (h : up V = up W) : V = W := by
  have := congrArg (List.map Int.toNat) h
  simpa [up, Function.comp_def] using this
theorem num4 (Q : List Nat) (hQ : 4 ≤ Q.length) (h : ∀ b ∈ Q, b < 256) : numP (up Q) 4 = ((num (bitsL (Q.take 4)) : Nat) : Int) := by
  obtain ⟨a, b, c, d, r, rfl⟩ : ∃ a b c d r, Q = a :: b :: c :: d :: r := by
    match Q, hQ with
    | a :: b :: c :: d :: r, _ => exact ⟨a, b, c, d, r, rfl⟩
  have ha := h a (by simp)
  have hb := h b (by simp)
  have hc := h c (by simp)
  have hd := h d (by simp)
  have e1 : numP (up (a :: b :: c :: d :: r)) 4 = (a : Int) + (b : Int) * 256 + (c : Int) * 65536 + (d : Int) * 16777216 := by
    simp only [numP, up_get, List.getD_cons_zero, List.getD_cons_succ, show (2 : Int) ^ (8 * 0) = 1 from rfl, show (2 : Int) ^ (8 * 1) = 256 from rfl, show (2 : Int) ^ (8 * 2) = 65536 from rfl, show (2 : Int) ^ (8 * 3) = 16777216 from rfl]
    omega
  have e2 : bitsL (List.take 4 (a :: b :: c :: d :: r)) = bits8 a ++ (bits8 b ++ (bits8 c ++ (bits8 d ++ []))) := by simp [bitsL]
  rw [e1, e2]
  have l8 : ∀ x : Nat, (bits8 x).length = 8 := fun _ => rfl
  rw [num_app, num_app, num_app, num_app, l8, l8, l8, l8, num_byte a ha, num_byte b hb, num_byte c hc, num_byte d hd]
  simp only [num]
  omega
/-- A volume that is as a good one but for bits within one window of 32: it is the good one, or it is refused. -/
theorem spoilt {V W : List Nat} (g : Good (up V)) (hV : ∀ b ∈ V, b < 256) (hW : ∀ b ∈ W, b < 256) (hl : V.length = W.length) (a : Nat) (hw : ∀ j, xor (bt V j) (bt W j) = true → a ≤ j ∧ j < a + 32) (hne : V ≠ W) :
    ∃ r, volumes_Read.f (up W) = some r ∧ (r.2.2.2.2.2.2.2.2 = 270 ∨ r.2.2.2.2.2.2.2.2 = 131) := by
  have gl := g.len
  have gm := g.most
  rw [up_len] at gl gm
  unfold volumes_Read.f
  rw [if_pos (up_byte hW), if_pos (by rw [up_len]; omega), if_pos (by rw [up_len]; omega)]
  by_cases hm : magicOk (up W) = true
  rotate_left
  · rw [if_neg hm]; exact ⟨_, rfl, .inl rfl⟩
  rw [if_pos hm]
  by_cases hs : numP ((up W).drop 60) 4 = crc ((up W).take 60)
  rotate_left
  · rw [if_neg hs]; exact ⟨_, rfl, .inl rfl⟩
  rw [if_pos hs]
  have gs := g.sum
  rw [up_drop, up_take] at gs hs
  have mem_t : ∀ {X : List Nat} {n : Nat}, (∀ b ∈ X, b < 256) → ∀ b ∈ X.take n, b < 256 := fun h b hb => h b (List.mem_of_mem_take hb)
  have mem_d : ∀ {X : List Nat} {n : Nat}, (∀ b ∈ X, b < 256) → ∀ b ∈ X.drop n, b < 256 := fun h b hb => h b (List.mem_of_mem_drop hb)
  have bt_take : ∀ (X : List Nat) (n j : Nat), bt (X.take n) j = if j < 8 * n then bt X j else false := fun X n j => by
    unfold Burst.bt
    rw [List.getD_eq_getElem?_getD, List.getElem?_take]
    by_cases c : j < 8 * n
    · rw [if_pos (by omega), if_pos c, ← List.getD_eq_getElem?_getD]
    · rw [if_neg (by omega), if_neg c]; simp
  have bt_drop : ∀ (X : List Nat) (n j : Nat), bt (X.drop n) j = bt X (8 * n + j) := fun X n j => by
    unfold Burst.bt
    rw [List.getD_eq_getElem?_getD, List.getElem?_drop, ← List.getD_eq_getElem?_getD, show n + j / 8 = (8 * n + j) / 8 by omega, show (8 * n + j) % 8 = j % 8 by omega]
  rw [num4 _ (by rw [List.length_drop]; omega) (mem_d hV)] at gs
  rw [num4 _ (by rw [List.length_drop]; omega) (mem_d hW)] at hs
  have cV := crc_nat (V.take 60) (mem_t hV)
  have cW := crc_nat (W.take 60) (mem_t hW)
  have gs' := Int.ofNat_inj.1 (gs.trans cV)
  have hs' := Int.ofNat_inj.1 (hs.trans cW)
  obtain ⟨k1, k2⟩ := sum_burst (V.take 60) (W.take 60) ((V.drop 60).take 4) ((W.drop 60).take 4) a (mem_t hV) (mem_t hW) (by rw [List.length_take, List.length_take, hl]) (by rw [List.length_take, List.length_take, List.length_drop, List.length_drop, hl]) (by rw [List.length_take, List.length_drop]; omega)
    (fun j hj => by
      rw [bt_take, bt_take] at hj
      by_cases c : j < 8 * 60
      · rw [if_pos c, if_pos c] at hj; exact hw j hj
      · rw [if_neg c, if_neg c] at hj; exact absurd hj (by decide))
    (fun j hj => by
      rw [bt_take, bt_take] at hj
      rw [List.length_take, Nat.min_eq_left (by omega)]
      by_cases c : j < 8 * 4
      · rw [if_pos c, if_pos c, bt_drop, bt_drop] at hj; exact hw _ hj
      · rw [if_neg c, if_neg c] at hj; exact absurd hj (by decide)) gs' hs'
  have t64 : V.take 64 = W.take 64 := by
    refine bytes_ext _ _ (by rw [List.length_take, List.length_take, hl]) (mem_t hV) (mem_t hW) (fun j => ?_)
    have a1 := k1 j
    have a2 := k2 (j - 480)
    rw [bt_take, bt_take] at a1 a2 ⊢
    by_cases c : j < 8 * 64
    · rw [if_pos c, if_pos c]
      by_cases c2 : j < 8 * 60
      · rw [if_pos c2, if_pos c2] at a1; exact a1
      · rw [if_pos (by omega), if_pos (by omega), bt_drop, bt_drop, show 8 * 60 + (j - 480) = j by omega] at a2; exact a2
    · rw [if_neg c, if_neg c]
  have e64 : (up V).take 64 = (up W).take 64 := by rw [up_take, up_take, t64]
  have gz := g.zero
  have gf := g.flag
  have gb := g.body
  have gsz := g.size
  have gc := g.can
  unfold canP at gc ⊢
  rw [num_same e64 56 4 (by decide)] at gz
  rw [num_same e64 24 4 (by decide)] at gf
  rw [num_same e64 52 4 (by decide)] at gb
  rw [num_same e64 44 8 (by decide)] at gsz
  rw [num_same e64 8 8 (by decide), num_same e64 16 4 (by decide), num_same e64 20 4 (by decide), num_same e64 24 4 (by decide), num_same e64 28 8 (by decide), num_same e64 36 8 (by decide), num_same e64 44 8 (by decide), can_bytes _ _ _ _ _ _ _ _ _ ((up W).drop 64)] at gc
  have hdl : ((up V).drop 64).length = ((up W).drop 64).length := by rw [List.length_drop, List.length_drop, up_len, up_len, hl]
  rw [hdl] at gsz
  rw [if_pos gz, if_pos gf, gc, Option.bind_some, if_pos ⟨rfl, gsz⟩]
  by_cases hb : numP ((up W).drop 52) 4 = crc ((up W).drop 64)
  · exfalso
    apply hne
    rw [gb, up_drop, up_drop] at hb
    have c1 := crc_nat (V.drop 64) (mem_d hV)
    have c2 := crc_nat (W.drop 64) (mem_d hW)
    have c3 := Int.ofNat_inj.1 ((c1.symm.trans hb).trans c2)
    have d64 := body_burst (V.drop 64) (W.drop 64) a (mem_d hV) (mem_d hW) (by rw [List.length_drop, List.length_drop, hl]) (8 * 64) (fun j hj => by rw [bt_drop, bt_drop] at hj; exact hw _ hj) (xor_cancel c3)
    rw [← List.take_append_drop 64 V, ← List.take_append_drop 64 W, t64, d64]
  · rw [if_neg hb]; exact ⟨_, rfl, .inr rfl⟩
end Go.Proofs.Ytnkcbkfccbfjpaa.Z
/- Read of volumes: its contract. -/
namespace Go.Proofs.Ytnkcbkfccbfjpaa.Z
open Go.RowKit Go.Proofs.Ytnkcbkfccbfjpaa.XxhW Go.Proofs.Ytnkcbkfccbfjpaa.QVolumesCuts Go.Proofs.YtnkcbkfccbfjpaaW.PrintWords Go.Proofs.YtnkcbkfccbfjpaaW.PrintLast Go.Proofs.YtnkcbkfccbfjpaaW.PrintMore
set_option linter.unusedVariables false
set_option linter.unusedSimpArgs false
set_option maxHeartbeats 4000000 in
theorem volumes_Read.calls (A0 : Option Addr) (c0 : Nat) (l0 : List Int) (r1 : Int) (r2 : Int) (r3 : Int) (r4 : Bool) (r5 : Int) (r6 : Int) (r7 : Int) (r8 : List Int) (r9 : Int) (w : World) (hr0 : Kd.C (Kd.int .u8) w A0 l0.length l0) (hc0 : l0.length ≤ c0) (h : volumes_Read.f l0 = some (r1, r2, r3, r4, r5, r6, r7, r8, r9)) :
    Calls Try.prog 38 #[.slice A0 l0.length c0] w fun e w' => ∃ v7_ : Value, e = .returned (.tuple #[.agg #[.int .u64 r1, .int .i64 r2, .int .i64 r3, .bool r4, .int .i64 r5, .int .i64 r6, .int .i64 r7], v7_, .int .i64 r9]) ∧ Kd.R (Kd.int .u8) 5 w' w.heap.size (fun _ => True) v7_ r8 ∧ Below w.heap.size w w' := by
  have hR : ReadsInt w .u8 A0 l0.length l0 := Kd.reads_of_C (enc := Value.int .u8) (d := (0 : Int)) (h1 := fun _ => rfl) hr0
  clear hr0
  unfold volumes_Read.f at h
  by_cases hb : isByte l0 = true
  rotate_left
  · rw [if_neg hb] at h; exact absurd h (by simp)
  by_cases h64 : 64 ≤ l0.length
  rotate_left
  · rw [if_pos hb, if_neg h64] at h; exact absurd h (by simp)
  by_cases hl : l0.length ≤ 100000000
  rotate_left
  · rw [if_pos hb, if_pos h64, if_neg hl] at h; exact absurd h (by simp)
  rw [if_pos hb, if_pos h64, if_pos hl] at h
  have hbq := fun q => isByte_get hb q
  by_cases hm : magicOk l0 = true
  rotate_left
  · rw [if_neg hm] at h
    simp only [Option.some.injEq, Prod.mk.injEq] at h
    obtain ⟨rfl, rfl, rfl, rfl, rfl, rfl, rfl, rfl, rfl⟩ := h
    exact read_refuse A0 c0 l0 w 270 (by decide) fun W hW => get_magic A0 c0 l0 W (hR.below hW) hc0 h64 (by unfold magicOk at hm; simpa using hm)
  rw [if_pos hm] at h
  unfold magicOk at hm
  by_cases hs : numP (l0.drop 60) 4 = crc (l0.take 60)
  rotate_left
  · rw [if_neg hs] at h
    simp only [Option.some.injEq, Prod.mk.injEq] at h
    obtain ⟨rfl, rfl, rfl, rfl, rfl, rfl, rfl, rfl, rfl⟩ := h
    exact read_refuse A0 c0 l0 w 270 (by decide) fun W hW => get_head A0 c0 l0 W (hR.below hW) hc0 h64 hl hbq hm (by rw [beq_eq_false_iff_ne]; exact hs)
  rw [if_pos hs] at h
  by_cases hz : numP (l0.drop 56) 4 = 0
  rotate_left
  · rw [if_neg hz] at h; exact absurd h (by simp)
  rw [if_pos hz] at h
  by_cases hf : numP (l0.drop 24) 4 ≤ 1
  rotate_left
  · rw [if_neg hf] at h; exact absurd h (by simp)
  rw [if_pos hf] at h
  cases hcn : canP l0 with
  | none => rw [hcn] at h; exact absurd h (by simp)
  | some cn =>
    rw [hcn, Option.bind_some] at h
    unfold canP at hcn
    have G := fun (W : World) (hW : Below w.heap.size w W) => get_rest A0 c0 l0 W (hR.below hW) hc0 h64 hl hbq hm hs hz hf _ _ _ _ _ _ _ rfl rfl rfl rfl rfl rfl rfl 10 cn hcn
    by_cases hq : cn = true ∧ wrap64 (numP (l0.drop 44) 8) = ((l0.drop 64).length : Int)
    · rw [if_pos hq] at h
      by_cases hbody : numP (l0.drop 52) 4 = crc (l0.drop 64)
      · rw [if_pos hbody] at h
        simp only [Option.some.injEq, Prod.mk.injEq] at h
        obtain ⟨rfl, rfl, rfl, rfl, rfl, rfl, rfl, rfl, rfl⟩ := h
        exact read_ok A0 c0 l0 w _ _ _ _ _ _ _ (l0.drop 64) (c0 - 64) (by rw [List.length_drop]; omega) fun W hW => (G W hW).mono fun e w' ⟨_, _, h3, hB⟩ => ⟨h3 hq.1 hq.2 hbody, hB⟩
      · rw [if_neg hbody] at h
        simp only [Option.some.injEq, Prod.mk.injEq] at h
        obtain ⟨rfl, rfl, rfl, rfl, rfl, rfl, rfl, rfl, rfl⟩ := h
        exact read_refuse A0 c0 l0 w 131 (by decide) fun W hW => (G W hW).mono fun e w' ⟨_, h2, _, hB⟩ => ⟨h2 hq.1 hq.2 hbody, hB⟩
    · rw [if_neg hq] at h
      simp only [Option.some.injEq, Prod.mk.injEq] at h
      obtain ⟨rfl, rfl, rfl, rfl, rfl, rfl, rfl, rfl, rfl⟩ := h
      refine read_refuse A0 c0 l0 w 270 (by decide) fun W hW => (G W hW).mono fun e w' ⟨h1, _, _, hB⟩ => ⟨h1 ?_, hB⟩
      cases cn with
      | false => exact .inl rfl
      | true => exact .inr fun h => hq ⟨rfl, h⟩
end Go.Proofs.Ytnkcbkfccbfjpaa.Z
