/- Plain facts: what Make and Play (the program's and the document's, as printed) come to: a block of sequences, byte by byte. -/
import Derived.Test.YtnomebkdhjigjaaLq
import Derived.Test.YtnomebkdhjigjaaZb
import Derived.Test.YtnomebkdhjigjaaZd
import Derived.Test.YtnomebkdhjigjaaZe
namespace Go.Proofs.Ytnomebkdhjigjaa.W
open Go.RowKit Go.Proofs.Ytnomebkdhjigjaa.Z Go.Proofs.Ytnomebkdhjigjaa.MLzDecodes Go.Proofs.YtnomebkdhjigjaaW.PrintWords Go.Proofs.YtnomebkdhjigjaaW.PrintLast Go.Proofs.YtnomebkdhjigjaaW.PrintMore
set_option linter.unusedVariables false
set_option linter.unusedSimpArgs false
/-- The bytes of a number beyond 15. -/
def numN (n : Nat) : List Int := List.replicate (n / 255) 255 ++ [((n % 255 : Nat) : Int)]
theorem numN_len (n : Nat) : (numN n).length = n / 255 + 1 := by simp [numN]
theorem numN_small (n : Nat) (h : n < 255) : numN n = [(n : Int)] := by
  unfold numN
  rw [Nat.div_eq_of_lt h, Nat.mod_eq_of_lt h]
  rfl
theorem numN_more (n : Nat) (h : 255 ≤ n) : numN n = 255 :: numN (n - 255) := by
  unfold numN
  have e1 : n / 255 = (n - 255) / 255 + 1 := by omega
  have e2 : n % 255 = (n - 255) % 255 := by omega
  rw [e1, e2, List.replicate_succ, List.cons_append]
theorem lznum_l0 : ∀ (j k n : Nat) (x : List Int), n / 255 = j → j < k → x.length + j < 140737488355328 → n ≤ 9007199254740992 → lz_number.l0 k x (n : Int) = some (x ++ numN n) := by
  intro j
  induction j with
  | zero =>
    intro k n x hj hk hx hn
    obtain ⟨k, rfl⟩ : ∃ q, k = q + 1 := ⟨k - 1, by omega⟩
    rw [lz_number.l0, if_neg (by omega), if_pos (by omega), numN_small n (by omega)]
    rw [show (n : Int) % 256 = (n : Int) by omega]
  | succ j ih =>
    intro k n x hj hk hx hn
    obtain ⟨k, rfl⟩ : ∃ q, k = q + 1 := ⟨k - 1, by omega⟩
    have w1 : wrap64 ((n : Int) - 255) = ((n - 255 : Nat) : Int) := by rw [IntWalk.wrap64_in _ (by omega)]; omega
    rw [lz_number.l0, w1]
    clear w1
    rw [if_pos (by omega), if_pos (by omega), ih k (n - 255) _ (by omega) (by omega) (by simp; omega) (by omega), numN_more n (by omega), List.append_assoc]
    rfl
theorem rnum_l0 : ∀ (j k n : Nat) (x : List Int), n / 255 = j → j < k → x.length + j < 140737488355328 → n ≤ 9007199254740992 → satchelref03_number.l0 k (n : Int) x = some (x ++ numN n) := by
  intro j
  induction j with
  | zero =>
    intro k n x hj hk hx hn
    obtain ⟨k, rfl⟩ : ∃ q, k = q + 1 := ⟨k - 1, by omega⟩
    rw [satchelref03_number.l0, if_neg (by omega), if_pos (by omega), numN_small n (by omega)]
    rw [show (n : Int) % 256 = (n : Int) by omega]
  | succ j ih =>
    intro k n x hj hk hx hn
    obtain ⟨k, rfl⟩ : ∃ q, k = q + 1 := ⟨k - 1, by omega⟩
    have w1 : wrap64 ((n : Int) - 255) = ((n - 255 : Nat) : Int) := by rw [IntWalk.wrap64_in _ (by omega)]; omega
    rw [satchelref03_number.l0, w1]
    clear w1
    rw [if_pos (by omega), if_pos (by omega), ih k (n - 255) _ (by omega) (by omega) (by simp; omega) (by omega), numN_more n (by omega), List.append_assoc]
    rfl
/-- What a half of a token tells. -/
def half (n : Int) : Int := if n < 15 then n else 15
/-- A number's further bytes. -/
def ext255 (n : Int) : List Int := if n < 15 then [] else numN (n - 15).toNat
/-- A sequence's bytes. -/
def putP (s : S44) : List Int :=
  [16 * half (s.f0.length : Int) + (if s.f1 = 0 then 0 else half (s.f2 - 4))] ++ ext255 (s.f0.length : Int) ++ s.f0 ++
    (if s.f1 = 0 then [] else [s.f1 % 256, s.f1 / 256] ++ ext255 (s.f2 - 4))
theorem half_le (n : Int) (h : 0 ≤ n) : 0 ≤ half n ∧ half n ≤ 15 := by
  unfold half
  split <;> omega
theorem ext255_len (n : Int) (h : 0 ≤ n) : (ext255 n).length ≤ n.toNat + 1 := by
  unfold ext255
  split
  · simp
  · rw [numN_len]
    omega
theorem putP_len (s : S44) (h : s.f1 = 0 ∨ 4 ≤ s.f2) : (putP s).length ≤ 8 + 2 * s.f0.length + s.f2.toNat := by
  unfold putP
  have h1 := ext255_len (s.f0.length : Int) (by omega)
  by_cases c : s.f1 = 0
  · rw [if_pos c, if_pos c]
    simp only [List.length_append, List.length_cons, List.length_nil]
    omega
  · have h2 := ext255_len (s.f2 - 4) (by omega)
    rw [if_neg c, if_neg c]
    simp only [List.length_append, List.length_cons, List.length_nil]
    omega
theorem or16 : ∀ a b : Fin 16, Go.bits .or .i64 ((a.val : Int) * 16) (b.val : Int) = 16 * (a.val : Int) + (b.val : Int) := by decide +kernel
theorem or_half (a b : Int) (ha : 0 ≤ a ∧ a ≤ 15) (hb : 0 ≤ b ∧ b ≤ 15) : Go.bits .or .i64 (a * 16) b = 16 * a + b := by
  obtain ⟨m, rfl⟩ := Int.eq_ofNat_of_zero_le ha.1
  obtain ⟨n, rfl⟩ := Int.eq_ofNat_of_zero_le hb.1
  exact or16 ⟨m, by omega⟩ ⟨n, by omega⟩
theorem mn_half (n : Int) : mn n 15 = half n := by
  unfold mn half
  by_cases c : 15 < n
  · rw [if_pos c, if_neg (by omega)]
  · rw [if_neg c]
    split <;> omega
theorem mn_half' (n : Int) : mn 15 n = half n := rfl
theorem mx_zero (n : Int) : mx 0 n = if n < 0 then 0 else n := by
  unfold mx
  split <;> split <;> omega
/-- What is said of a block's sequences: the last is plain alone, no other is. -/
def OkS (s : S44) : Prop := (s.f1 = 0 ∧ s.f2 = 0) ∨ (1 ≤ s.f1 ∧ s.f1 < 65536 ∧ 4 ≤ s.f2)
theorem lznumber_f (k : Nat) (x : List Int) (n : Int) (h0 : 0 ≤ n) (h1 : n ≤ 4194304) (hk : 20000 < k) (hx : x.length + n.toNat < 140737488355328) : lz_number.f k x n = some (x ++ ext255 n) := by
  obtain ⟨m, rfl⟩ := Int.eq_ofNat_of_zero_le h0
  unfold lz_number.f ext255
  by_cases c : (m : Int) < 15
  · rw [if_pos c, if_pos c, List.append_nil]
  · have w1 : wrap64 ((m : Int) - 15) = ((m - 15 : Nat) : Int) := by rw [IntWalk.wrap64_in _ (by omega)]; omega
    rw [if_neg c, if_neg c, w1]
    clear w1
    rw [lznum_l0 ((m - 15) / 255) k (m - 15) x rfl (by omega) (by omega) (by omega), show ((m : Int) - 15).toNat = m - 15 by omega]
theorem lzput_f (k : Nat) (x : List Int) (s : S44) (hs : OkS s) (h0 : s.f0.length ≤ 4194304) (h2 : s.f2 ≤ 4194304) (hk : 20000 < k) (hx : x.length < 140737000000000) : lz_put.f k x s.f0 s.f1 s.f2 = some (x ++ putP s) := by
  have w0 : wrap64 (s.f2 - 4) = s.f2 - 4 := IntWalk.wrap64_in _ (by rcases hs with ⟨_, h⟩ | ⟨_, _, h⟩ <;> omega)
  have hm : 0 ≤ mx 0 (s.f2 - 4) ∧ mx 0 (s.f2 - 4) ≤ 4194304 := by rw [mx_zero]; split <;> omega
  have hh := half_le (s.f0.length : Int) (by omega)
  have hh2 := half_le (mx 0 (s.f2 - 4)) hm.1
  have e1 := ext255_len (s.f0.length : Int) (by omega)
  unfold lz_put.f
  rw [w0]
  clear w0
  rw [if_pos (by omega)]
  simp only [mn_half, mn_half']
  rw [or_half _ _ hh hh2, lznumber_f k _ (s.f0.length : Int) (by omega) (by omega) hk (by simp; omega), Option.bind_some, if_pos (by simp; omega), Option.bind_some]
  unfold putP
  by_cases c : s.f1 = 0
  · have e2 : s.f2 = 0 := by rcases hs with ⟨_, h⟩ | ⟨h, _, _⟩ <;> omega
    have e3 : mx 0 (s.f2 - 4) = 0 := by rw [mx_zero, if_pos (by omega)]
    rw [if_pos c, if_pos c, if_pos c, e3, show half 0 = 0 from rfl, show (16 * half (s.f0.length : Int) + 0) % 256 = 16 * half (s.f0.length : Int) + 0 by omega]
    simp only [List.append_assoc, List.append_nil]
  · have hs' : 1 ≤ s.f1 ∧ s.f1 < 65536 ∧ 4 ≤ s.f2 := by
      rcases hs with ⟨h, _⟩ | h
      · exact absurd h c
      · exact h
    have e3 : mx 0 (s.f2 - 4) = s.f2 - 4 := by rw [mx_zero, if_neg (by omega)]
    rw [e3] at hh2
    have e4 := ext255_len (s.f2 - 4) (by omega)
    rw [if_neg c, if_neg c, if_neg c, e3, Option.bind_some, if_pos (by simp; omega), lznumber_f k _ (s.f2 - 4) (by omega) (by omega) hk (by simp; omega), Option.bind_some]
    rw [show (16 * half (s.f0.length : Int) + half (s.f2 - 4)) % 256 = 16 * half (s.f0.length : Int) + half (s.f2 - 4) by omega, show s.f1 / 256 % 256 = s.f1 / 256 by omega]
    simp only [List.append_assoc]
/-- Whether sequences are more than a block. -/
def longP : List S44 → Int → Bool
  | [], _ => false
  | s :: t, sum => if sum + s.f0.length + s.f2 > 4194304 then true else longP t (sum + s.f0.length + s.f2)
def makeP (l : List S44) : List Int × Int := if madeP l = false then ([], 1) else if longP l 0 = true then ([], 2) else (l.flatMap putP, 0)
theorem ok_at {l : List S44} (h : madeP l = true) (i : Nat) (hi : i < l.length) : OkS (l.getD i z44) ∧ (i + 1 = l.length ↔ (l.getD i z44).f1 = 0) := by
  have hf := made_facts l l.length 0 (by omega) h i (Nat.zero_le _) hi
  by_cases c : i + 1 = l.length
  · exact ⟨.inl (hf.1 c), fun _ => (hf.1 c).1, fun _ => c⟩
  · have h2 := hf.2 (by omega)
    exact ⟨.inr h2, fun h => absurd h c, fun h => by omega⟩
theorem flat_at (l : List S44) (i : Nat) (hi : i < l.length) : (l.drop i).flatMap putP = putP (l.getD i z44) ++ (l.drop (i + 1)).flatMap putP := by
  rw [drop_at l i hi, List.flatMap_cons]
theorem lzMake_l1 (l : List S44) (hm : madeP l = true) (hl : l.length ≤ 3518437208880) (hs : ∀ i, i < l.length → (l.getD i z44).f0.length ≤ 4194304 ∧ (l.getD i z44).f2 ≤ 4194304) :
    ∀ (j k i : Nat) (x : List Int), i + j = l.length → j + 20001 < k → (x ++ (l.drop i).flatMap putP).length < 140737000000000 → lz_Make.l1 k x l (l.length : Int) (i : Int) = some (x ++ (l.drop i).flatMap putP, 0) := by
  intro j
  induction j with
  | zero =>
    intro k i x hi hk hx
    obtain ⟨k, rfl⟩ : ∃ q, k = q + 1 := ⟨k - 1, by omega⟩
    rw [lz_Make.l1, if_neg (by omega), List.drop_of_length_le (by omega)]
    simp
  | succ j ih =>
    intro k i x hi hk hx
    obtain ⟨k, rfl⟩ : ∃ q, k = q + 1 := ⟨k - 1, by omega⟩
    have w1 : wrap64 ((i : Int) + 1) = ((i + 1 : Nat) : Int) := by rw [IntWalk.wrap64_in _ (by omega)]; omega
    have h1 := hs i (by omega)
    have hx2 : x.length < 140737000000000 := by rw [List.length_append] at hx; omega
    rw [flat_at l i (by omega)] at hx ⊢
    rw [lz_Make.l1, w1]
    clear w1
    rw [if_pos (by omega), if_pos (by omega), if_pos (by omega), rd_at, lzput_f k x _ (ok_at hm i (by omega)).1 h1.1 h1.2 (by omega) hx2, Option.bind_some, ih k (i + 1) _ (by omega) (by omega) (by rw [List.append_assoc]; exact hx), List.append_assoc]
/-- What is not long: each sequence, all the bytes. -/
theorem long_each (l : List S44) : ∀ (j i : Nat) (sum : Int), i + j = l.length → 0 ≤ sum → (∀ q, i ≤ q → q < l.length → 0 ≤ (l.getD q z44).f2) → longP (l.drop i) sum = false → ∀ q, i ≤ q → q < l.length → (l.getD q z44).f0.length ≤ 4194304 ∧ (l.getD q z44).f2 ≤ 4194304 := by
  intro j
  induction j with
  | zero => intro i sum hi h0 h2 h q h3 h4; omega
  | succ j ih =>
    intro i sum hi h0 h2 h q h3 h4
    rw [drop_at l i (by omega), longP] at h
    have hi2 := h2 i (Nat.le_refl _) (by omega)
    by_cases c : sum + ((l.getD i z44).f0.length : Int) + (l.getD i z44).f2 > 4194304
    · rw [if_pos c] at h; cases h
    · rw [if_neg c] at h
      rcases Nat.eq_or_lt_of_le h3 with e | e
      · subst e; omega
      · exact ih (i + 1) _ (by omega) (by omega) (fun q a b => h2 q (by omega) b) h q (by omega) h4
theorem long_bytes (l : List S44) (hm : madeP l = true) : ∀ (j i : Nat) (sum : Int), i + j = l.length → 0 ≤ sum → sum ≤ 4194304 → longP (l.drop i) sum = false → (((l.drop i).flatMap putP).length : Int) ≤ 8 * (j : Int) + 2 * (4194304 - sum) := by
  intro j
  induction j with
  | zero =>
    intro i sum hi h0 h1 h
    rw [List.drop_of_length_le (by omega)]
    simp
    omega
  | succ j ih =>
    intro i sum hi h0 h1 h
    have hok := (ok_at hm i (by omega)).1
    rw [flat_at l i (by omega), List.length_append]
    rw [drop_at l i (by omega), longP] at h
    have hp := putP_len (l.getD i z44) (by rcases hok with h | h <;> omega)
    have hf2 : 0 ≤ (l.getD i z44).f2 := by rcases hok with h | h <;> omega
    by_cases c : sum + ((l.getD i z44).f0.length : Int) + (l.getD i z44).f2 > 4194304
    · rw [if_pos c] at h; cases h
    · rw [if_neg c] at h
      have := ih (i + 1) _ (by omega) (by omega) (by omega) h
      omega
theorem lzMake_l0 (l : List S44) (hm : madeP l = true) (hl : l.length ≤ 3518437208880) (hs : ∀ i, i < l.length → (l.getD i z44).f0.length ≤ 140737488355327 ∧ (l.getD i z44).f2 ≤ 9223372036854775807) :
    ∀ (j k i : Nat) (sum : Int), i + j = l.length → j < k → 0 ≤ sum → sum ≤ 4194304 → lz_Make.l0 k l sum l (l.length : Int) (i : Int) = if longP (l.drop i) sum = true then some ([], 2) else lz_Make.l1 (k - (j + 1)) [] l (l.length : Int) 0 := by
  intro j
  induction j with
  | zero =>
    intro k i sum hi hk h0 h1
    obtain ⟨k, rfl⟩ : ∃ q, k = q + 1 := ⟨k - 1, by omega⟩
    rw [lz_Make.l0, if_neg (by omega), List.drop_of_length_le (by omega), longP, if_neg (by decide)]
    rfl
  | succ j ih =>
    intro k i sum hi hk h0 h1
    obtain ⟨k, rfl⟩ : ∃ q, k = q + 1 := ⟨k - 1, by omega⟩
    have h2 := hs i (by omega)
    have hok := (ok_at hm i (by omega)).1
    have hf2 : 0 ≤ (l.getD i z44).f2 := by rcases hok with h | h <;> omega
    rw [lz_Make.l0, if_pos (by omega), if_pos (by omega), if_pos (by omega), rd_at, drop_at l i (by omega), longP]
    generalize l.getD i z44 = s at h2 hok hf2 ⊢
    have w1 : wrap64 (4194304 - sum) = 4194304 - sum := IntWalk.wrap64_in _ (by omega)
    have w2 : wrap64 (4194304 - sum - (s.f0.length : Int)) = 4194304 - sum - (s.f0.length : Int) := by clear w1; exact IntWalk.wrap64_in _ (by omega)
    rw [w1, w2]
    clear w1 w2
    by_cases c1 : (s.f0.length : Int) > 4194304 - sum
    · rw [if_pos c1, if_pos (show sum + (s.f0.length : Int) + s.f2 > 4194304 by omega), if_pos rfl]
    · rw [if_neg c1]
      by_cases c2 : s.f2 > 4194304 - sum - (s.f0.length : Int)
      · rw [if_pos c2, if_pos (show sum + (s.f0.length : Int) + s.f2 > 4194304 by omega), if_pos rfl]
      · have w3 : wrap64 ((s.f0.length : Int) + s.f2) = (s.f0.length : Int) + s.f2 := IntWalk.wrap64_in _ (by omega)
        have w4 : wrap64 (sum + ((s.f0.length : Int) + s.f2)) = sum + (s.f0.length : Int) + s.f2 := by clear w3; rw [IntWalk.wrap64_in _ (by omega)]; omega
        have w5 : wrap64 ((i : Int) + 1) = ((i + 1 : Nat) : Int) := by clear w3 w4; rw [IntWalk.wrap64_in _ (by omega)]; omega
        rw [w3, w4, w5]
        clear w3 w4 w5
        rw [if_neg c2, if_neg (show ¬ sum + (s.f0.length : Int) + s.f2 > 4194304 by omega), ih k (i + 1) _ (by omega) (by omega) (by omega) (by omega)]
        congr 2
        omega
theorem lzMake_f (l : List S44) (hl : l.length ≤ 3518437208880) (hs : ∀ i, i < l.length → (l.getD i z44).f0.length ≤ 140737488355327 ∧ (l.getD i z44).f2 ≤ 9223372036854775807) : lz_Make.f (2 * l.length + 30000) l = some (makeP l) := by
  unfold lz_Make.f makeP
  rw [at_rounds (g := fun k => lz_made.f k l) (fun k => lz_made.mono _ k) (show l.length + 1 ≤ 2 * l.length + 30000 by omega) (made_f l (by omega)), Option.bind_some]
  by_cases hm : madeP l = true
  · rw [if_pos hm, if_neg (by rw [hm]; decide)]
    have h0 : lz_Make.l0 (2 * l.length + 30000) l 0 l (l.length : Int) 0 = _ := lzMake_l0 l hm hl hs l.length (2 * l.length + 30000) 0 0 (by omega) (by omega) (by omega) (by omega)
    rw [h0, List.drop_zero]
    clear h0
    by_cases c : longP l 0 = true
    · rw [if_pos c, if_pos c]
    · have c' : longP l 0 = false := by simpa using c
      have hok2 : ∀ q, 0 ≤ q → q < l.length → 0 ≤ (l.getD q z44).f2 := fun q _ h => by
        have := (ok_at hm q h).1
        rcases this with h | h <;> omega
      have he := long_each l l.length 0 0 (by omega) (by omega) hok2 (by rw [List.drop_zero]; exact c')
      have hb := long_bytes l hm l.length 0 0 (by omega) (by omega) (by omega) (by rw [List.drop_zero]; exact c')
      rw [List.drop_zero] at hb
      have h1 : lz_Make.l1 (2 * l.length + 30000 - (l.length + 1)) [] l (l.length : Int) 0 = _ := lzMake_l1 l hm hl (fun i hi => he i (Nat.zero_le _) hi) l.length _ 0 [] (by omega) (by omega) (by rw [List.drop_zero, List.nil_append]; omega)
      rw [if_neg c, if_neg c, h1]
      rfl
  · have hm' : madeP l = false := by simpa using hm
    rw [if_neg hm, if_pos hm']
theorem refMade_l0 (l : List S44) (hl : l.length ≤ 140737488355327) (h0 : 0 < l.length) (he : (l.getD (l.length - 1) z44).f1 = 0 ∧ (l.getD (l.length - 1) z44).f2 = 0) : ∀ (j k i : Nat), i + j + 1 = l.length → j < k → satchelref03_Made.l0 k l (l.length : Int) (i : Int) = some (madeP (l.drop i)) := by
  intro j
  induction j with
  | zero =>
    intro k i hi hk
    obtain ⟨k, rfl⟩ : ∃ q, k = q + 1 := ⟨k - 1, by omega⟩
    have w1 : wrap64 ((l.length : Int) - 1) = ((l.length - 1 : Nat) : Int) := by rw [IntWalk.wrap64_in _ (by omega)]; omega
    rw [satchelref03_Made.l0, w1]
    clear w1
    rw [if_neg (by omega), made_last l i (by omega), show i = l.length - 1 by omega, decide_eq_true he]
  | succ j ih =>
    intro k i hi hk
    obtain ⟨k, rfl⟩ : ∃ q, k = q + 1 := ⟨k - 1, by omega⟩
    have w1 : wrap64 ((l.length : Int) - 1) = ((l.length - 1 : Nat) : Int) := by rw [IntWalk.wrap64_in _ (by omega)]; omega
    have w2 : wrap64 ((i : Int) + 1) = ((i + 1 : Nat) : Int) := by clear w1; rw [IntWalk.wrap64_in _ (by omega)]; omega
    rw [satchelref03_Made.l0, w1, w2]
    clear w1 w2
    rw [if_pos (by omega), if_pos (by omega), if_pos (by omega), rd_at, made_next l i (by omega)]
    generalize l.getD i z44 = s
    unfold satchelref03_can.f
    by_cases c1 : s.f1 ≥ 1
    · rw [if_pos c1]
      by_cases c2 : s.f1 ≤ 65535
      · rw [if_pos c2, Option.bind_some]
        by_cases c3 : s.f2 ≥ 4
        · rw [decide_eq_true c3, if_pos rfl, decide_eq_true (show 1 ≤ s.f1 ∧ s.f1 < 65536 ∧ 4 ≤ s.f2 from ⟨by omega, by omega, by omega⟩), Bool.true_and]
          exact ih k (i + 1) (by omega) (by omega)
        · rw [decide_eq_false c3, if_neg (by decide), decide_eq_false (by omega), Bool.false_and]
      · rw [if_neg c2, Option.bind_some, if_neg (by decide), decide_eq_false (by omega), Bool.false_and]
    · rw [if_neg c1, Option.bind_some, if_neg (by decide), decide_eq_false (by omega), Bool.false_and]
theorem made_end (l : List S44) (h0 : 0 < l.length) (h : ¬ ((l.getD (l.length - 1) z44).f1 = 0 ∧ (l.getD (l.length - 1) z44).f2 = 0)) : madeP l = false := by
  cases hm : madeP l with
  | false => rfl
  | true => exact absurd ((made_facts l l.length 0 (by omega) hm (l.length - 1) (Nat.zero_le _) (by omega)).1 (by omega)) h
theorem refMade_f (l : List S44) (hl : l.length ≤ 140737488355327) : satchelref03_Made.f (l.length + 2) l = some (madeP l) := by
  unfold satchelref03_Made.f
  by_cases c0 : l.length = 0
  · rw [if_pos (by omega), satchelref03_Made.j0, if_pos rfl, List.eq_nil_of_length_eq_zero c0]
    rfl
  have w1 : wrap64 ((l.length : Int) - 1) = ((l.length - 1 : Nat) : Int) := by rw [IntWalk.wrap64_in _ (by omega)]; omega
  rw [w1]
  clear w1
  rw [if_neg (by omega), if_pos (by omega), if_pos (by omega), rd_at]
  by_cases c1 : (l.getD (l.length - 1) z44).f1 = 0
  · rw [if_pos c1, satchelref03_Made.j0]
    by_cases c2 : (l.getD (l.length - 1) z44).f2 = 0
    · rw [c2, if_neg (by decide)]
      have h := refMade_l0 l hl (by omega) ⟨c1, c2⟩ (l.length - 1) (l.length + 1) 0 (by omega) (by omega)
      rw [List.drop_zero] at h
      exact h
    · rw [if_pos (bne_iff_ne.2 c2), made_end l (by omega) (fun h => c2 h.2)]
  · rw [if_neg c1, satchelref03_Made.j0, if_pos rfl, made_end l (by omega) (fun h => c1 h.1)]
theorem refMake_l0 (l : List S44) (hm : madeP l = true) (hl : l.length ≤ 3518437208880) (hs : ∀ i, i < l.length → (l.getD i z44).f0.length ≤ 140737488355327 ∧ (l.getD i z44).f2 ≤ 9223372036854775807) :
    ∀ (j k i : Nat) (sum : Int), i + j = l.length → 2 * j < k → 0 ≤ sum → sum ≤ 4194304 → satchelref03_Make.l0 k l sum (i : Int) = if longP (l.drop i) sum = true then some ([], 2) else satchelref03_Make.l1 (k - (2 * j + 1)) l [] 0 := by
  intro j
  induction j with
  | zero =>
    intro k i sum hi hk h0 h1
    obtain ⟨k, rfl⟩ : ∃ q, k = q + 1 := ⟨k - 1, by omega⟩
    rw [satchelref03_Make.l0, if_neg (by omega), List.drop_of_length_le (by omega), longP, if_neg (by decide)]
    rfl
  | succ j ih =>
    intro k i sum hi hk h0 h1
    obtain ⟨k, rfl⟩ : ∃ q, k = q + 2 := ⟨k - 2, by omega⟩
    have h2 := hs i (by omega)
    have hok := (ok_at hm i (by omega)).1
    have hf2 : 0 ≤ (l.getD i z44).f2 := by rcases hok with h | h <;> omega
    rw [satchelref03_Make.l0, if_pos (by omega), if_pos (by omega), satchelref03_Make.j1, satchelref03_Make.j1, rd_at, drop_at l i (by omega), longP, if_pos rfl]
    have hi1 := ih k (i + 1) (sum + ((l.getD i z44).f0.length : Int) + (l.getD i z44).f2) (by omega) (by omega)
    generalize l.getD i z44 = s at h2 hok hf2 hi1 ⊢
    by_cases c1 : (s.f0.length : Int) > 4194304
    · rw [if_pos c1, if_pos (show sum + (s.f0.length : Int) + s.f2 > 4194304 by omega), if_pos rfl]
    · rw [if_neg c1]
      by_cases c2 : s.f2 > 4194304
      · rw [if_pos (decide_eq_true c2), if_pos (show sum + (s.f0.length : Int) + s.f2 > 4194304 by omega), if_pos rfl]
      · have w3 : wrap64 (sum + (s.f0.length : Int)) = sum + (s.f0.length : Int) := IntWalk.wrap64_in _ (by omega)
        have w4 : wrap64 (sum + (s.f0.length : Int) + s.f2) = sum + (s.f0.length : Int) + s.f2 := by clear w3; rw [IntWalk.wrap64_in _ (by omega)]
        have w5 : wrap64 ((i : Int) + 1) = ((i + 1 : Nat) : Int) := by clear w3 w4; rw [IntWalk.wrap64_in _ (by omega)]; omega
        rw [w3, w4, w5]
        clear w3 w4 w5
        rw [if_neg (by rw [decide_eq_false c2]; decide), if_pos (by omega), if_pos (by omega)]
        by_cases c3 : sum + (s.f0.length : Int) + s.f2 > 4194304
        · rw [if_pos c3, if_pos c3, if_pos rfl]
        · rw [if_neg c3, if_neg c3, hi1 (by omega) (by omega)]
          congr 2
          omega
theorem low_half (n : Int) : satchelref03_low.f n = some (half n) := by
  unfold satchelref03_low.f half
  split <;> rfl
theorem refnum_f (k n : Nat) (hk : 20000 < k) (hn : n ≤ 4194304) : satchelref03_number.f k (n : Int) = some (numN n) := by
  unfold satchelref03_number.f
  rw [rnum_l0 (n / 255) k n [] rfl (by omega) (by simp; omega) (by omega)]
  rfl
theorem refMake_j3 (l : List S44) (k : Nat) (x : List Int) (i : Int) (b : Bool) (tok : Int) (f0 : List Int) (f1 f2 : Int) (hk : 20000 < k) (h0 : f0.length ≤ 4194304) (ht : 0 ≤ tok ∧ tok < 256) (hx : x.length < 140737000000000) :
    satchelref03_Make.j3 (k + 1) l x i b tok f0 f1 f2 = satchelref03_Make.j4 k l (x ++ [tok] ++ ext255 (f0.length : Int)) i b f0 f1 f2 := by
  have e1 := ext255_len (f0.length : Int) (by omega)
  rw [satchelref03_Make.j3, if_pos (by omega), Option.bind_some, show tok % 256 = tok by omega]
  unfold ext255
  by_cases c : (f0.length : Int) < 15
  · rw [if_neg (by omega), if_pos c, List.append_nil]
  · have w4 : wrap64 ((f0.length : Int) - 15) = ((f0.length - 15 : Nat) : Int) := by rw [IntWalk.wrap64_in _ (by omega)]; omega
    rw [if_pos (by omega), if_neg c, w4]
    clear w4
    rw [refnum_f k (f0.length - 15) hk (by omega), Option.bind_some, if_pos (by simp [numN_len]; omega), show ((f0.length : Int) - 15).toNat = f0.length - 15 by omega]
theorem refMake_j4_last (l : List S44) (k : Nat) (x : List Int) (i : Int) (f0 : List Int) (f1 f2 : Int) (h0 : f0.length ≤ 4194304) (hx : x.length < 140737100000000) :
    satchelref03_Make.j4 (k + 1) l x i true f0 f1 f2 = some (x ++ f0, 0) := by
  rw [satchelref03_Make.j4, if_pos (by omega), Option.bind_some, if_pos rfl]
theorem refMake_j4_more (l : List S44) (k : Nat) (x : List Int) (i : Nat) (f0 : List Int) (f1 f2 : Int) (hk : 20000 < k) (h0 : f0.length ≤ 4194304) (h1 : 1 ≤ f1 ∧ f1 < 65536) (h2 : 4 ≤ f2 ∧ f2 ≤ 4194304) (hi : i ≤ 140737488355327) (hx : x.length < 140737100000000) :
    satchelref03_Make.j4 (k + 1) l x (i : Int) false f0 f1 f2 = satchelref03_Make.l1 k l (x ++ f0 ++ ([f1 % 256, f1 / 256] ++ ext255 (f2 - 4))) ((i + 1 : Nat) : Int) := by
  have w0 : wrap64 (f2 - 4) = f2 - 4 := IntWalk.wrap64_in _ (by omega)
  have w1 : wrap64 ((i : Int) + 1) = ((i + 1 : Nat) : Int) := by clear w0; rw [IntWalk.wrap64_in _ (by omega)]; omega
  have w2 : wrap64 (Int.tdiv f1 256) % 256 = f1 / 256 := by clear w0 w1; rw [Int.tdiv_eq_ediv_of_nonneg (by omega), IntWalk.wrap64_in _ (by omega)]; omega
  have w3 : Int.tmod f1 256 % 256 = f1 % 256 := by clear w0 w1 w2; rw [Int.tmod_eq_emod_of_nonneg (by omega)]; omega
  rw [satchelref03_Make.j4, w0, w1, w2, w3]
  clear w0 w1 w2 w3
  rw [if_pos (by omega), Option.bind_some, if_neg (by decide), Option.bind_some, if_pos (by simp; omega), Option.bind_some]
  unfold ext255
  by_cases c : f2 - 4 < 15
  · rw [if_neg (by omega), if_pos c, List.append_nil]
  · have w4 : wrap64 (f2 - 4 - 15) = (((f2 - 4 - 15).toNat : Nat) : Int) := by rw [IntWalk.wrap64_in _ (by omega)]; omega
    rw [if_pos (by omega), if_neg c, w4]
    clear w4
    rw [refnum_f k _ hk (by omega), Option.bind_some, if_pos (by simp [numN_len]; omega)]
    simp only [List.append_assoc]
theorem refMake_l1 (l : List S44) (hm : madeP l = true) (hl : l.length ≤ 3518437208880) (hs : ∀ i, i < l.length → (l.getD i z44).f0.length ≤ 4194304 ∧ (l.getD i z44).f2 ≤ 4194304) :
    ∀ (j k i : Nat) (x : List Int), i + j + 1 = l.length → 3 * j + 20010 < k → (x ++ (l.drop i).flatMap putP).length < 140737000000000 → satchelref03_Make.l1 k l x (i : Int) = some (x ++ (l.drop i).flatMap putP, 0) := by
  intro j
  induction j with
  | zero =>
    intro k i x hi hk hx
    obtain ⟨k, rfl⟩ : ∃ q, k = q + 3 := ⟨k - 3, by omega⟩
    have w2 : wrap64 ((l.length : Int) - 1) = ((l.length - 1 : Nat) : Int) := by rw [IntWalk.wrap64_in _ (by omega)]; omega
    have h1 := hs i (by omega)
    have hx2 : x.length < 140737000000000 := by rw [List.length_append] at hx; omega
    have hok := ok_at hm i (by omega)
    rw [satchelref03_Make.l1, w2, if_pos (by omega), if_pos (by omega), rd_at, low_half, Option.bind_some, if_pos (by omega), flat_at l i (by omega), List.drop_of_length_le (by omega)]
    clear w2
    generalize l.getD i z44 = s at h1 hok ⊢
    have hf1 : s.f1 = 0 := hok.2.1 (by omega)
    have hh := half_le (s.f0.length : Int) (by omega)
    have e1 := ext255_len (s.f0.length : Int) (by omega)
    have w3 : wrap64 (16 * half (s.f0.length : Int)) = 16 * half (s.f0.length : Int) := IntWalk.wrap64_in _ (by omega)
    rw [w3, show ((i : Int) == ((l.length - 1 : Nat) : Int)) = true by rw [beq_iff_eq]; omega]
    clear w3
    rw [refMake_j3 l (k + 1) x (i : Int) true _ s.f0 s.f1 s.f2 (by omega) h1.1 (by omega) hx2, refMake_j4_last l k _ (i : Int) s.f0 s.f1 s.f2 h1.1 (by simp; omega)]
    unfold putP
    rw [if_pos hf1, if_pos hf1]
    simp
  | succ j ih =>
    intro k i x hi hk hx
    obtain ⟨k, rfl⟩ : ∃ q, k = q + 3 := ⟨k - 3, by omega⟩
    have w2 : wrap64 ((l.length : Int) - 1) = ((l.length - 1 : Nat) : Int) := by rw [IntWalk.wrap64_in _ (by omega)]; omega
    have h1 := hs i (by omega)
    have hx2 : x.length < 140737000000000 := by rw [List.length_append] at hx; omega
    have hok := ok_at hm i (by omega)
    have hiN := ih k (i + 1) (x ++ putP (l.getD i z44)) (by omega) (by omega)
    rw [flat_at l i (by omega)] at hx ⊢
    rw [← List.append_assoc] at hx ⊢
    rw [satchelref03_Make.l1, w2, if_pos (by omega), if_pos (by omega), rd_at, low_half, Option.bind_some, if_neg (by omega)]
    clear w2
    generalize l.getD i z44 = s at h1 hok hiN hx ⊢
    have hf1 : ¬ s.f1 = 0 := fun h => by have := hok.2.2 h; omega
    have hok2 : 1 ≤ s.f1 ∧ s.f1 < 65536 ∧ 4 ≤ s.f2 := by
      rcases hok.1 with ⟨h, _⟩ | h
      · exact absurd h hf1
      · exact h
    have hh := half_le (s.f0.length : Int) (by omega)
    have hh2 := half_le (s.f2 - 4) (by omega)
    have e1 := ext255_len (s.f0.length : Int) (by omega)
    have w0 : wrap64 (s.f2 - 4) = s.f2 - 4 := IntWalk.wrap64_in _ (by omega)
    have w3 : wrap64 (16 * half (s.f0.length : Int)) = 16 * half (s.f0.length : Int) := by clear w0; exact IntWalk.wrap64_in _ (by omega)
    have w4 : wrap64 (16 * half (s.f0.length : Int) + half (s.f2 - 4)) = 16 * half (s.f0.length : Int) + half (s.f2 - 4) := by clear w0 w3; exact IntWalk.wrap64_in _ (by omega)
    rw [w0, low_half, Option.bind_some, w3, w4, show ((i : Int) == ((l.length - 1 : Nat) : Int)) = false by rw [beq_eq_false_iff_ne]; omega]
    clear w0 w3 w4
    rw [refMake_j3 l (k + 1) x (i : Int) false _ s.f0 s.f1 s.f2 (by omega) h1.1 (by omega) hx2, refMake_j4_more l k _ i s.f0 s.f1 s.f2 (by omega) h1.1 ⟨hok2.1, hok2.2.1⟩ ⟨hok2.2.2, h1.2⟩ (by omega) (by simp; omega)]
    rw [← hiN (by omega)]
    unfold putP
    rw [if_neg hf1, if_neg hf1]
    simp only [List.append_assoc]
theorem refMake_f (l : List S44) (hl : l.length ≤ 3518437208880) (hs : ∀ i, i < l.length → (l.getD i z44).f0.length ≤ 140737488355327 ∧ (l.getD i z44).f2 ≤ 9223372036854775807) : satchelref03_Make.f (5 * l.length + 30000) l = some (makeP l) := by
  unfold satchelref03_Make.f makeP
  rw [at_rounds (g := fun k => satchelref03_Made.f k l) (fun k => satchelref03_Made.mono _ k) (show l.length + 2 ≤ 5 * l.length + 30000 by omega) (refMade_f l (by omega)), Option.bind_some]
  by_cases hm : madeP l = true
  · rw [if_pos hm, if_neg (by rw [hm]; decide)]
    have h0 : satchelref03_Make.l0 (5 * l.length + 30000) l 0 0 = _ := refMake_l0 l hm hl hs l.length (5 * l.length + 30000) 0 0 (by omega) (by omega) (by omega) (by omega)
    rw [h0, List.drop_zero]
    clear h0
    have hne : 0 < l.length := by
      rcases Nat.eq_zero_or_pos l.length with h | h
      · rw [List.eq_nil_of_length_eq_zero h] at hm; cases hm
      · exact h
    by_cases c : longP l 0 = true
    · rw [if_pos c, if_pos c]
    · have c' : longP l 0 = false := by simpa using c
      have hok2 : ∀ q, 0 ≤ q → q < l.length → 0 ≤ (l.getD q z44).f2 := fun q _ h => by
        have := (ok_at hm q h).1
        rcases this with h | h <;> omega
      have he := long_each l l.length 0 0 (by omega) (by omega) hok2 (by rw [List.drop_zero]; exact c')
      have hb := long_bytes l hm l.length 0 0 (by omega) (by omega) (by omega) (by rw [List.drop_zero]; exact c')
      rw [List.drop_zero] at hb
      have h1 : satchelref03_Make.l1 (5 * l.length + 30000 - (2 * l.length + 1)) l [] 0 = _ := refMake_l1 l hm hl (fun i hi => he i (Nat.zero_le _) hi) (l.length - 1) _ 0 [] (by omega) (by omega) (by rw [List.drop_zero, List.nil_append]; omega)
      rw [if_neg c, if_neg c, h1]
      rfl
  · have hm' : madeP l = false := by simpa using hm
    rw [if_neg hm, if_pos hm']
theorem refPlay_l0 (l : List S44) (hm : madeP l = true) (hl : l.length ≤ 3518437208880) (hs : ∀ i, i < l.length → (l.getD i z44).f0.length ≤ 140737488355327) (bg : Nat) (most : Int) (hmo : 0 ≤ most ∧ most ≤ 4194304) (hbg : bg ≤ 65535) :
    ∀ (j k i : Nat) (al : List Int), i + j + 1 = l.length → j + 4300000 < k → bg ≤ al.length → (al.length : Int) - bg ≤ most →
      satchelref03_Play.l0 k l most al (bg : Int) (i : Int) = some (if (playL bg most (l.drop i) al).1 ≠ 0 then ([], (playL bg most (l.drop i) al).1) else ((playL bg most (l.drop i) al).2.drop bg, 0)) := by
  intro j
  induction j with
  | zero =>
    intro k i al hi hk hb hz
    obtain ⟨k, rfl⟩ : ∃ q, k = q + 1 := ⟨k - 1, by omega⟩
    have w2 : wrap64 ((l.length : Int) - 1) = ((l.length - 1 : Nat) : Int) := by rw [IntWalk.wrap64_in _ (by omega)]; omega
    have w3 : wrap64 ((al.length : Int) - (bg : Int)) = (al.length : Int) - (bg : Int) := by clear w2; exact IntWalk.wrap64_in _ (by omega)
    have w4 : wrap64 (most - ((al.length : Int) - (bg : Int))) = most - ((al.length : Int) - (bg : Int)) := by clear w2 w3; exact IntWalk.wrap64_in _ (by omega)
    have hok := ok_at hm i (by omega)
    rw [satchelref03_Play.l0, w2, w3, w4]
    clear w2 w3 w4
    rw [if_pos (by omega), if_pos (by omega), rd_at, drop_at l i (by omega), playL]
    generalize l.getD i z44 = s at hok ⊢
    have hf1 : s.f1 = 0 := hok.2.1 (by omega)
    by_cases c : (s.f0.length : Int) > most - ((al.length : Int) - (bg : Int))
    · rw [if_pos c, if_pos c, if_pos (show ((32 : Int), al).1 ≠ 0 from (by decide : (32 : Int) ≠ 0))]
    · rw [if_neg c, if_neg c, if_pos hf1, if_pos (by omega), Option.bind_some, if_pos (by omega), if_pos (by omega), if_pos (by simp; omega), if_neg (show ¬ ((0 : Int), al ++ s.f0).1 ≠ 0 from fun h => h rfl), Int.toNat_natCast]
  | succ j ih =>
    intro k i al hi hk hb hz
    obtain ⟨k, rfl⟩ : ∃ q, k = q + 1 := ⟨k - 1, by omega⟩
    have w2 : wrap64 ((l.length : Int) - 1) = ((l.length - 1 : Nat) : Int) := by rw [IntWalk.wrap64_in _ (by omega)]; omega
    have w3 : wrap64 ((al.length : Int) - (bg : Int)) = (al.length : Int) - (bg : Int) := by clear w2; exact IntWalk.wrap64_in _ (by omega)
    have w4 : wrap64 (most - ((al.length : Int) - (bg : Int))) = most - ((al.length : Int) - (bg : Int)) := by clear w2 w3; exact IntWalk.wrap64_in _ (by omega)
    have w5 : wrap64 ((i : Int) + 1) = ((i + 1 : Nat) : Int) := by clear w2 w3 w4; rw [IntWalk.wrap64_in _ (by omega)]; omega
    have hok := ok_at hm i (by omega)
    rw [satchelref03_Play.l0, w2, w3, w4, w5]
    clear w2 w3 w4 w5
    rw [if_pos (by omega), if_pos (by omega), rd_at, drop_at l i (by omega), playL]
    generalize l.getD i z44 = s at hok ⊢
    have hf1 : ¬ s.f1 = 0 := fun h => by have := hok.2.2 h; omega
    have hok2 : 1 ≤ s.f1 ∧ s.f1 < 65536 ∧ 4 ≤ s.f2 := by
      rcases hok.1 with ⟨h, _⟩ | h
      · exact absurd h hf1
      · exact h
    by_cases c : (s.f0.length : Int) > most - ((al.length : Int) - (bg : Int))
    · rw [if_pos c, if_pos c, if_pos (show ((32 : Int), al).1 ≠ 0 from (by decide : (32 : Int) ≠ 0))]
    · rw [if_neg c, if_neg c, if_neg hf1, if_pos (by omega), Option.bind_some, if_neg (by omega)]
      obtain ⟨L, hL⟩ : ∃ L, L = al ++ s.f0 := ⟨_, rfl⟩
      have hLl : L.length = al.length + s.f0.length := by rw [hL, List.length_append]
      rw [← hL]
      clear hL
      have w6 : wrap64 ((L.length : Int) - (bg : Int)) = (L.length : Int) - (bg : Int) := IntWalk.wrap64_in _ (by omega)
      have w7 : wrap64 (most - ((L.length : Int) - (bg : Int))) = most - ((L.length : Int) - (bg : Int)) := by clear w6; exact IntWalk.wrap64_in _ (by omega)
      rw [w6, w7]
      clear w6 w7
      by_cases c2 : s.f1 > (L.length : Int)
      · rw [if_pos c2, if_pos c2, if_pos (show ((30 : Int), L).1 ≠ 0 from (by decide : (30 : Int) ≠ 0))]
      · rw [if_neg c2, if_neg c2]
        by_cases c3 : s.f2 > most - ((L.length : Int) - (bg : Int))
        · rw [if_pos c3, if_pos c3, if_pos (show ((32 : Int), L).1 ≠ 0 from (by decide : (32 : Int) ≠ 0))]
        · rw [if_neg c3, if_neg c3]
          obtain ⟨bk, hbk⟩ := Int.eq_ofNat_of_zero_le (show 0 ≤ s.f1 by omega)
          obtain ⟨n2, hn2⟩ := Int.eq_ofNat_of_zero_le (show 0 ≤ s.f2 by omega)
          rw [hbk, hn2, Int.toNat_natCast, Int.toNat_natCast]
          have hc : satchelref03_copied.f k L (bk : Int) (n2 : Int) = some (copied bk n2 L) := ref_copied bk (by omega) n2 (by omega) n2 k 0 L (by omega) (by omega) (by omega) (by omega)
          rw [hc, Option.bind_some]
          have hcl := copied_len bk n2 L
          exact ih k (i + 1) _ (by omega) (by omega) (by omega) (by omega)
theorem refPlay_f (l : List S44) (ahead : List Int) (most : Int) (hl : l.length ≤ 3518437208880) (hs : ∀ i, i < l.length → (l.getD i z44).f0.length ≤ 140737488355327) (hl2 : ahead.length ≤ 140737488355327) : satchelref03_Play.f (l.length + 4400000) l ahead most = some (play l ahead most) := by
  unfold satchelref03_Play.f play
  by_cases c1 : most < 0
  · rw [if_pos c1, if_pos (.inl c1), satchelref03_Play.j0, if_pos rfl]
  rw [if_neg c1]
  by_cases c2 : most > 4194304
  · rw [if_pos c2, if_pos (.inr (.inl c2)), satchelref03_Play.j0, if_pos rfl]
  rw [if_neg c2, at_rounds (g := fun k => satchelref03_Made.f k l) (fun k => satchelref03_Made.mono _ k) (show l.length + 2 ≤ l.length + 4400000 by omega) (refMade_f l (by omega)), Option.bind_some, satchelref03_Play.j0]
  by_cases hm : madeP l = true
  · rw [if_neg (by rw [hm]; decide), if_neg (by rw [hm]; simp; omega), ref_window ahead hl2, Option.bind_some]
    have hwl := (window_len ahead).1
    have hne : 0 < l.length := by
      rcases Nat.eq_zero_or_pos l.length with h | h
      · rw [List.eq_nil_of_length_eq_zero h] at hm; cases hm
      · exact h
    have h := refPlay_l0 l hm hl hs (window ahead).length most ⟨by omega, by omega⟩ hwl (l.length - 1) (l.length + 4399999) 0 (window ahead) (by omega) (by omega) (by omega) (by omega)
    rw [List.drop_zero] at h
    exact h
  · have hm' : madeP l = false := by simpa using hm
    rw [if_pos (by rw [hm']; rfl), if_pos (.inr (.inr hm'))]
theorem copies_l0 (l : List S44) (hl : l.length ≤ 3518437208880) (hs : ∀ i, i < l.length → (l.getD i z44).f0.length ≤ 140737488355327) : ∀ (j k i : Nat) (x : List S44), i + j = l.length → j < k → x.length = i → satchellaw03_copies.l0 k l x (i : Int) = some (x ++ l.drop i) := by
  intro j
  induction j with
  | zero =>
    intro k i x hi hk hx
    obtain ⟨k, rfl⟩ : ∃ q, k = q + 1 := ⟨k - 1, by omega⟩
    rw [satchellaw03_copies.l0, if_neg (by omega), List.drop_of_length_le (by omega), List.append_nil]
  | succ j ih =>
    intro k i x hi hk hx
    obtain ⟨k, rfl⟩ : ∃ q, k = q + 1 := ⟨k - 1, by omega⟩
    have w1 : wrap64 ((i : Int) + 1) = ((i + 1 : Nat) : Int) := by rw [IntWalk.wrap64_in _ (by omega)]; omega
    have h1 := hs i (by omega)
    rw [satchellaw03_copies.l0, w1]
    clear w1
    rw [if_pos (by omega), Option.bind_some, if_pos (by omega), rd_at, if_pos (by rw [List.length_nil]; omega), if_pos (by omega), ih k (i + 1) _ (by omega) (by omega) (by simp; omega), drop_at l i (by omega)]
    simp
theorem copies_f (l : List S44) (hl : l.length ≤ 3518437208880) (hs : ∀ i, i < l.length → (l.getD i z44).f0.length ≤ 140737488355327) : satchellaw03_copies.f (l.length + 1) l = some l := by
  unfold satchellaw03_copies.f
  have h : satchellaw03_copies.l0 (l.length + 1) l [] 0 = _ := copies_l0 l hl hs l.length (l.length + 1) 0 [] (by omega) (by omega) rfl
  rw [h]
  rfl
/-- The longest plain run. -/
def longest : List S44 → Nat
  | [] => 0
  | s :: t => max s.f0.length (longest t)
theorem longest_at (l : List S44) : ∀ i, i < l.length → (l.getD i z44).f0.length ≤ longest l := by
  induction l with
  | nil => intro i hi; simp at hi
  | cons s t ih =>
    intro i hi
    cases i with
    | zero => exact Nat.le_max_left _ _
    | succ i => exact Nat.le_trans (ih i (by simpa using hi)) (Nat.le_max_right _ _)
theorem short_of (l : List S44) (hs : ∀ i, i < l.length → (l.getD i z44).f0.length ≤ 140737488355327) : shortS l = true := by
  unfold shortS
  rw [List.all_eq_true]
  intro s hsm
  obtain ⟨i, hi, rfl⟩ := List.mem_iff_getElem.1 hsm
  have := hs i hi
  rw [List.getD_eq_getElem?_getD, List.getElem?_eq_getElem hi] at this
  exact decide_eq_true this
theorem seqs_f (l : List S44) (hl : l.length ≤ 3518437208880) (hs : ∀ i, i < l.length → (l.getD i z44).f0.length ≤ 140737488355327) (k : Nat) : satchellaw03_seqs.f k l l = some true := by
  unfold satchellaw03_seqs.f
  rw [if_pos ⟨rfl, by omega, short_of l hs⟩]
end Go.Proofs.Ytnomebkdhjigjaa.W
