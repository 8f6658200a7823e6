/- Plain facts: what Make (the program's, as printed) comes to: a block of sequences, byte by byte. -/
import Derived.Test.YtnomebkdhjigjaaLq
import Derived.Test.YtnomebkdhjigjaaAd

namespace Go.Proofs.Ytnomebkdhjigjaa.W
open Go.RowKit Go.Proofs.Ytnomebkdhjigjaa.Z Go.Proofs.Ytnomebkdhjigjaa.MLzDecodes Go.Proofs.YtnomebkdhjigjaaW.PrintWords Go.Proofs.YtnomebkdhjigjaaW.PrintLast Go.Proofs.YtnomebkdhjigjaaW.PrintMore
set_option linter.unusedVariables false
set_option linter.unusedSimpArgs false
/-- The bytes of a number beyond 15. -/
def numN (n : Nat) : List Int := List.replicate (n / 255) 255 ++ [((n % 255 : Nat) : Int)]
theorem numN_len (n : Nat) : (numN n).length = n / 255 + 1 := by simp [numN]
theorem numN_small (n : Nat) (h : n < 255) : numN n = [(n : Int)] := by
  unfold numN
  rw [Nat.div_eq_of_lt h, Nat.mod_eq_of_lt h]
  rfl
theorem numN_more (n : Nat) (h : 255 ≤ n) : numN n = 255 :: numN (n - 255) := by
  unfold numN
  have e1 : n / 255 = (n - 255) / 255 + 1 := by omega
  have e2 : n % 255 = (n - 255) % 255 := by omega
  rw [e1, e2, List.replicate_succ, List.cons_append]
theorem lznum_l0 : ∀ (j k n : Nat) (x : List Int), n / 255 = j → j < k → x.length + j < 140737488355328 → n ≤ 9007199254740992 → lz_number.l0 k x (n : Int) = some (x ++ numN n) := by
  intro j
  induction j with
  | zero =>
    intro k n x hj hk hx hn
    obtain ⟨k, rfl⟩ : ∃ q, k = q + 1 := ⟨k - 1, by omega⟩
    rw [lz_number.l0, if_neg (by omega), if_pos (by omega), numN_small n (by omega)]
    rw [show (n : Int) % 256 = (n : Int) by omega]
  | succ j ih =>
    intro k n x hj hk hx hn
    obtain ⟨k, rfl⟩ : ∃ q, k = q + 1 := ⟨k - 1, by omega⟩
    have w1 : wrap64 ((n : Int) - 255) = ((n - 255 : Nat) : Int) := by rw [IntWalk.wrap64_in _ (by omega)]; omega
    rw [lz_number.l0, w1]
    clear w1
    rw [if_pos (by omega), if_pos (by omega), ih k (n - 255) _ (by omega) (by omega) (by simp; omega) (by omega), numN_more n (by omega), List.append_assoc]
    rfl
/-- What a half of a token tells. -/
def half (n : Int) : Int := if n < 15 then n else 15
/-- A number's further bytes. -/
def ext255 (n : Int) : List Int := if n < 15 then [] else numN (n - 15).toNat
/-- A sequence's bytes. -/
def putP (s : S44) : List Int :=
  [16 * half (s.f0.length : Int) + (if s.f1 = 0 then 0 else half (s.f2 - 4))] ++ ext255 (s.f0.length : Int) ++ s.f0 ++
    (if s.f1 = 0 then [] else [s.f1 % 256, s.f1 / 256] ++ ext255 (s.f2 - 4))
theorem half_le (n : Int) (h : 0 ≤ n) : 0 ≤ half n ∧ half n ≤ 15 := by
  unfold half
  split <;> omega
theorem ext255_len (n : Int) (h : 0 ≤ n) : (ext255 n).length ≤ n.toNat + 1 := by
  unfold ext255
  split
  · simp
  · rw [numN_len]
    omega
theorem putP_len (s : S44) (h : s.f1 = 0 ∨ 4 ≤ s.f2) : (putP s).length ≤ 8 + 2 * s.f0.length + s.f2.toNat := by
  unfold putP
  have h1 := ext255_len (s.f0.length : Int) (by omega)
  by_cases c : s.f1 = 0
  · rw [if_pos c, if_pos c]
    simp only [List.length_append, List.length_cons, List.length_nil]
    omega
  · have h2 := ext255_len (s.f2 - 4) (by omega)
    rw [if_neg c, if_neg c]
    simp only [List.length_append, List.length_cons, List.length_nil]
    omega
theorem or16 : ∀ a b : Fin 16, Go.bits .or .i64 ((a.val : Int) * 16) (b.val : Int) = 16 * (a.val : Int) + (b.val : Int) := by decide +kernel
theorem or_half (a b : Int) (ha : 0 ≤ a ∧ a ≤ 15) (hb : 0 ≤ b ∧ b ≤ 15) : Go.bits .or .i64 (a * 16) b = 16 * a + b := by
  obtain ⟨m, rfl⟩ := Int.eq_ofNat_of_zero_le ha.1
  obtain ⟨n, rfl⟩ := Int.eq_ofNat_of_zero_le hb.1
  exact or16 ⟨m, by omega⟩ ⟨n, by omega⟩
theorem mn_half (n : Int) : mn n 15 = half n := by
  unfold mn half
  by_cases c : 15 < n
  · rw [if_pos c, if_neg (by omega)]
  · rw [if_neg c]
    split <;> omega
theorem mn_half' (n : Int) : mn 15 n = half n := rfl
theorem mx_zero (n : Int) : mx 0 n = if n < 0 then 0 else n := by
  unfold mx
  split <;> split <;> omega
/-- What is said of a block's sequences: the last is plain alone, no other is. -/
def OkS (s : S44) : Prop := (s.f1 = 0 ∧ s.f2 = 0) ∨ (1 ≤ s.f1 ∧ s.f1 < 65536 ∧ 4 ≤ s.f2)
theorem lznumber_f (k : Nat) (x : List Int) (n : Int) (h0 : 0 ≤ n) (h1 : n ≤ 4194304) (hk : 20000 < k) (hx : x.length + n.toNat < 140737488355328) : lz_number.f k x n = some (x ++ ext255 n) := by
  obtain ⟨m, rfl⟩ := Int.eq_ofNat_of_zero_le h0
  unfold lz_number.f ext255
  by_cases c : (m : Int) < 15
  · rw [if_pos c, if_pos c, List.append_nil]
  · have w1 : wrap64 ((m : Int) - 15) = ((m - 15 : Nat) : Int) := by rw [IntWalk.wrap64_in _ (by omega)]; omega
    rw [if_neg c, if_neg c, w1]
    clear w1
    rw [lznum_l0 ((m - 15) / 255) k (m - 15) x rfl (by omega) (by omega) (by omega), show ((m : Int) - 15).toNat = m - 15 by omega]
theorem lzput_f (k : Nat) (x : List Int) (s : S44) (hs : OkS s) (h0 : s.f0.length ≤ 4194304) (h2 : s.f2 ≤ 4194304) (hk : 20000 < k) (hx : x.length < 140737000000000) : lz_put.f k x s.f0 s.f1 s.f2 = some (x ++ putP s) := by
  have w0 : wrap64 (s.f2 - 4) = s.f2 - 4 := IntWalk.wrap64_in _ (by rcases hs with ⟨_, h⟩ | ⟨_, _, h⟩ <;> omega)
  have hm : 0 ≤ mx 0 (s.f2 - 4) ∧ mx 0 (s.f2 - 4) ≤ 4194304 := by rw [mx_zero]; split <;> omega
  have hh := half_le (s.f0.length : Int) (by omega)
  have hh2 := half_le (mx 0 (s.f2 - 4)) hm.1
  have e1 := ext255_len (s.f0.length : Int) (by omega)
  unfold lz_put.f
  rw [w0]
  clear w0
  rw [if_pos (by omega)]
  simp only [mn_half, mn_half']
  rw [or_half _ _ hh hh2, lznumber_f k _ (s.f0.length : Int) (by omega) (by omega) hk (by simp; omega), Option.bind_some, if_pos (by simp; omega), Option.bind_some]
  unfold putP
  by_cases c : s.f1 = 0
  · have e2 : s.f2 = 0 := by rcases hs with ⟨_, h⟩ | ⟨h, _, _⟩ <;> omega
    have e3 : mx 0 (s.f2 - 4) = 0 := by rw [mx_zero, if_pos (by omega)]
    rw [if_pos c, if_pos c, if_pos c, e3, show half 0 = 0 from rfl, show (16 * half (s.f0.length : Int) + 0) % 256 = 16 * half (s.f0.length : Int) + 0 by omega]
    simp only [List.append_assoc, List.append_nil]
  · have hs' : 1 ≤ s.f1 ∧ s.f1 < 65536 ∧ 4 ≤ s.f2 := by
      rcases hs with ⟨h, _⟩ | h
      · exact absurd h c
      · exact h
    have e3 : mx 0 (s.f2 - 4) = s.f2 - 4 := by rw [mx_zero, if_neg (by omega)]
    rw [e3] at hh2
    have e4 := ext255_len (s.f2 - 4) (by omega)
    rw [if_neg c, if_neg c, if_neg c, e3, Option.bind_some, if_pos (by simp; omega), lznumber_f k _ (s.f2 - 4) (by omega) (by omega) hk (by simp; omega), Option.bind_some]
    rw [show (16 * half (s.f0.length : Int) + half (s.f2 - 4)) % 256 = 16 * half (s.f0.length : Int) + half (s.f2 - 4) by omega, show s.f1 / 256 % 256 = s.f1 / 256 by omega]
    simp only [List.append_assoc]
/-- Whether sequences are more than a block. -/
def longP : List S44 → Int → Bool
  | [], _ => false
  | s :: t, sum => if sum + s.f0.length + s.f2 > 4194304 then true else longP t (sum + s.f0.length + s.f2)
def makeP (l : List S44) : List Int × Int := if madeP l = false then ([], 1) else if longP l 0 = true then ([], 2) else (l.flatMap putP, 0)
theorem ok_at {l : List S44} (h : madeP l = true) (i : Nat) (hi : i < l.length) : OkS (l.getD i z44) ∧ (i + 1 = l.length ↔ (l.getD i z44).f1 = 0) := by
  have hf := made_facts l l.length 0 (by omega) h i (Nat.zero_le _) hi
  by_cases c : i + 1 = l.length
  · exact ⟨.inl (hf.1 c), fun _ => (hf.1 c).1, fun _ => c⟩
  · have h2 := hf.2 (by omega)
    exact ⟨.inr h2, fun h => absurd h c, fun h => by omega⟩
theorem flat_at (l : List S44) (i : Nat) (hi : i < l.length) : (l.drop i).flatMap putP = putP (l.getD i z44) ++ (l.drop (i + 1)).flatMap putP := by
  rw [drop_at l i hi, List.flatMap_cons]
theorem lzMake_l1 (l : List S44) (hm : madeP l = true) (hl : l.length ≤ 3518437208880) (hs : ∀ i, i < l.length → (l.getD i z44).f0.length ≤ 4194304 ∧ (l.getD i z44).f2 ≤ 4194304) :
    ∀ (j k i : Nat) (x : List Int), i + j = l.length → j + 20001 < k → (x ++ (l.drop i).flatMap putP).length < 140737000000000 → lz_Make.l1 k x l (l.length : Int) (i : Int) = some (x ++ (l.drop i).flatMap putP, 0) := by
  intro j
  induction j with
  | zero =>
    intro k i x hi hk hx
    obtain ⟨k, rfl⟩ : ∃ q, k = q + 1 := ⟨k - 1, by omega⟩
    rw [lz_Make.l1, if_neg (by omega), List.drop_of_length_le (by omega)]
    simp
  | succ j ih =>
    intro k i x hi hk hx
    obtain ⟨k, rfl⟩ : ∃ q, k = q + 1 := ⟨k - 1, by omega⟩
    have w1 : wrap64 ((i : Int) + 1) = ((i + 1 : Nat) : Int) := by rw [IntWalk.wrap64_in _ (by omega)]; omega
    have h1 := hs i (by omega)
    have hx2 : x.length < 140737000000000 := by rw [List.length_append] at hx; omega
    rw [flat_at l i (by omega)] at hx ⊢
    rw [lz_Make.l1, w1]
    clear w1
    rw [if_pos (by omega), if_pos (by omega), if_pos (by omega), rd_at, lzput_f k x _ (ok_at hm i (by omega)).1 h1.1 h1.2 (by omega) hx2, Option.bind_some, ih k (i + 1) _ (by omega) (by omega) (by rw [List.append_assoc]; exact hx), List.append_assoc]
/-- What is not long: each sequence, all the bytes. -/
theorem long_each (l : List S44) : ∀ (j i : Nat) (sum : Int), i + j = l.length → 0 ≤ sum → (∀ q, i ≤ q → q < l.length → 0 ≤ (l.getD q z44).f2) → longP (l.drop i) sum = false → ∀ q, i ≤ q → q < l.length → (l.getD q z44).f0.length ≤ 4194304 ∧ (l.getD q z44).f2 ≤ 4194304 := by
  intro j
  induction j with
  | zero => intro i sum hi h0 h2 h q h3 h4; omega
  | succ j ih =>
    intro i sum hi h0 h2 h q h3 h4
    rw [drop_at l i (by omega), longP] at h
    have hi2 := h2 i (Nat.le_refl _) (by omega)
    by_cases c : sum + ((l.getD i z44).f0.length : Int) + (l.getD i z44).f2 > 4194304
    · rw [if_pos c] at h; cases h
    · rw [if_neg c] at h
      rcases Nat.eq_or_lt_of_le h3 with e | e
      · subst e; omega
      · exact ih (i + 1) _ (by omega) (by omega) (fun q a b => h2 q (by omega) b) h q (by omega) h4
theorem long_bytes (l : List S44) (hm : madeP l = true) : ∀ (j i : Nat) (sum : Int), i + j = l.length → 0 ≤ sum → sum ≤ 4194304 → longP (l.drop i) sum = false → (((l.drop i).flatMap putP).length : Int) ≤ 8 * (j : Int) + 2 * (4194304 - sum) := by
  intro j
  induction j with
  | zero =>
    intro i sum hi h0 h1 h
    rw [List.drop_of_length_le (by omega)]
    simp
    omega
  | succ j ih =>
    intro i sum hi h0 h1 h
    have hok := (ok_at hm i (by omega)).1
    rw [flat_at l i (by omega), List.length_append]
    rw [drop_at l i (by omega), longP] at h
    have hp := putP_len (l.getD i z44) (by rcases hok with h | h <;> omega)
    have hf2 : 0 ≤ (l.getD i z44).f2 := by rcases hok with h | h <;> omega
    by_cases c : sum + ((l.getD i z44).f0.length : Int) + (l.getD i z44).f2 > 4194304
    · rw [if_pos c] at h; cases h
    · rw [if_neg c] at h
      have := ih (i + 1) _ (by omega) (by omega) (by omega) h
      omega
theorem lzMake_l0 (l : List S44) (hm : madeP l = true) (hl : l.length ≤ 3518437208880) (hs : ∀ i, i < l.length → (l.getD i z44).f0.length ≤ 140737488355327 ∧ (l.getD i z44).f2 ≤ 9223372036854775807) :
    ∀ (j k i : Nat) (sum : Int), i + j = l.length → j < k → 0 ≤ sum → sum ≤ 4194304 → lz_Make.l0 k l sum l (l.length : Int) (i : Int) = if longP (l.drop i) sum = true then some ([], 2) else lz_Make.l1 (k - (j + 1)) [] l (l.length : Int) 0 := by
  intro j
  induction j with
  | zero =>
    intro k i sum hi hk h0 h1
    obtain ⟨k, rfl⟩ : ∃ q, k = q + 1 := ⟨k - 1, by omega⟩
    rw [lz_Make.l0, if_neg (by omega), List.drop_of_length_le (by omega), longP, if_neg (by decide)]
    rfl
  | succ j ih =>
    intro k i sum hi hk h0 h1
    obtain ⟨k, rfl⟩ : ∃ q, k = q + 1 := ⟨k - 1, by omega⟩
    have h2 := hs i (by omega)
    have hok := (ok_at hm i (by omega)).1
    have hf2 : 0 ≤ (l.getD i z44).f2 := by rcases hok with h | h <;> omega
    rw [lz_Make.l0, if_pos (by omega), if_pos (by omega), if_pos (by omega), rd_at, drop_at l i (by omega), longP]
    generalize l.getD i z44 = s at h2 hok hf2 ⊢
    have w1 : wrap64 (4194304 - sum) = 4194304 - sum := IntWalk.wrap64_in _ (by omega)
    have w2 : wrap64 (4194304 - sum - (s.f0.length : Int)) = 4194304 - sum - (s.f0.length : Int) := by clear w1; exact IntWalk.wrap64_in _ (by omega)
    rw [w1, w2]
    clear w1 w2
    by_cases c1 : (s.f0.length : Int) > 4194304 - sum
    · rw [if_pos c1, if_pos (show sum + (s.f0.length : Int) + s.f2 > 4194304 by omega), if_pos rfl]
    · rw [if_neg c1]
      by_cases c2 : s.f2 > 4194304 - sum - (s.f0.length : Int)
      · rw [if_pos c2, if_pos (show sum + (s.f0.length : Int) + s.f2 > 4194304 by omega), if_pos rfl]
      · have w3 : wrap64 ((s.f0.length : Int) + s.f2) = (s.f0.length : Int) + s.f2 := IntWalk.wrap64_in _ (by omega)
        have w4 : wrap64 (sum + ((s.f0.length : Int) + s.f2)) = sum + (s.f0.length : Int) + s.f2 := by clear w3; rw [IntWalk.wrap64_in _ (by omega)]; omega
        have w5 : wrap64 ((i : Int) + 1) = ((i + 1 : Nat) : Int) := by clear w3 w4; rw [IntWalk.wrap64_in _ (by omega)]; omega
        rw [w3, w4, w5]
        clear w3 w4 w5
        rw [if_neg c2, if_neg (show ¬ sum + (s.f0.length : Int) + s.f2 > 4194304 by omega), ih k (i + 1) _ (by omega) (by omega) (by omega) (by omega)]
        congr 2
        omega
theorem lzMake_f (l : List S44) (hl : l.length ≤ 3518437208880) (hs : ∀ i, i < l.length → (l.getD i z44).f0.length ≤ 140737488355327 ∧ (l.getD i z44).f2 ≤ 9223372036854775807) : lz_Make.f (2 * l.length + 30000) l = some (makeP l) := by
  unfold lz_Make.f makeP
  rw [at_rounds (g := fun k => lz_made.f k l) (fun k => lz_made.mono _ k) (show l.length + 1 ≤ 2 * l.length + 30000 by omega) (made_f l (by omega)), Option.bind_some]
  by_cases hm : madeP l = true
  · rw [if_pos hm, if_neg (by rw [hm]; decide)]
    have h0 : lz_Make.l0 (2 * l.length + 30000) l 0 l (l.length : Int) 0 = _ := lzMake_l0 l hm hl hs l.length (2 * l.length + 30000) 0 0 (by omega) (by omega) (by omega) (by omega)
    rw [h0, List.drop_zero]
    clear h0
    by_cases c : longP l 0 = true
    · rw [if_pos c, if_pos c]
    · have c' : longP l 0 = false := by simpa using c
      have hok2 : ∀ q, 0 ≤ q → q < l.length → 0 ≤ (l.getD q z44).f2 := fun q _ h => by
        have := (ok_at hm q h).1
        rcases this with h | h <;> omega
      have he := long_each l l.length 0 0 (by omega) (by omega) hok2 (by rw [List.drop_zero]; exact c')
      have hb := long_bytes l hm l.length 0 0 (by omega) (by omega) (by omega) (by rw [List.drop_zero]; exact c')
      rw [List.drop_zero] at hb
      have h1 : lz_Make.l1 (2 * l.length + 30000 - (l.length + 1)) [] l (l.length : Int) 0 = _ := lzMake_l1 l hm hl (fun i hi => he i (Nat.zero_le _) hi) l.length _ 0 [] (by omega) (by omega) (by rw [List.drop_zero, List.nil_append]; omega)
      rw [if_neg c, if_neg c, h1]
      rfl
  · have hm' : madeP l = false := by simpa using hm
    rw [if_neg hm, if_pos hm']
theorem made_end (l : List S44) (h0 : 0 < l.length) (h : ¬ ((l.getD (l.length - 1) z44).f1 = 0 ∧ (l.getD (l.length - 1) z44).f2 = 0)) : madeP l = false := by
  cases hm : madeP l with
  | false => rfl
  | true => exact absurd ((made_facts l l.length 0 (by omega) hm (l.length - 1) (Nat.zero_le _) (by omega)).1 (by omega)) h
theorem copies_l0 (l : List S44) (hl : l.length ≤ 3518437208880) (hs : ∀ i, i < l.length → (l.getD i z44).f0.length ≤ 140737488355327) : ∀ (j k i : Nat) (x : List S44), i + j = l.length → j < k → x.length = i → satchellaw03_copies.l0 k l x (i : Int) = some (x ++ l.drop i) := by
  intro j
  induction j with
  | zero =>
    intro k i x hi hk hx
    obtain ⟨k, rfl⟩ : ∃ q, k = q + 1 := ⟨k - 1, by omega⟩
    rw [satchellaw03_copies.l0, if_neg (by omega), List.drop_of_length_le (by omega), List.append_nil]
  | succ j ih =>
    intro k i x hi hk hx
    obtain ⟨k, rfl⟩ : ∃ q, k = q + 1 := ⟨k - 1, by omega⟩
    have w1 : wrap64 ((i : Int) + 1) = ((i + 1 : Nat) : Int) := by rw [IntWalk.wrap64_in _ (by omega)]; omega
    have h1 := hs i (by omega)
    rw [satchellaw03_copies.l0, w1]
    clear w1
    rw [if_pos (by omega), Option.bind_some, if_pos (by omega), rd_at, if_pos (by rw [List.length_nil]; omega), if_pos (by omega), ih k (i + 1) _ (by omega) (by omega) (by simp; omega), drop_at l i (by omega)]
    simp
theorem copies_f (l : List S44) (hl : l.length ≤ 3518437208880) (hs : ∀ i, i < l.length → (l.getD i z44).f0.length ≤ 140737488355327) : satchellaw03_copies.f (l.length + 1) l = some l := by
  unfold satchellaw03_copies.f
  have h : satchellaw03_copies.l0 (l.length + 1) l [] 0 = _ := copies_l0 l hl hs l.length (l.length + 1) 0 [] (by omega) (by omega) rfl
  rw [h]
  rfl
/-- The longest plain run. -/
def longest : List S44 → Nat
  | [] => 0
  | s :: t => max s.f0.length (longest t)
theorem longest_at (l : List S44) : ∀ i, i < l.length → (l.getD i z44).f0.length ≤ longest l := by
  induction l with
  | nil => intro i hi; simp at hi
  | cons s t ih =>
    intro i hi
    cases i with
    | zero => exact Nat.le_max_left _ _
    | succ i => exact Nat.le_trans (ih i (by simpa using hi)) (Nat.le_max_right _ _)
theorem short_of (l : List S44) (hs : ∀ i, i < l.length → (l.getD i z44).f0.length ≤ 140737488355327) : shortS l = true := by
  unfold shortS
  rw [List.all_eq_true]
  intro s hsm
  obtain ⟨i, hi, rfl⟩ := List.mem_iff_getElem.1 hsm
  have := hs i hi
  rw [List.getD_eq_getElem?_getD, List.getElem?_eq_getElem hi] at this
  exact decide_eq_true this
theorem seqs_f (l : List S44) (hl : l.length ≤ 3518437208880) (hs : ∀ i, i < l.length → (l.getD i z44).f0.length ≤ 140737488355327) (k : Nat) : satchellaw03_seqs.f k l l = some true := by
  unfold satchellaw03_seqs.f
  rw [if_pos ⟨rfl, by omega, short_of l hs⟩]

end Go.Proofs.Ytnomebkdhjigjaa.W
