/- lz.Encode as a plain function, and what holds of it: sequences of a block that play to the plain bytes, within the bound, with the end that a block must have. -/
import Derived.Test.YtnomebkdhjigjaaLn
namespace Go.Proofs.Ytnomebkdhjigjaa.W
open Go.RowKit Go.Proofs.Ytnomebkdhjigjaa.Z
set_option linter.unusedVariables false
set_option linter.unusedSimpArgs false
theorem drop_cons2 {b : List Int} {k : Nat} (h : k < b.length) : b.drop k = b.getD k 0 :: b.drop (k + 1) := by
  rw [List.getD_eq_getElem?_getD, List.getElem?_eq_getElem h]
  exact List.drop_eq_getElem_cons h
/-- Four bytes at a place. -/
def key4 (all : List Int) (i : Nat) : List Int := (all.drop i).take 4
/-- The last place ahead of n with these four bytes. -/
def find4 (all : List Int) : Nat → List Int → Option Nat
  | 0, _ => none
  | n + 1, q => if n + 4 ≤ all.length ∧ key4 all n = q then some n else find4 all n q
/-- How long a match is. -/
def mlen (all : List Int) (k i : Nat) : Nat → Nat → Nat
  | 0, n => n
  | f + 1, n => if i + n + 5 < all.length ∧ all.getD (i + n) 0 = all.getD (k + n) 0 then mlen all k i f (n + 1) else n
/-- The sequences from a place on. -/
def encL (all : List Int) : Nat → Nat → Nat → List S44
  | 0, fr, _ => [⟨all.drop fr, 0, 0⟩]
  | f + 1, fr, i => if i + 12 ≤ all.length then
      (match find4 all i (key4 all i) with
      | none => encL all f fr (i + 1)
      | some k => if 65536 ≤ i - k then encL all f fr (i + 1) else
          ⟨(all.take i).drop fr, ((i - k : Nat) : Int), ((mlen all k i all.length 4 : Nat) : Int)⟩ :: encL all f (i + mlen all k i all.length 4) (i + mlen all k i all.length 4))
    else [⟨all.drop fr, 0, 0⟩]
def encA (plain ahead : List Int) : List S44 := encL (window ahead ++ plain) ((window ahead ++ plain).length + 1) (window ahead).length (window ahead).length
def encode (plain ahead : List Int) : List Int × Int := if plain.length > 4194304 then ([], 2) else ((encA plain ahead).flatMap putP, 0)
theorem find4_some {all : List Int} {q : List Int} : ∀ {n k : Nat}, find4 all n q = some k → k < n ∧ k + 4 ≤ all.length ∧ key4 all k = q := by
  intro n
  induction n with
  | zero => intro k h; cases h
  | succ n ih =>
    intro k h
    rw [find4] at h
    by_cases c : n + 4 ≤ all.length ∧ key4 all n = q
    · rw [if_pos c] at h
      cases h
      exact ⟨by omega, c.1, c.2⟩
    · rw [if_neg c] at h
      have := ih h
      exact ⟨by omega, this.2⟩
theorem mlen_facts (all : List Int) (k i : Nat) : ∀ (f n : Nat), i + n + 5 ≤ all.length → (∀ t, t < n → all.getD (i + t) 0 = all.getD (k + t) 0) →
    n ≤ mlen all k i f n ∧ i + mlen all k i f n + 5 ≤ all.length ∧ ∀ t, t < mlen all k i f n → all.getD (i + t) 0 = all.getD (k + t) 0 := by
  intro f
  induction f with
  | zero => intro n h1 h2; exact ⟨Nat.le_refl _, h1, h2⟩
  | succ f ih =>
    intro n h1 h2
    rw [mlen]
    by_cases c : i + n + 5 < all.length ∧ all.getD (i + n) 0 = all.getD (k + n) 0
    · rw [if_pos c]
      have := ih (n + 1) (by omega) (fun t ht => by
        by_cases e : t = n
        · rw [e]; exact c.2
        · exact h2 t (by omega))
      exact ⟨by omega, this.2⟩
    · rw [if_neg c]
      exact ⟨Nat.le_refl _, h1, h2⟩
theorem key4_get {all : List Int} {k i : Nat} (h : key4 all k = key4 all i) (t : Nat) (ht : t < 4) : all.getD (k + t) 0 = all.getD (i + t) 0 := by
  have e : ∀ j, all.getD (j + t) 0 = (key4 all j).getD t 0 := fun j => by
    unfold key4
    rw [List.getD_eq_getElem?_getD, List.getD_eq_getElem?_getD, List.getElem?_take, if_pos ht, List.getElem?_drop]
  rw [e, e, h]
/-- A match that holds: what it copies stands there. -/
theorem copied_take (all : List Int) (i k : Nat) (hk : k < i) : ∀ n j : Nat, i ≤ j → j + n ≤ all.length → (∀ t, t < j + n - i → all.getD (i + t) 0 = all.getD (k + t) 0) → copied (i - k) n (all.take j) = all.take (j + n) := by
  intro n
  induction n with
  | zero => intro j h1 h2 h3; rfl
  | succ n ih =>
    intro j h1 h2 h3
    rw [copied]
    have hl : (all.take j).length = j := by rw [List.length_take]; omega
    have hg : (all.take j).getD ((all.take j).length - (i - k)) 0 = all.getD j 0 := by
      rw [hl, List.getD_eq_getElem?_getD, List.getElem?_take, if_pos (by omega), ← List.getD_eq_getElem?_getD]
      have := h3 (j - i) (by omega)
      rw [show i + (j - i) = j by omega, show k + (j - i) = j - (i - k) by omega] at this
      exact this.symm
    rw [hg]
    have hs : all.take j ++ [all.getD j 0] = all.take (j + 1) := by
      rw [List.take_add_one, List.getD_eq_getElem?_getD, List.getElem?_eq_getElem (by omega)]
      rfl
    rw [hs, ih (j + 1) (by omega) (by omega) (fun t ht => h3 t (by omega))]
    congr 1
    omega
/-- Whether sequences end as a block must. -/
def endsP : List S44 → Bool
  | [] => false
  | [s] => true
  | [s, t] => decide (5 ≤ (t.f0.length : Int) ∧ 12 ≤ s.f2 + (t.f0.length : Int))
  | s :: t :: u :: r => endsP (t :: u :: r)
theorem ext255_small (n : Int) (h : 0 ≤ n) : ((ext255 n).length : Int) ≤ n / 255 + 1 ∧ (n < 15 → (ext255 n).length = 0) := by
  unfold ext255
  by_cases c : n < 15
  · rw [if_pos c]
    exact ⟨by simp; omega, fun _ => rfl⟩
  · rw [if_neg c, numN_len]
    exact ⟨by omega, fun h => by omega⟩
theorem put_small (s : S44) (h : 1 ≤ s.f1 ∧ 4 ≤ s.f2) : ((putP s).length : Int) ≤ (s.f0.length : Int) + s.f2 + ((s.f0.length : Int) + s.f2) / 255 := by
  have e1 := ext255_small (s.f0.length : Int) (by omega)
  have e2 := ext255_small (s.f2 - 4) (by omega)
  have hz : ¬ s.f1 = 0 := by omega
  unfold putP
  rw [if_neg hz, if_neg hz]
  simp only [List.length_append, List.length_cons, List.length_nil]
  by_cases c1 : (s.f0.length : Int) < 15
  · have := e1.2 c1
    by_cases c2 : s.f2 - 4 < 15
    · have := e2.2 c2; omega
    · have := e2.1; omega
  · by_cases c2 : s.f2 - 4 < 15
    · have := e2.2 c2; omega
    · have := e2.1; omega
theorem encL_one (all : List Int) : ∀ (f fr i : Nat) (x : S44), encL all f fr i = [x] → x = ⟨all.drop fr, 0, 0⟩ := by
  intro f
  induction f with
  | zero => intro fr i x h; injection h with h; exact h.symm
  | succ f ih =>
    intro fr i x h
    rw [encL] at h
    by_cases c : i + 12 ≤ all.length
    · rw [if_pos c] at h
      cases e : find4 all i (key4 all i) with
      | none => rw [e] at h; exact ih _ _ _ h
      | some k =>
        rw [e] at h
        simp only at h
        by_cases c2 : 65536 ≤ i - k
        · rw [if_pos c2] at h; exact ih _ _ _ h
        · rw [if_neg c2] at h
          injection h with h1 h2
          exfalso
          have : ∀ f fr i, encL all f fr i ≠ [] := by
            intro f
            induction f with
            | zero => intro fr i h; cases h
            | succ f ih =>
              intro fr i h
              rw [encL] at h
              split at h
              · split at h
                · exact ih _ _ h
                · split at h
                  · exact ih _ _ h
                  · cases h
              · cases h
          exact this _ _ _ h2
    · rw [if_neg c] at h; injection h with h; exact h.symm
theorem encL_ne (all : List Int) : ∀ f fr i, encL all f fr i ≠ [] := by
  intro f
  induction f with
  | zero => intro fr i h; cases h
  | succ f ih =>
    intro fr i h
    rw [encL] at h
    split at h
    · split at h
      · exact ih _ _ h
      · split at h
        · exact ih _ _ h
        · cases h
    · cases h
/-- What Encode's sequences are. -/
theorem encL_facts (all : List Int) (bg most : Int) (hm : (all.length : Int) - bg ≤ most) : ∀ (f fr i : Nat), fr ≤ i → i ≤ all.length →
    madeP (encL all f fr i) = true ∧ playL bg most (encL all f fr i) (all.take fr) = (0, all) ∧ (((encL all f fr i).flatMap putP).length : Int) ≤ ((all.length : Int) - fr) + ((all.length : Int) - fr) / 255 + 2 ∧ endsP (encL all f fr i) = true ∧
      (∀ s ∈ encL all f fr i, s.f0.length ≤ all.length ∧ 0 ≤ s.f2 ∧ s.f2 ≤ (all.length : Int) ∧ ∀ x ∈ s.f0, x ∈ all) := by
  have last : ∀ fr : Nat, fr ≤ all.length → madeP [⟨all.drop fr, 0, 0⟩] = true ∧ playL bg most [⟨all.drop fr, 0, 0⟩] (all.take fr) = (0, all) ∧ (((([⟨all.drop fr, 0, 0⟩] : List S44)).flatMap putP).length : Int) ≤ ((all.length : Int) - fr) + ((all.length : Int) - fr) / 255 + 2 ∧ endsP [⟨all.drop fr, 0, 0⟩] = true ∧
      (∀ s ∈ ([⟨all.drop fr, 0, 0⟩] : List S44), s.f0.length ≤ all.length ∧ 0 ≤ s.f2 ∧ s.f2 ≤ (all.length : Int) ∧ ∀ x ∈ s.f0, x ∈ all) := by
    intro fr hfr
    have hl : ((all.drop fr).length : Int) = (all.length : Int) - fr := by rw [List.length_drop]; omega
    have ht : ((all.take fr).length : Int) = fr := by rw [List.length_take]; omega
    refine ⟨rfl, ?_, ?_, rfl, ?_⟩
    · unfold playL
      rw [if_neg (by simp only [hl, ht]; omega), if_pos rfl, List.take_append_drop]
    · have e1 := ext255_small ((all.drop fr).length : Int) (by omega)
      simp only [List.flatMap_cons, List.flatMap_nil, List.append_nil, putP, if_true, List.length_append, List.length_cons, List.length_nil]
      omega
    · intro s hs
      rw [List.mem_singleton.1 hs]
      exact ⟨by show (all.drop fr).length ≤ _; omega, by show (0 : Int) ≤ 0; omega, by show (0 : Int) ≤ _; omega, fun x hx => List.mem_of_mem_drop hx⟩
  intro f
  induction f with
  | zero => intro fr i h1 h2; exact last fr (by omega)
  | succ f ih =>
    intro fr i h1 h2
    rw [encL]
    by_cases c : i + 12 ≤ all.length
    · rw [if_pos c]
      cases e : find4 all i (key4 all i) with
      | none => exact ih fr (i + 1) (by omega) (by omega)
      | some k =>
        simp only
        by_cases c2 : 65536 ≤ i - k
        · rw [if_pos c2]; exact ih fr (i + 1) (by omega) (by omega)
        · rw [if_neg c2]
          obtain ⟨k1, k2, k3⟩ := find4_some e
          have hml := mlen_facts all k i all.length 4 (by omega) (fun t ht => (key4_get k3 t ht).symm)
          generalize mlen all k i all.length 4 = n at *
          obtain ⟨n1, n2, n3⟩ := hml
          obtain ⟨i1, i2, i3, i4, i5⟩ := ih (i + n) (i + n) (Nat.le_refl _) (by omega)
          have hne := encL_ne all f (i + n) (i + n)
          have hone := encL_one all f (i + n) (i + n)
          generalize encL all f (i + n) (i + n) = T at *
          have hxl : (((all.take i).drop fr).length : Int) = (i : Int) - fr := by rw [List.length_drop, List.length_take]; omega
          have hjoin : all.take fr ++ (all.take i).drop fr = all.take i := by
            have : all.take fr = (all.take i).take fr := by rw [List.take_take]; congr 1; omega
            rw [this, List.take_append_drop]
          refine ⟨?_, ?_, ?_, ?_, ?_⟩
          · cases T with
            | nil => exact absurd rfl hne
            | cons t u =>
              rw [madeP, i1, Bool.and_true]
              exact decide_eq_true ⟨by show (1 : Int) ≤ ((i - k : Nat) : Int); omega, by show ((i - k : Nat) : Int) < 65536; omega, by show (4 : Int) ≤ (n : Int); omega⟩
          · have ht : ((all.take fr).length : Int) = fr := by rw [List.length_take]; omega
            have ht2 : ((all.take i).length : Int) = i := by rw [List.length_take]; omega
            rw [playL]
            simp only [hxl, ht, hjoin, ht2]
            rw [if_neg (by omega), if_neg (by omega), if_neg (by omega), if_neg (by omega), show ((i - k : Nat) : Int).toNat = i - k by omega, show ((n : Nat) : Int).toNat = n by omega,
              copied_take all i k k1 n i (Nat.le_refl _) (by omega) (fun t ht => n3 t (by omega))]
            exact i2
          · have hp := put_small ⟨(all.take i).drop fr, ((i - k : Nat) : Int), (n : Int)⟩ ⟨by show (1 : Int) ≤ ((i - k : Nat) : Int); omega, by show (4 : Int) ≤ (n : Int); omega⟩
            rw [List.flatMap_cons, List.length_append]
            simp only [hxl] at hp
            have : ((i + n : Nat) : Int) = (i : Int) + n := by omega
            rw [this] at i3
            omega
          · match T, hne, hone, i4 with
            | [t], _, hone, _ =>
              have := hone t rfl
              rw [this]
              have hl : ((all.drop (i + n)).length : Int) = (all.length : Int) - (i + n : Nat) := by rw [List.length_drop]; omega
              exact decide_eq_true ⟨by show (5 : Int) ≤ ((all.drop (i + n)).length : Int); omega, by show (12 : Int) ≤ (n : Int) + ((all.drop (i + n)).length : Int); omega⟩
            | t :: u :: r, _, _, i4 => exact i4
          · intro s hs
            rcases List.mem_cons.1 hs with hs | hs
            · rw [hs]
              exact ⟨by show ((all.take i).drop fr).length ≤ _; omega, by show (0 : Int) ≤ (n : Int); omega, by show (n : Int) ≤ _; omega, fun x hx => List.mem_of_mem_take (List.mem_of_mem_drop hx)⟩
            · exact i5 s hs
    · rw [if_neg c]; exact last fr (by omega)
/-- One byte many times. -/
theorem find4_rep (x : Int) (n : Nat) (h : 12 ≤ n) : find4 (List.replicate n x) 1 (key4 (List.replicate n x) 1) = some 0 := by
  rw [find4, if_pos]
  refine ⟨by simp; omega, ?_⟩
  unfold key4
  rw [List.drop_zero, List.take_replicate, List.drop_replicate, List.take_replicate]
  congr 1
  omega
theorem mlen_rep (x : Int) (n : Nat) : ∀ f m : Nat, m + 6 ≤ n → n ≤ f + m + 6 → mlen (List.replicate n x) 0 1 f m = n - 6 := by
  intro f
  induction f with
  | zero => intro m h1 h2; rw [mlen]; omega
  | succ f ih =>
    intro m h1 h2
    rw [mlen]
    by_cases c : m + 6 = n
    · rw [if_neg (by simp; omega)]
      omega
    · rw [if_pos]
      · exact ih (m + 1) (by omega) (by omega)
      · have hg : ∀ j, j < n → (List.replicate n x).getD j 0 = x := fun j hj => by simp [List.getD_eq_getElem?_getD, List.getElem?_replicate, hj]
        exact ⟨by simp; omega, by rw [hg _ (by omega), hg _ (by omega)]⟩
theorem enc_rep (x : Int) (n : Nat) (h : 64 ≤ n) : encA (List.replicate n x) [] = [⟨[x], 1, ((n - 6 : Nat) : Int)⟩, ⟨List.replicate 5 x, 0, 0⟩] := by
  have hw : window ([] : List Int) = [] := rfl
  unfold encA
  rw [hw, List.nil_append, List.length_replicate]
  show encL _ (n + 1) 0 0 = _
  obtain ⟨m, rfl⟩ : ∃ m, n = m + 3 := ⟨n - 3, by omega⟩
  rw [encL, if_pos (by simp; omega)]
  show encL (List.replicate (m + 3) x) (m + 2 + 1) 0 (0 + 1) = _
  rw [encL, if_pos (by simp; omega), find4_rep x (m + 3) (by omega)]
  show (if 65536 ≤ 1 - 0 then _ else _) = _
  rw [if_neg (by decide), mlen_rep x (m + 3) _ 4 (by omega) (by simp), encL, if_neg (by simp; omega)]
  have h1 : (List.take (0 + 1) (List.replicate (m + 3) x)).drop 0 = [x] := rfl
  have h2 : List.drop (0 + 1 + (m + 3 - 6)) (List.replicate (m + 3) x) = List.replicate 5 x := by rw [List.drop_replicate]; congr 1; omega
  rw [h1, h2]
  rfl
theorem small_rep (x : Int) (n : Nat) (h : 64 ≤ n) : 0 < ((encA (List.replicate n x) []).flatMap putP).length ∧ (((encA (List.replicate n x) []).flatMap putP).length : Int) ≤ 32 + (n : Int) / 200 := by
  rw [enc_rep x n h]
  have e := ext255_small (((n - 6 : Nat) : Int) - 4) (by omega)
  simp only [List.flatMap_cons, List.flatMap_nil, List.append_nil, putP, if_true, List.length_append, List.length_cons, List.length_nil, List.length_replicate]
  rw [if_neg (by decide)]
  simp only [List.length_append, List.length_cons, List.length_nil]
  have h0 : (ext255 (((0 + 1 : Nat) : Int))).length = 0 := rfl
  have h5 : (ext255 ((5 : Nat) : Int)).length = 0 := rfl
  rw [h0, h5]
  omega
end Go.Proofs.Ytnomebkdhjigjaa.W
