/- Texts of mine made one: Ea, Eb, Ec, Ed, Ee. -/
import Derived.Test.YtnomebkdhjigjaaLn
import Derived.Maps.OwnSet
import Derived.Maps.Views
import Derived.WideKeyPair
import Derived.Test.YtnomebkdhjigjaaAb
import Derived.Lib.AppendZeros
/- lz.Encode as a plain function, and what holds of it: sequences of a block that play to the plain bytes, within the bound, with the end that a block must have. -/
namespace Go.Proofs.Ytnomebkdhjigjaa.W
open Go.RowKit Go.Proofs.Ytnomebkdhjigjaa.Z
set_option linter.unusedVariables false
set_option linter.unusedSimpArgs false
theorem drop_cons2 {b : List Int} {k : Nat} (h : k < b.length) : b.drop k = b.getD k 0 :: b.drop (k + 1) := by
  rw [List.getD_eq_getElem?_getD, List.getElem?_eq_getElem h]
  exact List.drop_eq_getElem_cons h
/-- Four bytes at a place. -/
def key4 (all : List Int) (i : Nat) : List Int := (all.drop i).take 4
/-- The last place ahead of n with these four bytes. -/
def find4 (all : List Int) : Nat → List Int → Option Nat
  | 0, _ => none
  | n + 1, q => if n + 4 ≤ all.length ∧ key4 all n = q then some n else find4 all n q
/-- How long a match is. -/
def mlen (all : List Int) (k i : Nat) : Nat → Nat → Nat
  | 0, n => n
  | f + 1, n => if i + n + 5 < all.length ∧ all.getD (i + n) 0 = all.getD (k + n) 0 then mlen all k i f (n + 1) else n
/-- The sequences from a place on. -/
def encL (all : List Int) : Nat → Nat → Nat → List S44
  | 0, fr, _ => [⟨all.drop fr, 0, 0⟩]
  | f + 1, fr, i => if i + 12 ≤ all.length then
      (match find4 all i (key4 all i) with
      | none => encL all f fr (i + 1)
      | some k => if 65536 ≤ i - k then encL all f fr (i + 1) else
          ⟨(all.take i).drop fr, ((i - k : Nat) : Int), ((mlen all k i all.length 4 : Nat) : Int)⟩ :: encL all f (i + mlen all k i all.length 4) (i + mlen all k i all.length 4))
    else [⟨all.drop fr, 0, 0⟩]
def encA (plain ahead : List Int) : List S44 := encL (window ahead ++ plain) ((window ahead ++ plain).length + 1) (window ahead).length (window ahead).length
def encode (plain ahead : List Int) : List Int × Int := if plain.length > 4194304 then ([], 2) else ((encA plain ahead).flatMap putP, 0)
theorem find4_some {all : List Int} {q : List Int} : ∀ {n k : Nat}, find4 all n q = some k → k < n ∧ k + 4 ≤ all.length ∧ key4 all k = q := by
  intro n
  induction n with
  | zero => intro k h; cases h
  | succ n ih =>
    intro k h
    rw [find4] at h
    by_cases c : n + 4 ≤ all.length ∧ key4 all n = q
    · rw [if_pos c] at h
      cases h
      exact ⟨by omega, c.1, c.2⟩
    · rw [if_neg c] at h
      have := ih h
      exact ⟨by omega, this.2⟩
theorem mlen_facts (all : List Int) (k i : Nat) : ∀ (f n : Nat), i + n + 5 ≤ all.length → (∀ t, t < n → all.getD (i + t) 0 = all.getD (k + t) 0) →
    n ≤ mlen all k i f n ∧ i + mlen all k i f n + 5 ≤ all.length ∧ ∀ t, t < mlen all k i f n → all.getD (i + t) 0 = all.getD (k + t) 0 := by
  intro f
  induction f with
  | zero => intro n h1 h2; exact ⟨Nat.le_refl _, h1, h2⟩
  | succ f ih =>
    intro n h1 h2
    rw [mlen]
    by_cases c : i + n + 5 < all.length ∧ all.getD (i + n) 0 = all.getD (k + n) 0
    · rw [if_pos c]
      have := ih (n + 1) (by omega) (fun t ht => by
        by_cases e : t = n
        · rw [e]; exact c.2
        · exact h2 t (by omega))
      exact ⟨by omega, this.2⟩
    · rw [if_neg c]
      exact ⟨Nat.le_refl _, h1, h2⟩
theorem key4_get {all : List Int} {k i : Nat} (h : key4 all k = key4 all i) (t : Nat) (ht : t < 4) : all.getD (k + t) 0 = all.getD (i + t) 0 := by
  have e : ∀ j, all.getD (j + t) 0 = (key4 all j).getD t 0 := fun j => by
    unfold key4
    rw [List.getD_eq_getElem?_getD, List.getD_eq_getElem?_getD, List.getElem?_take, if_pos ht, List.getElem?_drop]
  rw [e, e, h]
/-- A match that holds: what it copies stands there. -/
theorem copied_take (all : List Int) (i k : Nat) (hk : k < i) : ∀ n j : Nat, i ≤ j → j + n ≤ all.length → (∀ t, t < j + n - i → all.getD (i + t) 0 = all.getD (k + t) 0) → copied (i - k) n (all.take j) = all.take (j + n) := by
  intro n
  induction n with
  | zero => intro j h1 h2 h3; rfl
  | succ n ih =>
    intro j h1 h2 h3
    rw [copied]
    have hl : (all.take j).length = j := by rw [List.length_take]; omega
    have hg : (all.take j).getD ((all.take j).length - (i - k)) 0 = all.getD j 0 := by
      rw [hl, List.getD_eq_getElem?_getD, List.getElem?_take, if_pos (by omega), ← List.getD_eq_getElem?_getD]
      have := h3 (j - i) (by omega)
      rw [show i + (j - i) = j by omega, show k + (j - i) = j - (i - k) by omega] at this
      exact this.symm
    rw [hg]
    have hs : all.take j ++ [all.getD j 0] = all.take (j + 1) := by
      rw [List.take_add_one, List.getD_eq_getElem?_getD, List.getElem?_eq_getElem (by omega)]
      rfl
    rw [hs, ih (j + 1) (by omega) (by omega) (fun t ht => h3 t (by omega))]
    congr 1
    omega
/-- Whether sequences end as a block must. -/
def endsP : List S44 → Bool
  | [] => false
  | [s] => true
  | [s, t] => decide (5 ≤ (t.f0.length : Int) ∧ 12 ≤ s.f2 + (t.f0.length : Int))
  | s :: t :: u :: r => endsP (t :: u :: r)
theorem ext255_small (n : Int) (h : 0 ≤ n) : ((ext255 n).length : Int) ≤ n / 255 + 1 ∧ (n < 15 → (ext255 n).length = 0) := by
  unfold ext255
  by_cases c : n < 15
  · rw [if_pos c]
    exact ⟨by simp; omega, fun _ => rfl⟩
  · rw [if_neg c, numN_len]
    exact ⟨by omega, fun h => by omega⟩
theorem put_small (s : S44) (h : 1 ≤ s.f1 ∧ 4 ≤ s.f2) : ((putP s).length : Int) ≤ (s.f0.length : Int) + s.f2 + ((s.f0.length : Int) + s.f2) / 255 := by
  have e1 := ext255_small (s.f0.length : Int) (by omega)
  have e2 := ext255_small (s.f2 - 4) (by omega)
  have hz : ¬ s.f1 = 0 := by omega
  unfold putP
  rw [if_neg hz, if_neg hz]
  simp only [List.length_append, List.length_cons, List.length_nil]
  by_cases c1 : (s.f0.length : Int) < 15
  · have := e1.2 c1
    by_cases c2 : s.f2 - 4 < 15
    · have := e2.2 c2; omega
    · have := e2.1; omega
  · by_cases c2 : s.f2 - 4 < 15
    · have := e2.2 c2; omega
    · have := e2.1; omega
theorem encL_one (all : List Int) : ∀ (f fr i : Nat) (x : S44), encL all f fr i = [x] → x = ⟨all.drop fr, 0, 0⟩ := by
  intro f
  induction f with
  | zero => intro fr i x h; injection h with h; exact h.symm
  | succ f ih =>
    intro fr i x h
    rw [encL] at h
    by_cases c : i + 12 ≤ all.length
    · rw [if_pos c] at h
      cases e : find4 all i (key4 all i) with
      | none => rw [e] at h; exact ih _ _ _ h
      | some k =>
        rw [e] at h
        simp only at h
        by_cases c2 : 65536 ≤ i - k
        · rw [if_pos c2] at h; exact ih _ _ _ h
        · rw [if_neg c2] at h
          injection h with h1 h2
          exfalso
          have : ∀ f fr i, encL all f fr i ≠ [] := by
            intro f
            induction f with
            | zero => intro fr i h; cases h
            | succ f ih =>
              intro fr i h
              rw [encL] at h
              split at h
              · split at h
                · exact ih _ _ h
                · split at h
                  · exact ih _ _ h
                  · cases h
              · cases h
          exact this _ _ _ h2
    · rw [if_neg c] at h; injection h with h; exact h.symm
theorem encL_ne (all : List Int) : ∀ f fr i, encL all f fr i ≠ [] := by
  intro f
  induction f with
  | zero => intro fr i h; cases h
  | succ f ih =>
    intro fr i h
    rw [encL] at h
    split at h
    · split at h
      · exact ih _ _ h
      · split at h
        · exact ih _ _ h
        · cases h
    · cases h
/-- What Encode's sequences are. -/
theorem encL_facts (all : List Int) (bg most : Int) (hm : (all.length : Int) - bg ≤ most) : ∀ (f fr i : Nat), fr ≤ i → i ≤ all.length →
    madeP (encL all f fr i) = true ∧ playL bg most (encL all f fr i) (all.take fr) = (0, all) ∧ (((encL all f fr i).flatMap putP).length : Int) ≤ ((all.length : Int) - fr) + ((all.length : Int) - fr) / 255 + 2 ∧ endsP (encL all f fr i) = true ∧
      (∀ s ∈ encL all f fr i, s.f0.length ≤ all.length ∧ 0 ≤ s.f2 ∧ s.f2 ≤ (all.length : Int) ∧ ∀ x ∈ s.f0, x ∈ all) := by
  have last : ∀ fr : Nat, fr ≤ all.length → madeP [⟨all.drop fr, 0, 0⟩] = true ∧ playL bg most [⟨all.drop fr, 0, 0⟩] (all.take fr) = (0, all) ∧ (((([⟨all.drop fr, 0, 0⟩] : List S44)).flatMap putP).length : Int) ≤ ((all.length : Int) - fr) + ((all.length : Int) - fr) / 255 + 2 ∧ endsP [⟨all.drop fr, 0, 0⟩] = true ∧
      (∀ s ∈ ([⟨all.drop fr, 0, 0⟩] : List S44), s.f0.length ≤ all.length ∧ 0 ≤ s.f2 ∧ s.f2 ≤ (all.length : Int) ∧ ∀ x ∈ s.f0, x ∈ all) := by
    intro fr hfr
    have hl : ((all.drop fr).length : Int) = (all.length : Int) - fr := by rw [List.length_drop]; omega
    have ht : ((all.take fr).length : Int) = fr := by rw [List.length_take]; omega
    refine ⟨rfl, ?_, ?_, rfl, ?_⟩
    · unfold playL
      rw [if_neg (by simp only [hl, ht]; omega), if_pos rfl, List.take_append_drop]
    · have e1 := ext255_small ((all.drop fr).length : Int) (by omega)
      simp only [List.flatMap_cons, List.flatMap_nil, List.append_nil, putP, if_true, List.length_append, List.length_cons, List.length_nil]
      omega
    · intro s hs
      rw [List.mem_singleton.1 hs]
      exact ⟨by show (all.drop fr).length ≤ _; omega, by show (0 : Int) ≤ 0; omega, by show (0 : Int) ≤ _; omega, fun x hx => List.mem_of_mem_drop hx⟩
  intro f
  induction f with
  | zero => intro fr i h1 h2; exact last fr (by omega)
  | succ f ih =>
    intro fr i h1 h2
    rw [encL]
    by_cases c : i + 12 ≤ all.length
    · rw [if_pos c]
      cases e : find4 all i (key4 all i) with
      | none => exact ih fr (i + 1) (by omega) (by omega)
      | some k =>
        simp only
        by_cases c2 : 65536 ≤ i - k
        · rw [if_pos c2]; exact ih fr (i + 1) (by omega) (by omega)
        · rw [if_neg c2]
          obtain ⟨k1, k2, k3⟩ := find4_some e
          have hml := mlen_facts all k i all.length 4 (by omega) (fun t ht => (key4_get k3 t ht).symm)
          generalize mlen all k i all.length 4 = n at *
          obtain ⟨n1, n2, n3⟩ := hml
          obtain ⟨i1, i2, i3, i4, i5⟩ := ih (i + n) (i + n) (Nat.le_refl _) (by omega)
          have hne := encL_ne all f (i + n) (i + n)
          have hone := encL_one all f (i + n) (i + n)
          generalize encL all f (i + n) (i + n) = T at *
          have hxl : (((all.take i).drop fr).length : Int) = (i : Int) - fr := by rw [List.length_drop, List.length_take]; omega
          have hjoin : all.take fr ++ (all.take i).drop fr = all.take i := by
            have : all.take fr = (all.take i).take fr := by rw [List.take_take]; congr 1; omega
            rw [this, List.take_append_drop]
          refine ⟨?_, ?_, ?_, ?_, ?_⟩
          · cases T with
            | nil => exact absurd rfl hne
            | cons t u =>
              rw [madeP, i1, Bool.and_true]
              exact decide_eq_true ⟨by show (1 : Int) ≤ ((i - k : Nat) : Int); omega, by show ((i - k : Nat) : Int) < 65536; omega, by show (4 : Int) ≤ (n : Int); omega⟩
          · have ht : ((all.take fr).length : Int) = fr := by rw [List.length_take]; omega
            have ht2 : ((all.take i).length : Int) = i := by rw [List.length_take]; omega
            rw [playL]
            simp only [hxl, ht, hjoin, ht2]
            rw [if_neg (by omega), if_neg (by omega), if_neg (by omega), if_neg (by omega), show ((i - k : Nat) : Int).toNat = i - k by omega, show ((n : Nat) : Int).toNat = n by omega,
              copied_take all i k k1 n i (Nat.le_refl _) (by omega) (fun t ht => n3 t (by omega))]
            exact i2
          · have hp := put_small ⟨(all.take i).drop fr, ((i - k : Nat) : Int), (n : Int)⟩ ⟨by show (1 : Int) ≤ ((i - k : Nat) : Int); omega, by show (4 : Int) ≤ (n : Int); omega⟩
            rw [List.flatMap_cons, List.length_append]
            simp only [hxl] at hp
            have : ((i + n : Nat) : Int) = (i : Int) + n := by omega
            rw [this] at i3
            omega
          · match T, hne, hone, i4 with
            | [t], _, hone, _ =>
              have := hone t rfl
              rw [this]
              have hl : ((all.drop (i + n)).length : Int) = (all.length : Int) - (i + n : Nat) := by rw [List.length_drop]; omega
              exact decide_eq_true ⟨by show (5 : Int) ≤ ((all.drop (i + n)).length : Int); omega, by show (12 : Int) ≤ (n : Int) + ((all.drop (i + n)).length : Int); omega⟩
            | t :: u :: r, _, _, i4 => exact i4
          · intro s hs
            rcases List.mem_cons.1 hs with hs | hs
            · rw [hs]
              exact ⟨by show ((all.take i).drop fr).length ≤ _; omega, by show (0 : Int) ≤ (n : Int); omega, by show (n : Int) ≤ _; omega, fun x hx => List.mem_of_mem_take (List.mem_of_mem_drop hx)⟩
            · exact i5 s hs
    · rw [if_neg c]; exact last fr (by omega)
/-- One byte many times. -/
theorem find4_rep (x : Int) (n : Nat) (h : 12 ≤ n) : find4 (List.replicate n x) 1 (key4 (List.replicate n x) 1) = some 0 := by
  rw [find4, if_pos]
  refine ⟨by simp; omega, ?_⟩
  unfold key4
  rw [List.drop_zero, List.take_replicate, List.drop_replicate, List.take_replicate]
  congr 1
  omega
theorem mlen_rep (x : Int) (n : Nat) : ∀ f m : Nat, m + 6 ≤ n → n ≤ f + m + 6 → mlen (List.replicate n x) 0 1 f m = n - 6 := by
  intro f
  induction f with
  | zero => intro m h1 h2; rw [mlen]; omega
  | succ f ih =>
    intro m h1 h2
    rw [mlen]
    by_cases c : m + 6 = n
    · rw [if_neg (by simp; omega)]
      omega
    · rw [if_pos]
      · exact ih (m + 1) (by omega) (by omega)
      · have hg : ∀ j, j < n → (List.replicate n x).getD j 0 = x := fun j hj => by simp [List.getD_eq_getElem?_getD, List.getElem?_replicate, hj]
        exact ⟨by simp; omega, by rw [hg _ (by omega), hg _ (by omega)]⟩
theorem enc_rep (x : Int) (n : Nat) (h : 64 ≤ n) : encA (List.replicate n x) [] = [⟨[x], 1, ((n - 6 : Nat) : Int)⟩, ⟨List.replicate 5 x, 0, 0⟩] := by
  have hw : window ([] : List Int) = [] := rfl
  unfold encA
  rw [hw, List.nil_append, List.length_replicate]
  show encL _ (n + 1) 0 0 = _
  obtain ⟨m, rfl⟩ : ∃ m, n = m + 3 := ⟨n - 3, by omega⟩
  rw [encL, if_pos (by simp; omega)]
  show encL (List.replicate (m + 3) x) (m + 2 + 1) 0 (0 + 1) = _
  rw [encL, if_pos (by simp; omega), find4_rep x (m + 3) (by omega)]
  show (if 65536 ≤ 1 - 0 then _ else _) = _
  rw [if_neg (by decide), mlen_rep x (m + 3) _ 4 (by omega) (by simp), encL, if_neg (by simp; omega)]
  have h1 : (List.take (0 + 1) (List.replicate (m + 3) x)).drop 0 = [x] := rfl
  have h2 : List.drop (0 + 1 + (m + 3 - 6)) (List.replicate (m + 3) x) = List.replicate 5 x := by rw [List.drop_replicate]; congr 1; omega
  rw [h1, h2]
  rfl
theorem small_rep (x : Int) (n : Nat) (h : 64 ≤ n) : 0 < ((encA (List.replicate n x) []).flatMap putP).length ∧ (((encA (List.replicate n x) []).flatMap putP).length : Int) ≤ 32 + (n : Int) / 200 := by
  rw [enc_rep x n h]
  have e := ext255_small (((n - 6 : Nat) : Int) - 4) (by omega)
  simp only [List.flatMap_cons, List.flatMap_nil, List.append_nil, putP, if_true, List.length_append, List.length_cons, List.length_nil, List.length_replicate]
  rw [if_neg (by decide)]
  simp only [List.length_append, List.length_cons, List.length_nil]
  have h0 : (ext255 (((0 + 1 : Nat) : Int))).length = 0 := rfl
  have h5 : (ext255 ((5 : Nat) : Int)).length = 0 := rfl
  rw [h0, h5]
  omega
end Go.Proofs.Ytnomebkdhjigjaa.W
/- lz.Encode's map of four bytes: its keys, what it holds behind each place learned. -/
namespace Go.Proofs.Ytnomebkdhjigjaa.W
open Go.RowKit Go.Proofs.Ytnomebkdhjigjaa.Z Go.Maps Go.WideMaps
set_option linter.unusedVariables false
set_option linter.unusedSimpArgs false
theorem arr91 : ArrKey Try.prog 91 5 4 := ⟨Try.underlying91, by kernel_rfl, by kernel_rfl, by kernel_rfl⟩
theorem keyed91 : Keyed Try.prog 91 := Keyed.of_law arr91.law
theorem types_pos : ∃ m, Try.prog.types.size = m + 1 := ⟨Try.prog.types.size - 1, by
  have : 0 < Try.prog.types.size := of_decide_eq_true (by kernel_rfl)
  omega⟩
/-- Four bytes as a key. -/
def lit4 (q : List Int) : Lit := .string (keyBytes (q.map (Lit.int .u8)))
theorem keyOf4 {a b c d : Int} (wa : (Lit.int .u8 a).wf = true) (wb : (Lit.int .u8 b).wf = true) (wc : (Lit.int .u8 c).wf = true) (wd : (Lit.int .u8 d).wf = true) :
    keyOf Try.prog 91 (.agg #[.int .u8 a, .int .u8 b, .int .u8 c, .int .u8 d]) = some (lit4 [a, b, c, d]) := by
  have hkt := arr91.keyType types_pos
  obtain ⟨m, hm⟩ := types_pos
  unfold keyOf lit4
  simp only [arr91.hu]
  rw [if_pos (by simp [hkt, Value.formed, arr91.hu, arr91.size]), hm]
  unfold Program.keyLits
  simp only [arr91.hu, Value.cells]
  rw [if_pos (by rw [arr91.size]; rfl), show List.range 4 = [0, 1, 2, 3] from rfl, List.mapM_cons, List.mapM_cons, List.mapM_cons, List.mapM_cons, List.mapM_nil]
  simp [arr91.one, Program.keyLits, Try.underlying5, wa, wb, wc, wd]
def WfB (q : List Int) : Prop := ∀ x ∈ q, (Lit.int .u8 x).wf = true
theorem lit4_ne {q q' : List Int} (hl : q.length = q'.length) (h : WfB q) (h' : WfB q') (hne : q ≠ q') : lit4 q ≠ lit4 q' := by
  intro e
  apply hne
  unfold lit4 at e
  injection e with e
  have al : ∀ (l l' : List Int), l.length = l'.length → Alike (l.map (Lit.int .u8)) (l'.map (Lit.int .u8)) := by
    intro l
    induction l with
    | nil => intro l' hl; cases l' with
      | nil => trivial
      | cons x r => cases hl
    | cons x r ih => intro l' hl; cases l' with
      | nil => cases hl
      | cons y s => exact ⟨rfl, ih s (by simpa using hl)⟩
  have := keyBytes_inj (al q q' hl) (fun a ha => by obtain ⟨x, hx, rfl⟩ := List.mem_map.1 ha; exact h x hx) (fun a ha => by obtain ⟨x, hx, rfl⟩ := List.mem_map.1 ha; exact h' x hx) e
  have inj : ∀ (l l' : List Int), l.map (Lit.int .u8) = l'.map (Lit.int .u8) → l = l' := by
    intro l
    induction l with
    | nil => intro l' h; cases l' with
      | nil => rfl
      | cons x r => cases h
    | cons x r ih => intro l' h; cases l' with
      | nil => cases h
      | cons y s =>
        injection h with h1 h2
        injection h1 with _ h1
        rw [h1, ih s h2]
  exact inj _ _ this
theorem key4_len {all : List Int} {n : Nat} (h : n + 4 ≤ all.length) : (key4 all n).length = 4 := by
  unfold key4
  rw [List.length_take, List.length_drop]
  omega
theorem key4_wf {all : List Int} (h : WfB all) (n : Nat) : WfB (key4 all n) := fun x hx => h x (List.mem_of_mem_drop (List.mem_of_mem_take hx))
/-- What the map holds when the places ahead of n are learned. -/
structure Learned (D : DataW Unit) (all : List Int) (n : Nat) : Prop where
  m : IsMap D
  has : ∀ q, q.length = 4 → WfB q → Maps.has D (lit4 q) = (find4 all n q).isSome
  at' : ∀ q, q.length = 4 → WfB q → ∀ k, find4 all n q = some k → D.atKey (lit4 q) (.lit (.int .i64 0)) = .lit (.int .i64 (k : Int))
theorem Learned.zero (all : List Int) : Learned (.map []) all 0 := ⟨isMap_empty, fun q _ _ => rfl, fun q _ _ k h => by cases h⟩
theorem Learned.skip {D : DataW Unit} {all : List Int} {n : Nat} (h : Learned D all n) (hn : ¬ n + 4 ≤ all.length) : Learned D all (n + 1) := by
  have e : ∀ q, find4 all (n + 1) q = find4 all n q := fun q => by rw [find4, if_neg (fun hc => hn hc.1)]
  exact ⟨h.m, fun q h1 h2 => by rw [e]; exact h.has q h1 h2, fun q h1 h2 k hk => h.at' q h1 h2 k (by rw [← e]; exact hk)⟩
theorem isMap_put {D : DataW Unit} (h : IsMap D) (k : Lit) (d : DataW Unit) : IsMap (D.put k d) := by
  obtain ⟨es, rfl⟩ := h
  exact ⟨_, rfl⟩
theorem Learned.put {D : DataW Unit} {all : List Int} {n : Nat} (h : Learned D all n) (hb : WfB all) (hn : n + 4 ≤ all.length) : Learned (D.put (lit4 (key4 all n)) (.lit (.int .i64 (n : Int)))) all (n + 1) := by
  refine ⟨isMap_put h.m _ _, fun q h1 h2 => ?_, fun q h1 h2 k hk => ?_⟩
  · by_cases c : key4 all n = q
    · subst c
      rw [has_put_same h.m (show WideAt.IsKeyLit (lit4 _) from trivial), find4, if_pos ⟨hn, rfl⟩]
      rfl
    · rw [has_put_other (lit4_ne (by rw [h1, key4_len hn]) h2 (key4_wf hb n) (fun e => c e.symm)), find4, if_neg (fun hc => c hc.2)]
      exact h.has q h1 h2
  · rw [find4] at hk
    by_cases c : key4 all n = q
    · subst c
      rw [if_pos ⟨hn, rfl⟩] at hk
      cases hk
      exact atKey_put_same h.m (show WideAt.IsKeyLit (lit4 _) from trivial) _ _
    · rw [if_neg (fun hc => c hc.2)] at hk
      rw [atKey_put_other (lit4_ne (by rw [h1, key4_len hn]) h2 (key4_wf hb n) (fun e => c e.symm))]
      exact h.at' q h1 h2 k hk
theorem zero3 (w : World) : (zeroValue 3).run Try.prog w = .ok (.int .i64 0) w := by kernel_rfl
end Go.Proofs.Ytnomebkdhjigjaa.W
/- lz.Encode's memory while it runs, and the function that learns a place. -/
namespace Go.Proofs.Ytnomebkdhjigjaa.W
open Go.RowKit Go.Proofs.Ytnomebkdhjigjaa.Z Go.Maps Go.Proofs.YtnomebkdhjigjaaW.PrintWords Go.Proofs.YtnomebkdhjigjaaW.PrintLast Go.Proofs.YtnomebkdhjigjaaW.PrintMore
set_option linter.unusedVariables false
set_option linter.unusedSimpArgs false
theorem own_slice2 {w : World} {B e size n : Nat} {v : Value} {xs : List Value} (h : w.ownsRow B e size v n xs) (hn : 0 < n) : ∃ g cp, v = .slice (some ⟨g, 0, none⟩) n cp ∧ n ≤ cp := by
  rcases h.2 with ⟨_, h0⟩ | ⟨g, cap, cur, rfl, _, _, h1, _⟩
  · omega
  · exact ⟨g, cap, rfl, h1⟩
structure EInv (w0 w : World) (ga gm B : Nat) (v : Value) (all : List Int) (cnt n : Nat) : Prop where
  B0 : Below w0.heap.size w0 w
  ha : w0.heap.size ≤ ga
  hm : w0.heap.size ≤ gm
  hB : w0.heap.size ≤ B
  a : w.heap[ga]? = some (.cells #[v] 22 (0, 0))
  m : w.heap[gm]? = some (.cells #[.map (some B)] 90 (0, 0))
  o : ∃ D : DataW Unit, w.ownsMap Try.prog 91 (plainElem Try.prog 3) B cnt D ∧ Learned D all n
  r : w.ownsRow w0.heap.size 5 1 v all.length (nums .u8 all)
  wf : WfB all
theorem own_map_fr {w w' : World} {ok : Nat → Prop} (f : Fr w w' ok) {B n : Nat} {D : DataW Unit} (h : w.ownsMap Try.prog 91 (plainElem Try.prog 3) B n D) (hB : ok B) : w'.ownsMap Try.prog 91 (plainElem Try.prog 3) B n D := by
  obtain ⟨es, clock, h1, h2⟩ := h
  exact ⟨es, clock, f.heap h1 hB, h2⟩
theorem EInv.fr {w0 w w' : World} {ga gm B cnt n : Nat} {v : Value} {all : List Int} {ok : Nat → Prop} (h : EInv w0 w ga gm B v all cnt n) (f : Fr w w' ok) (h0 : ∀ i, i < w0.heap.size → ok i) (h1 : ok ga) (h2 : ok gm) (h3 : ok B) (h4 : ∀ i, some i = v.ownBlock → ok i) : EInv w0 w' ga gm B v all cnt n := by
  obtain ⟨D, hD, hL⟩ := h.o
  exact ⟨h.B0.trans (f.below (fun i hi => ⟨Nat.lt_of_lt_of_le hi h.B0.size, h0 i hi⟩)), h.ha, h.hm, h.hB, f.heap h.a h1, f.heap h.m h2, ⟨D, own_map_fr f hD h3, hL⟩, own_fr f h.r h4, h.wf⟩
theorem EInv.keep {w0 w w' : World} {ga gm B cnt n : Nat} {v : Value} {all : List Int} (h : EInv w0 w ga gm B v all cnt n) (f : Fr w w' (fun _ => True)) : EInv w0 w' ga gm B v all cnt n :=
  h.fr f (fun _ _ => trivial) trivial trivial trivial (fun _ _ => trivial)
/-- The map's block is none of the others. -/
theorem EInv.ne {w0 w : World} {ga gm B cnt n : Nat} {v : Value} {all : List Int} (h : EInv w0 w ga gm B v all cnt n) : ga ≠ B ∧ gm ≠ B ∧ ∀ i, some i = v.ownBlock → i ≠ B := by
  obtain ⟨D, ⟨es, clock, hb, _⟩, _⟩ := h.o
  refine ⟨fun e => ?_, fun e => ?_, fun i hi e => ?_⟩
  · have := h.a; rw [e, hb] at this; cases this
  · have := h.m; rw [e, hb] at this; cases this
  · rcases h.r.2 with ⟨hn, _⟩ | ⟨g', cap, cur, e2, _, hh, _⟩
    · rw [hn] at hi; cases hi
    · rw [e2] at hi
      simp [Value.ownBlock] at hi
      rw [← hi, e, hb] at hh
      cases hh
theorem row_byte {w : World} {B g c : Nat} {all : List Int} (h : w.ownsRow B 5 1 (.slice (some ⟨g, 0, none⟩) all.length c) all.length (nums .u8 all)) (i : Nat) (hi : i < all.length) : w.cell? ⟨g, i, none⟩ = some (.int .u8 (all.getD i 0)) := by
  rw [World.ownsRow.cellAt h i (by omega)]
  simp [nums, List.getElem?_map, List.getD_eq_getElem?_getD, List.getElem?_eq_getElem hi]
theorem run_arrayAt (W : World) (A : Option Addr) (len cap : Nat) (h : 4 ≤ len) : (Instr.arrayAt 91 (.slice A len cap)).run Try.prog W = .ok (.pointer A) W := by
  unfold Instr.arrayAt
  simp [run_underlying Try.underlying91, Result.andThen]
  intro h'
  omega
theorem key4_list {all : List Int} {n : Nat} (h : n + 4 ≤ all.length) : key4 all n = [all.getD n 0, all.getD (n + 1) 0, all.getD (n + 2) 0, all.getD (n + 3) 0] := by
  unfold key4
  rw [drop_cons2 (show n < all.length by omega), drop_cons2 (show n + 1 < all.length by omega), drop_cons2 (show n + 1 + 1 < all.length by omega), drop_cons2 (show n + 1 + 1 + 1 < all.length by omega)]
  rfl
set_option maxHeartbeats 2000000 in
set_option maxRecDepth 100000 in
theorem learn_calls (w0 : World) (ga gm B : Nat) (v : Value) (all : List Int) (cnt n : Nat) (w : World) (h : EInv w0 w ga gm B v all cnt n) (hn : n ≤ 1099511627776) (hl : all.length ≤ 1099511627776) (hc : cnt ≤ 1099511627776) :
    Calls Try.prog 58 #[.int .i64 (n : Int), .pointer (some ⟨ga, 0, none⟩), .pointer (some ⟨gm, 0, none⟩)] w fun e w' => e = .returned (.tuple #[]) ∧ EInv w0 w' ga gm B v all (cnt + 1) (n + 1) ∧ Fr w w' (fun i => i ≠ B) := by
  have HI := Aside0.mk h
  have xa : w.cell? ⟨ga, 0, none⟩ = some v := cell_of_one h.a
  have xm : w.cell? ⟨gm, 0, none⟩ = some (.map (some B)) := cell_of_one h.m
  obtain ⟨D, hD, hL⟩ := h.o
  have HD := Aside0.mk hD
  have HL := Aside0.mk hL
  clear hD hL
  by_cases hle : n + 4 ≤ all.length
  · have h4 : (n : Int) + 4 ≤ (all.length : Int) := by omega
    obtain ⟨g, c, rfl, hcap⟩ := own_slice2 h.r (by omega)
    have b0 := row_byte h.r n (by omega)
    have b1 := row_byte h.r (n + 1) (by omega)
    have b2 := row_byte h.r (n + 2) (by omega)
    have b3 := row_byte h.r (n + 3) (by omega)
    have hk := key4_list hle
    have hw : ∀ i, i < all.length → (Lit.int .u8 (all.getD i 0)).wf = true := fun i hi => h.wf _ (by rw [List.getD_eq_getElem?_getD, List.getElem?_eq_getElem hi]; exact List.getElem_mem hi)
    have hkey := keyOf4 (hw n (by omega)) (hw (n + 1) (by omega)) (hw (n + 2) (by omega)) (hw (n + 3) (by omega))
    rw [← hk] at hkey
    have HLP := Aside0.mk (HL.out.put h.wf hle)
    have HNE := Aside0.mk h.ne
    generalize key4 all n = q at hk hkey HLP
    generalize all.getD n 0 = x0 at b0 hkey
    generalize all.getD (n + 1) 0 = x1 at b1 hkey
    generalize all.getD (n + 2) 0 = x2 at b2 hkey
    generalize all.getD (n + 3) 0 = x3 at b3 hkey
    have HKEY := Aside0.mk hkey
    clear hk hw hkey
    have HLE := Aside0.mk hle
    have h5 : (n : Int) ≤ (all.length : Int) := by omega
    have h6 : (all.length : Int) ≤ (c : Int) := by omega
    have h7 : (0 : Int) ≤ (n : Int) := by omega
    have h8 : ¬ c = n := by omega
    have hat := fun W => run_arrayAt W (some ⟨g, n, none⟩) (all.length - n) (c - n) (by omega)
    clear h hle
    go_enter Try.func58, Try.ntmps58
    go_upto_region 1 with fail
    refine QTail.wp_region_tail (C := fun w' => ∃ n, w' = w.drewN n) 7 (by kernel_rfl) (by kernel_rfl) ⟨1, rfl⟩ ?_
    simp only [List.take_succ_cons, List.take_zero, List.drop_succ_cons, List.drop_zero]
    repeat (quiet_step (fail))
    refine wpQuiet_nil ?_
    intro _ hw'
    obtain ⟨nq, hw''⟩ := hw'
    subst hw''
    have HI2 := Aside0.mk (HI.out.keep (Fr.drewN nq _))
    have HD2 := Aside0.mk (own_map_fr (Fr.drewN nq (fun _ => True)) HD.out trivial)
    have HF2 := Aside0.mk (Fr.drewN (w := w) nq (fun i => i ≠ B))
    clear HI HD xa xm b0 b1 b2 b3 hat
    generalize w.drewN nq = w2 at HI2 HD2 HF2 ⊢
    go_wp2_with (at_mapUpdate; refine wpList_mapUpdate_own _ rfl _ _ _ 90 rfl 91 3 keyed91 Try.underlying90 _ B cnt D rfl HD2.out (by unfold maxLen; omega) _ _ _ rfl rfl HKEY.out _ [] (plainElem_int Try.underlying3 (by simp [Lit.wf, show IntKind.i64.min = -9223372036854775808 from rfl, show IntKind.i64.max = 9223372036854775807 from rfl]; omega)) ?_; intro w1 hown1 hgrow1)
    go_end0
    have f := Fr.of_grown hgrow1
    have f' : Fr w2 w1 (fun i => i ≠ B) := f.mono (fun i _ hi e => hi (by injection e))
    refine ⟨rfl, ?_, HF2.out.then f'⟩
    have hi := HI2.out
    have hne := HNE.out
    exact ⟨hi.B0.trans (f'.below (fun i hlt => ⟨Nat.lt_of_lt_of_le hlt hi.B0.size, by have := hi.hB; omega⟩)), hi.ha, hi.hm, hi.hB, f'.heap hi.a hne.1, f'.heap hi.m hne.2.1, ⟨_, hown1, HLP.out⟩, own_fr f' hi.r hne.2.2, hi.wf⟩
  · have h4 : ¬ (n : Int) + 4 ≤ (all.length : Int) := by omega
    have HS := Aside0.mk (show EInv w0 w ga gm B v all (cnt + 1) (n + 1) from { h with o := ⟨D, HD.out.mono (Nat.le_succ _), HL.out.skip hle⟩ })
    clear h hle
    obtain ⟨A, c, rfl⟩ := own_slice HS.out.r
    go_enter Try.func58, Try.ntmps58
    go_wp2
    go_end0
    exact ⟨rfl, HS.out, Fr.refl _ _⟩
end Go.Proofs.Ytnomebkdhjigjaa.W
/- slices.Grow of nothing, slices.Concat of two rows of bytes: contracts. -/
namespace Go.Proofs.Ytnomebkdhjigjaa.W
open Go.RowKit Go.Proofs.YtnomebkdhjigjaaW.PrintWords Go.Proofs.YtnomebkdhjigjaaW.PrintLast Go.Proofs.YtnomebkdhjigjaaW.PrintMore
set_option linter.unusedVariables false
set_option linter.unusedSimpArgs false
/-- append at the operation, its run at hand. -/
theorem append_run {P : Program} {w w1 : World} {ops : Array Oper} {rest : List Oper} {o : Oper} {a : Act} {Q : Exit → Act → World → Prop} (hgd : o.guard = none) (s x : Operand) (t u : TypeId)
    (ho : o.op = .call { callee := .builtin .append, args := #[s, x], argTypes := #[t, u] }) (vs vx : Value) (hs : a.eval s = vs) (hx : a.eval x = vx) (v : Value) (hr : (Builtin.append_ #[t, u] o.type #[vs, vx]).run P w = .ok v w1)
    (h : wpList P ops Q rest (a.put o.dst v) w1) : wpList P ops Q (o :: rest) a w := by
  refine wpList_plain hgd fun K hK => ?_
  unfold Oper.wp execOp
  simp only [ho, resolve, invoke, builtin, Sem.run_bind, Sem.run_pure, Result.andThen_ok, List.map_toArray, List.map_cons, List.map_nil, hs, hx, hr]
  exact hK _ _ h
set_option maxHeartbeats 2000000 in
set_option maxRecDepth 100000 in
theorem Grow_calls (n : Nat) (w : World) (hn : n ≤ 140737488355328) :
    Calls Try.prog 92 #[.slice none 0 0, .int .i64 (n : Int)] w fun e w' => ∃ v, e = .returned v ∧ w'.ownsRow w.heap.size 5 1 v ([] : List Int).length (nums .u8 []) ∧ Below w.heap.size w w' := by
  obtain ⟨i0, hi, hz0, hz1, hz2⟩ := info_parts info5
  have h0 : (0 : Int) ≤ (n : Int) := by omega
  have h1 : ¬ ((n : Int) < 0) := by omega
  by_cases h : n = 0
  · subst h
    clear hi hz0 hz1 hz2
    go_enter Try.func92, Try.ntmps92
    go_wp2
    go_ret
    exact ⟨_, rfl, own_nil _ _ _ _, Below.refl _ _⟩
  · have hp : (0 : Int) < (n : Int) := by omega
    have hap := Lib.run_append_nil_zeros (P := Try.prog) w 22 3 22 5 i0 (.int .u8 0) .i64 .i64 Try.underlying22 Try.underlying3 hi hz0 n (by omega) (by omega) (by omega) (by rw [hz2]; omega)
    have hge := grownCap_ge w n 0 5
    have hle := grownCap_le_maxLen w n 0 5 (Nat.le_trans hn (by decide))
    obtain ⟨cp, hcp⟩ : ∃ cp, cp = grownCap w n 0 5 := ⟨_, rfl⟩
    rw [← hcp] at hap hge hle
    obtain ⟨cs, hcs⟩ : ∃ cs, cs = Builtin.zeroCells (Value.int IntKind.u8 0).cells n ++ Builtin.zeroCells (Value.int IntKind.u8 0).cells (cp - n) := ⟨_, rfl⟩
    rw [← hcs] at hap
    have hsz : cs.size = cp := by rw [hcs]; simp [Builtin.zeroCells, Value.cells]; omega
    have HO := Aside0.mk (show (w.drew.alloc (.cells cs 5)).ownsRow w.heap.size 5 1 (.slice (some ⟨w.heap.size, 0, none⟩) 0 cp) ([] : List Int).length (nums .u8 []) from
      ⟨by simp [nums], .inr ⟨w.heap.size, cp, cs, rfl, Nat.le_refl _, heap_alloc_new w.drew _, by simp, hle, by omega, by simp [nums]⟩⟩)
    have HAP := Aside0.mk hap
    have HB := Aside0.mk (below_alloc (below_drew (Below.refl w.heap.size w)) (.cells cs 5))
    have hcpi : (n : Int) ≤ (cp : Int) := by omega
    have hcp0 : (0 : Int) ≤ (cp : Int) := by omega
    clear hi hz0 hz1 hz2 hcs hsz hcp h hge hle hap
    generalize hwq : w.drew.alloc (.cells cs 5) = wq at HO HAP HB
    clear hwq
    generalize w.heap.size = g at HO HAP HB ⊢
    go_enter Try.func92, Try.ntmps92
    go_wp2_with (at_builtin; refine append_run rfl (.tmp 20) (.tmp 21) 22 3 rfl _ _ rfl rfl _ HAP.out ?_)
    go_ret
    exact ⟨_, rfl, HO.out, HB.out⟩
set_option maxHeartbeats 2000000 in
set_option maxRecDepth 100000 in
/-- Concat of two. -/
theorem Concat_calls (g c : Nat) (A1 A2 : Option Addr) (c1 c2 : Nat) (l1 l2 : List Int) (w : World) (h1 : w.cell? ⟨g, 0, none⟩ = some (.slice A1 l1.length c1)) (h2 : w.cell? ⟨g, 1, none⟩ = some (.slice A2 l2.length c2))
    (r1 : ReadsInt w .u8 A1 l1.length l1) (r2 : ReadsInt w .u8 A2 l2.length l2) (hl1 : l1.length ≤ 1099511627776) (hl2 : l2.length ≤ 1099511627776) :
    Calls Try.prog 57 #[.slice (some ⟨g, 0, none⟩) 2 c] w fun e w' => ∃ v, e = .returned v ∧ w'.ownsRow w.heap.size 5 1 v (l1 ++ l2).length (nums .u8 (l1 ++ l2)) ∧ Below w.heap.size w w' := by
  have HL := Aside0.mk (And.intro hl1 hl2)
  have X1 := Aside0.mk h1
  have X2 := Aside0.mk h2
  have HG := Aside0.mk (fun W => Grow_calls (l1.length + l2.length) W (by omega))
  obtain ⟨n1, hn1⟩ : ∃ n1, n1 = l1.length := ⟨_, rfl⟩
  obtain ⟨n2, hn2⟩ : ∃ n2, n2 = l2.length := ⟨_, rfl⟩
  rw [← hn1] at h1 hl1 HG r1 X1
  rw [← hn2] at h2 hl2 HG r2 X2
  have R1 := Aside0.mk r1
  have R2 := Aside0.mk r2
  have HN1 := Aside0.mk hn1
  have HN2 := Aside0.mk hn2
  clear r1 r2 hn1 hn2
  go_enter Try.func57, Try.ntmps57
  go_wp2_with fail
  go_loopg [3, 5, 11] 2 (fun kq v3 v5 v11 wc => w = wc ∧ ((kq = 2 ∧ v11 = .int .i64 0 ∧ v3 = .int .i64 0) ∨ (kq = 1 ∧ v11 = .int .i64 1 ∧ v3 = .int .i64 (n1 : Int)) ∨ (kq = 0 ∧ v11 = .int .i64 2 ∧ v3 = .int .i64 ((n1 : Int) + (n2 : Int)))))
  case atStart => exact ⟨rfl, .inl ⟨rfl, rfl, rfl⟩⟩
  case round =>
    obtain ⟨rfl, hrel⟩ := hrel
    rcases hrel with ⟨rfl, rfl, rfl⟩ | ⟨rfl, rfl, rfl⟩ | ⟨rfl, rfl, rfl⟩
    · go_wp2_with fail
      go_roundg 1
      case measure => omega
      case rel => exact ⟨rfl, .inr (.inl ⟨rfl, rfl, by simp⟩)⟩
    · have hs : ¬ ((n1 : Int) + (n2 : Int) < 0) := by omega
      go_wp2_with fail
      go_roundg 0
      case measure => omega
      case rel => exact ⟨rfl, .inr (.inr ⟨rfl, rfl, by simp⟩)⟩
    · rw [show (n1 : Int) + (n2 : Int) = ((n1 + n2 : Nat) : Int) by omega]
      have HGw := Aside0.mk (HG.out w)
      clear HG
      go_upto_region 10 with (go_at_call 92; refine HGw.out.mono ?_; rintro e w1 ⟨v1, rfl, ho1, hb1⟩; have HO1 := Aside0.mk ho1; have HB1 := Aside0.mk hb1; clear ho1 hb1)
      clear HGw
      go_wp2_with fail
      go_loopg [6, 8, 27] 2 (fun kq v6 v8 v27 wc => ∃ L : List Int, Aside0 (wc.ownsRow w.heap.size 5 1 v6 L.length (nums .u8 L)) ∧ Aside0 (Below w.heap.size w wc) ∧ ((kq = 2 ∧ v27 = .int .i64 0 ∧ Aside0 (L = [])) ∨ (kq = 1 ∧ v27 = .int .i64 1 ∧ Aside0 (L = l1)) ∨ (kq = 0 ∧ v27 = .int .i64 2 ∧ Aside0 (L = l1 ++ l2))))
      case atStart => exact ⟨[], HO1, HB1, .inl ⟨rfl, rfl, ⟨rfl⟩⟩⟩
      case round =>
        clear HO1 HB1
        obtain ⟨L, HO, HB, hrel⟩ := hrel
        have x1 : wr.cell? ⟨g, 0, none⟩ = some (.slice A1 n1 c1) := (Fr.all HB.out).cell X1.out trivial
        have x2 : wr.cell? ⟨g, 1, none⟩ = some (.slice A2 n2 c2) := (Fr.all HB.out).cell X2.out trivial
        obtain ⟨A6, c6, rfl⟩ := own_slice HO.out
        rcases hrel with ⟨rfl, rfl, hL⟩ | ⟨rfl, rfl, hL⟩ | ⟨rfl, rfl, hL⟩
        · have HSZ := Aside0.mk (show (L.length + n1) * 1 ≤ 140737488355328 by rw [hL.out]; simp; omega)
          go_wp2_with (at_builtin; refine print_append_row (w0 := w) w.heap.size rfl (.tmp 31) (.tmp 32) 22 5 .u8 1 rfl Try.underlying22 info5 (by decide) _ L l1 A1 n1 c1 rfl rfl HO.out (R1.out.below HB.out) HB.out HB.out.size HSZ.out ?_; intro v4 w4 ho hb hg hat; have HO4 := Aside0.mk ho; have HB4 := Aside0.mk hb; clear ho hb hg hat)
          go_roundg 1
          case measure => omega
          case rel => exact ⟨L ++ l1, HO4, HB4, .inr (.inl ⟨rfl, by simp, ⟨by rw [hL.out, List.nil_append]⟩⟩)⟩
        · have HSZ := Aside0.mk (show (L.length + n2) * 1 ≤ 140737488355328 by rw [hL.out, ← HN1.out]; omega)
          go_wp2_with (at_builtin; refine print_append_row (w0 := w) w.heap.size rfl (.tmp 31) (.tmp 32) 22 5 .u8 1 rfl Try.underlying22 info5 (by decide) _ L l2 A2 n2 c2 rfl rfl HO.out (R2.out.below HB.out) HB.out HB.out.size HSZ.out ?_; intro v4 w4 ho hb hg hat; have HO4 := Aside0.mk ho; have HB4 := Aside0.mk hb; clear ho hb hg hat)
          go_roundg 0
          case measure => omega
          case rel => exact ⟨L ++ l2, HO4, HB4, .inr (.inr ⟨rfl, by simp, ⟨by rw [hL.out]⟩⟩)⟩
        · rw [hL.out] at HO ⊢
          go_wp2
          go_ret
          exact ⟨_, rfl, HO.out, HB.out⟩
end Go.Proofs.Ytnomebkdhjigjaa.W
/- lz.Encode's memory with the block that is made: lookup, learn, put. -/
namespace Go.Proofs.Ytnomebkdhjigjaa.W
open Go.RowKit Go.Proofs.Ytnomebkdhjigjaa.Z Go.Maps Go.Proofs.YtnomebkdhjigjaaW.PrintWords Go.Proofs.YtnomebkdhjigjaaW.PrintLast Go.Proofs.YtnomebkdhjigjaaW.PrintMore
set_option linter.unusedVariables false
set_option linter.unusedSimpArgs false
set_option maxRecDepth 100000 in
theorem look4 {w : World} {B cnt n : Nat} {D : DataW Unit} {all q : List Int} {key : Value} (h : w.ownsMap Try.prog 91 (plainElem Try.prog 3) B cnt D) (hL : Learned D all n) (hq : q.length = 4) (hw : WfB q) (hkey : keyOf Try.prog 91 key = some (lit4 q)) :
    ∃ c : Int, (∀ m, (Instr.lookup 90 (.map (some B)) key true).run Try.prog (w.drewN m) = .ok (.tuple #[.int .i64 c, .bool (find4 all n q).isSome]) (w.drewN m)) ∧ ∀ k, find4 all n q = some k → c = (k : Int) := by
  have step : ∀ m, ∃ c : Int, (Instr.lookup 90 (.map (some B)) key true).run Try.prog (w.drewN m) = .ok (.tuple #[.int .i64 c, .bool (find4 all n q).isSome]) (w.drewN m) ∧ D.atKey (lit4 q) (.lit (.int .i64 0)) = .lit (.int .i64 c) := fun m => by
    obtain ⟨v, ps, hrun, hv⟩ := (own_map_fr (Fr.drewN m (fun _ => True)) h trivial).look_ok keyed91 Try.underlying90 (zero3 _) (zd := .lit (.int .i64 0)) (zp := []) (plainElem_int Try.underlying3 (by decide)) hkey
    obtain ⟨c, rfl, hc, _⟩ := plainElem_int_inv Try.underlying3 hv
    rw [hL.has q hq hw] at hrun
    exact ⟨c, hrun, congrArg Prod.fst hc⟩
  obtain ⟨c, _, hc⟩ := step 0
  refine ⟨c, fun m => ?_, fun k hk => ?_⟩
  · obtain ⟨c', hr, hc'⟩ := step m
    rw [hc] at hc'
    injection hc' with hc'
    injection hc' with _ hc'
    rw [hc']
    exact hr
  · have := hL.at' q hq hw k hk
    rw [hc] at this
    injection this with this
    injection this
structure LInv (w0 w : World) (ga gm B : Nat) (va : Value) (all : List Int) (cnt n : Nat) (vb : Value) (lb : List Int) : Prop where
  e : EInv w0 w ga gm B va all cnt n
  b : w.ownsRow w0.heap.size 5 1 vb lb.length (nums .u8 lb)
  ne : ∀ i, some i = va.ownBlock → some i ≠ vb.ownBlock
theorem LInv.neB {w0 w : World} {ga gm B cnt n : Nat} {va vb : Value} {all lb : List Int} (h : LInv w0 w ga gm B va all cnt n vb lb) : ∀ i, some i = vb.ownBlock → i ≠ B ∧ i ≠ ga ∧ i ≠ gm := by
  obtain ⟨D, ⟨es, clock, hb, _⟩, _⟩ := h.e.o
  intro i hi
  rcases h.b.2 with ⟨hn, _⟩ | ⟨g', cap, cur, e2, _, hh, _⟩
  · rw [hn] at hi; cases hi
  · rw [e2] at hi
    simp [Value.ownBlock] at hi
    subst hi
    refine ⟨fun e => ?_, fun e => ?_, fun e => ?_⟩
    · rw [e, hb] at hh; cases hh
    · rw [e, h.e.a] at hh; cases hh
    · rw [e, h.e.m] at hh; cases hh
theorem LInv.keep {w0 w w' : World} {ga gm B cnt n : Nat} {va vb : Value} {all lb : List Int} (h : LInv w0 w ga gm B va all cnt n vb lb) (f : Fr w w' (fun _ => True)) : LInv w0 w' ga gm B va all cnt n vb lb :=
  ⟨h.e.keep f, own_fr f h.b (fun _ _ => trivial), h.ne⟩
theorem LInv.learn {w0 w w' : World} {ga gm B cnt n cnt' n' : Nat} {va vb : Value} {all lb : List Int} (h : LInv w0 w ga gm B va all cnt n vb lb) (e : EInv w0 w' ga gm B va all cnt' n') (f : Fr w w' (fun i => i ≠ B)) : LInv w0 w' ga gm B va all cnt' n' vb lb :=
  ⟨e, own_fr f h.b (fun i hi => (h.neB i hi).1), h.ne⟩
/-- A cut of the bytes. -/
theorem cut_C {w : World} {B g c : Nat} {all : List Int} (h : w.ownsRow B 5 1 (.slice (some ⟨g, 0, none⟩) all.length c) all.length (nums .u8 all)) (fr tt : Nat) (hft : fr ≤ tt) (ht : tt ≤ all.length) (hl : all.length ≤ 1099511627776) (A : Option Addr) (hA : fr < tt → A = some ⟨g, fr, none⟩) :
    Kd.C (Kd.int .u8) w A ((all.take tt).drop fr).length ((all.take tt).drop fr) := by
  have hlen : ((all.take tt).drop fr).length = tt - fr := by rw [List.length_drop, List.length_take]; omega
  refine Kd.C_of_reads (enc := Value.int .u8) (d := (0 : Int)) (h1 := fun _ => rfl) ⟨rfl, by rw [hlen]; omega, fun h0 => ?_⟩
  rw [hlen] at h0
  refine ⟨_, hA (by omega), fun i hi => ?_⟩
  rw [hlen] at hi
  have e : (⟨g, fr, none⟩ : Addr).add i = ⟨g, fr + i, none⟩ := by
    unfold Addr.add
    split
    · rename_i h; rw [h]; rfl
    · rfl
  rw [e, row_byte h (fr + i) (by omega)]
  congr 2
  rw [List.getD_eq_getElem?_getD, List.getD_eq_getElem?_getD, List.getElem?_drop, List.getElem?_take, if_pos (by omega)]
/-- put. -/
theorem put_calls (w0 : World) (ga gm B cnt n : Nat) (va vb : Value) (all lb : List Int) (w : World) (h : LInv w0 w ga gm B va all cnt n vb lb) (A : Option Addr) (c : Nat) (s : S44) (hs : OkS s) (h0 : s.f0.length ≤ 4194304) (h2 : s.f2 ≤ 4194304) (hx : lb.length < 140737000000000)
    (hC : ∀ W, w.ownsRow w0.heap.size 5 1 va all.length (nums .u8 all) → W.ownsRow w0.heap.size 5 1 va all.length (nums .u8 all) → Kd.C (Kd.int .u8) W A s.f0.length s.f0) (hc : s.f0.length ≤ c) :
    Calls Try.prog 59 #[vb, .agg #[.slice A s.f0.length c, .int .i64 s.f1, .int .i64 s.f2]] w fun e w' => ∃ vb', e = .returned vb' ∧ LInv w0 w' ga gm B va all cnt n vb' (lb ++ putP s) := by
  have hlt : ∀ i, some i = va.ownBlock → i < w.heap.size := fun i hi => (own_ge h.e.r i hi).2
  have hkf : ∀ W, Kept w W (fun k => some k = vb.ownBlock) → ∀ i, some i = va.ownBlock → W.heap[i]? = w.heap[i]? := fun W hk i hi => hk.2 i (hlt i hi) (fun e => h.ne i hi e)
  refine (lz_put.calls 20001 (fun k => some k = vb.ownBlock) vb lb A c s.f0 s.f1 s.f2 (lb ++ putP s) w0 w h.e.B0 (Kd.R_of_own h.b (fun k hk => hk.symm)) (fun W hk => hC W h.e.r ?_) hc (lzput_f 20001 lb s hs h0 h2 (by decide) hx)).mono ?_
  · rcases h.e.r.2 with ⟨hn, h1⟩ | ⟨g', cap, cur, e2, hge, hh, hr⟩
    · exact ⟨h.e.r.1, .inl ⟨hn, h1⟩⟩
    · exact ⟨h.e.r.1, .inr ⟨g', cap, cur, e2, hge, by rw [hkf W hk g' (by rw [e2]; rfl)]; exact hh, hr⟩⟩
  · rintro e w' ⟨vb', rfl, hR, hB, hk⟩
    have f : Fr w w' (fun i => some i ≠ vb.ownBlock) := ⟨hB.os.trans h.e.B0.os.symm, hB.tape.trans h.e.B0.tape.symm, hB.output.trans h.e.B0.output.symm, hk.1, fun i hi hn => hk.2 i hi hn⟩
    have hnb := h.neB
    have hvb : ∀ i, some i = vb.ownBlock → w0.heap.size ≤ i := fun i hi => (own_ge h.b i hi).1
    refine ⟨vb', rfl, ?_, Kd.own_of_R hR, fun i hi e => ?_⟩
    · exact h.e.fr f (fun i hi e => by have := hvb i e; omega) (fun e => (hnb _ e).2.1 rfl) (fun e => (hnb _ e).2.2 rfl) (fun e => (hnb _ e).1 rfl) (fun i hi e => h.ne i hi e)
    · rcases hR.1 i e.symm with h1 | h1
      · exact h.ne i hi h1
      · have := hlt i hi; omega
end Go.Proofs.Ytnomebkdhjigjaa.W
