/- What the bound on bulk gives, and arguments opened by their shape: bytes, lists of bytes, lists of truths. Plain facts for the laws' last texts. -/
import Derived.Test.YtanbicpkdkcpbaaRows
import Derived.Deep.Matrix
namespace Go.Proofs.Ytanbicpkdkcpbaa.Bu
open Go.ChangeShapes Go.WideShapes Go.Deep
set_option linter.unusedVariables false
theorem one_le {H : Type} (d : DataW H) : 1 ≤ Rows.uptoBulk d := by
  cases d with
  | lit l => cases l <;> simp [Rows.uptoBulk]
  | nil => simp [Rows.uptoBulk]
  | ptr d => simp [Rows.uptoBulk]
  | slice elems spare => simp [Rows.uptoBulk]
  | agg parts => simp [Rows.uptoBulk]
  | iface t d => simp [Rows.uptoBulk]
  | map entries => simp [Rows.uptoBulk]
  | held h => simp [Rows.uptoBulk]
theorem part_le {H : Type} {d : DataW H} {l : List (DataW H)} (h : d ∈ l) : Rows.uptoBulk d ≤ Rows.uptoBulkAll l := by
  induction l with
  | nil => cases h
  | cons x r ih =>
    simp only [Rows.uptoBulkAll]
    cases List.mem_cons.1 h with
    | inl e => subst e; omega
    | inr e => have := ih e; omega
theorem len_le {H : Type} (l : List (DataW H)) : l.length ≤ Rows.uptoBulkAll l := by
  induction l with
  | nil => simp [Rows.uptoBulkAll]
  | cons x r ih => have := one_le x; simp only [Rows.uptoBulkAll, List.length_cons]; omega
theorem small {H : Type} {l : List (DataW H)} (h : Rows.uptoSmall H l = true) : Rows.uptoBulkAll l ≤ 1048576 := of_decide_eq_true h
/-- Sizes that lie below their parts' bulk lie together below all of it. -/
theorem sum_le {H α β : Type} (f : α → List β) (g : α → DataW H) : ∀ ls : List α, (∀ r, r ∈ ls → (f r).length ≤ Rows.uptoBulk (g r)) → (ls.map f).flatten.length ≤ Rows.uptoBulkAll (ls.map g) := by
  intro ls
  induction ls with
  | nil => intro _; simp [Rows.uptoBulkAll]
  | cons x ls ih =>
    intro h
    have a := h x (by simp)
    have b := ih (fun r hr => h r (by simp [hr]))
    simp only [List.map_cons, List.flatten_cons, List.length_append, Rows.uptoBulkAll]
    omega
theorem row_le {H : Type} (k : IntKind) (A : Option Addr) (L C : Nat) (Z : List Int) (hl : L ≤ C) (hz : Z.length = C) (hn : A = none → C = 0) : (Z.take L).length ≤ Rows.uptoBulk (intRow (H := H) k A L Z) := by
  cases A with
  | none => have := hn rfl; simp; omega
  | some a =>
    have h := len_le (H := H) (lits k (Z.take L))
    simp only [intRow, Rows.uptoBulk]
    have e : (lits (H := H) k (Z.take L)).length = (Z.take L).length := by simp [lits]
    omega
section
variable {H : Type} {enc : TypeId × Value → H} {P : Program} {w : World} {base : Nat} {held : Bool}
/-- A list of rows of bytes, as it lies. -/
structure Rowed (w : World) (k : IntKind) (A : Option Addr) (pl : List (List Int)) (i : Nat) (ad : Addr) (R : Option Addr) (c : Nat) : Prop where
  a : A = some ad
  cell : w.cell? (ad.add i) = some (.slice R (pl.getD i []).length c)
  le : (pl.getD i []).length ≤ c
  max : c ≤ maxLen
  none : R = none → c = 0
  at' : ∀ a', R = some a' → ∀ j, j < (pl.getD i []).length → w.cell? (a'.add j) = some (.int k ((pl.getD i []).getD j 0))
  wf : ∀ n ∈ pl.getD i [], (Lit.int k n).wf = true
theorem open_rows {t e q : TypeId} {k : IntKind} {A : Option Addr} {len cap : Nat} {d : DataW H} {ps : List MemPlace} (ht : P.underlying t = some (.slice e)) (he : P.underlying e = some (.slice q)) (hq : P.underlying q = some (.int k))
    (ce : P.cellsOf e = 1) (cq : P.cellsOf q = 1) (h : DataW.Trod enc P w base (fun _ => true) held t (.slice A len cap) d ps) :
    ∃ pl : List (List Int), pl.length = len ∧ len ≤ cap ∧ cap ≤ maxLen ∧ pl.flatten.length ≤ Rows.uptoBulk d ∧ len ≤ Rows.uptoBulk d ∧ ∀ i, i < len → ∃ ad R c, Rowed w k A pl i ad R c := by
  obtain ⟨fuel, hf⟩ := h
  rcases open_int_rows ht he hq ce cq hf with ⟨hcs, hx⟩ | ⟨a, l, c, A', L, C, Z, hcs, _, hl, hm, hx, hr⟩
  · simp [Value.cells] at hcs
    obtain ⟨rfl, rfl, rfl⟩ := hcs
    exact ⟨[], rfl, Nat.le_refl _, Nat.zero_le _, by simp, Nat.zero_le _, fun i hi => absurd hi (Nat.not_lt_zero _)⟩
  · simp [Value.cells] at hcs
    obtain ⟨rfl, rfl, rfl⟩ := hcs
    simp only [Prod.mk.injEq] at hx
    obtain ⟨rfl, _⟩ := hx
    have hrow : ∀ r, r < len → (((Z r).take (L r)).length = L r) := fun r hrr => by
      obtain ⟨_, h1, _, h3, _⟩ := hr r (Nat.lt_of_lt_of_le hrr hl)
      rw [List.length_take]; omega
    have hget : ∀ i, i < len → ((List.range len).map fun r => (Z r).take (L r)).getD i [] = (Z i).take (L i) := fun i hi => by
      simp [List.getD, hi]
    refine ⟨(List.range len).map fun r => (Z r).take (L r), by simp, hl, hm, ?_, ?_, ?_⟩
    · have h := sum_le (fun r => (Z r).take (L r)) (fun r => intRow (H := H) k (A' r) (L r) (Z r)) (List.range len) (fun r hrr => by
        have hrr' := List.mem_range.1 hrr
        obtain ⟨_, h1, _, h3, _, h5, _⟩ := hr r (by omega)
        exact row_le k (A' r) (L r) (C r) (Z r) h1 h3 h5)
      simp only [Rows.uptoBulk]
      omega
    · have h := len_le (H := H) ((List.range len).map fun r => intRow k (A' r) (L r) (Z r))
      rw [List.length_map, List.length_range] at h
      simp only [Rows.uptoBulk]
      omega
    · intro i hi
      obtain ⟨hc, h1, h2, h3, h4, h5, h6⟩ := hr i (Nat.lt_of_lt_of_le hi hl)
      refine ⟨a, A' i, C i, rfl, by rw [hget i hi, hrow i hi]; exact hc, by rw [hget i hi, hrow i hi]; exact h1, h2, h5, ?_, ?_⟩
      · intro a' ha j hj
        rw [hget i hi] at hj ⊢
        rw [hrow i hi] at hj
        rw [(h6 a' ha).2 j (by omega), List.getD_eq_getElem?_getD, List.getD_eq_getElem?_getD, List.getElem?_take, if_pos hj]
      · rw [hget i hi]
        exact fun n hn => h4 n (List.mem_of_mem_take hn)
/-- A list of truths, as it lies. -/
theorem open_truths {t e : TypeId} {A : Option Addr} {len cap : Nat} {d : DataW H} {ps : List MemPlace} (ht : P.underlying t = some (.slice e)) (he : P.underlying e = some .bool) (hc : P.cellsOf e = 1)
    (h : DataW.Trod enc P w base (fun _ => true) held t (.slice A len cap) d ps) :
    len ≤ cap ∧ cap ≤ maxLen ∧ len ≤ Rows.uptoBulk d ∧ ∀ i, i < len → ∃ ad q, A = some ad ∧ w.cell? (ad.add i) = some (.bool q) := by
  obtain ⟨fuel, hf⟩ := h
  rcases open_slice1 ht hc hf with ⟨hcs, hx⟩ | ⟨a, l, c, m, n, V, D, Pl, hcs, _, hl, hm, hmm, hx, hr⟩
  · simp [Value.cells] at hcs
    obtain ⟨rfl, rfl, rfl⟩ := hcs
    exact ⟨Nat.le_refl _, Nat.zero_le _, Nat.zero_le _, fun i hi => absurd hi (Nat.not_lt_zero _)⟩
  · simp [Value.cells] at hcs
    obtain ⟨rfl, rfl, rfl⟩ := hcs
    simp only [Prod.mk.injEq] at hx
    obtain ⟨rfl, _⟩ := hx
    simp only [if_true] at hmm
    subst hmm
    refine ⟨hl, hm, ?_, fun i hi => ?_⟩
    · have h := len_le (H := H) ((List.range len).map D)
      rw [List.length_map, List.length_range] at h
      simp only [Rows.uptoBulk]
      omega
    · obtain ⟨h1, h2⟩ := hr i (Nat.lt_of_lt_of_le hi hl)
      obtain ⟨b, e1, _⟩ := DataW.trod_bool he h2
      simp at e1
      exact ⟨a, b, rfl, by rw [h1, e1]⟩
/-- A list of numbers of one cell, as it lies. -/
theorem open_nums {t e : TypeId} {k : IntKind} {A : Option Addr} {len cap : Nat} {d : DataW H} {ps : List MemPlace} (ht : P.underlying t = some (.slice e)) (he : P.underlying e = some (.int k)) (hc : P.cellsOf e = 1)
    (h : DataW.Trod enc P w base (fun _ => true) held t (.slice A len cap) d ps) :
    ∃ zs : List Int, zs.length = len ∧ len ≤ cap ∧ cap ≤ maxLen ∧ len ≤ Rows.uptoBulk d ∧ (A = none → cap = 0) ∧ (∀ n ∈ zs, (Lit.int k n).wf = true) ∧ ∀ a, A = some a → ∀ i, i < len → w.cell? (a.add i) = some (.int k (zs.getD i 0)) := by
  obtain ⟨fuel, hf⟩ := h
  rcases open_ints ht he hc hf with ⟨hcs, hx⟩ | ⟨x, l, c, zs, hcs, _, hl, hm, hz, hx, hcell, hwz⟩
  · simp [Value.cells] at hcs
    obtain ⟨rfl, rfl, rfl⟩ := hcs
    exact ⟨[], rfl, Nat.le_refl _, Nat.zero_le _, Nat.zero_le _, fun _ => rfl, by simp, fun _ _ i hi => absurd hi (Nat.not_lt_zero _)⟩
  · simp [Value.cells] at hcs
    obtain ⟨rfl, rfl, rfl⟩ := hcs
    simp only [Prod.mk.injEq] at hx
    obtain ⟨rfl, _⟩ := hx
    have hz' : zs.length = cap := by simpa using hz
    refine ⟨zs.take len, by rw [List.length_take]; omega, hl, hm, ?_, (fun h => by cases h), fun n hn => hwz n (List.mem_of_mem_take hn), fun a ha i hi => ?_⟩
    · have h := len_le (H := H) (lits k (zs.take len))
      have e : (lits (H := H) k (zs.take len)).length = len := by simp [lits]; omega
      simp only [Rows.uptoBulk]
      omega
    · cases ha
      rw [hcell i (by omega), List.getD_eq_getElem?_getD, List.getD_eq_getElem?_getD, List.getElem?_take, if_pos hi]
end
end Go.Proofs.Ytanbicpkdkcpbaa.Bu
