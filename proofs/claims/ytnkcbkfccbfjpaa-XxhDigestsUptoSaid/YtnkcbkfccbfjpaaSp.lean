/- Separate things in memory, each with the blocks that it stands on: what is done to one leaves the others. -/
import Derived.Test.YtnkcbkfccbfjpaaKb
namespace Go.Proofs.Ytnkcbkfccbfjpaa.XxhW
open Go.RowKit Go.Proofs.YtnkcbkfccbfjpaaW.PrintWords Go.Proofs.YtnkcbkfccbfjpaaW.PrintLast Go.Proofs.YtnkcbkfccbfjpaaW.PrintMore
set_option linter.unusedVariables false
set_option linter.unusedSimpArgs false
/-- A thing in memory: its blocks, and what holds of it. -/
structure Res where
  foot : Nat → Prop
  holds : World → Prop
  lt : ∀ w, holds w → ∀ i, foot i → i < w.heap.size
  keep : ∀ w w', holds w → (∀ i, foot i → w'.heap[i]? = w.heap[i]?) → holds w'
/-- A block whole. -/
def Res.blk (g : Nat) (cs : Array Value) (t : TypeId) : Res where
  foot i := i = g
  holds w := w.heap[g]? = some (.cells cs t (0, 0))
  lt := fun w h i hi => by subst hi; exact blk_lt h
  keep := fun w w' h hk => (hk g rfl).trans h
/-- A row of one's own from block B on. -/
def Res.row (B : Nat) (e : TypeId) (z n : Nat) (v : Value) (xs : List Value) : Res where
  foot i := some i = v.ownBlock
  holds w := w.ownsRow B e z v n xs
  lt := fun w h i hi => (own_ge h i hi).2
  keep := fun w w' h hk => by
    refine ⟨h.1, ?_⟩
    rcases h.2 with h1 | ⟨g, cap, cur, rfl, h2, h3, h4⟩
    · exact .inl h1
    · exact .inr ⟨g, cap, cur, rfl, h2, (hk g rfl).trans h3, h4⟩
/-- Two things as one. -/
def Res.and (r s : Res) : Res where
  foot i := r.foot i ∨ s.foot i
  holds w := r.holds w ∧ s.holds w
  lt := fun w h i hi => hi.elim (r.lt w h.1 i) (s.lt w h.2 i)
  keep := fun w w' h hk => ⟨r.keep w w' h.1 (fun i hi => hk i (.inl hi)), s.keep w w' h.2 (fun i hi => hk i (.inr hi))⟩
/-- What is so without memory. -/
def Res.pure (p : Prop) : Res where
  foot i := False
  holds w := p
  lt := fun w h i hi => hi.elim
  keep := fun w w' h hk => h
/-- Things in memory from w0 on, each apart from each other. -/
structure Sep (w0 w : World) (l : List Res) : Prop where
  B : Below w0.heap.size w0 w
  h : ∀ r ∈ l, r.holds w
  ge : ∀ r ∈ l, ∀ i, r.foot i → w0.heap.size ≤ i
  ne : l.Pairwise (fun r s => ∀ i, r.foot i → ¬ s.foot i)
theorem Sep.nil (w : World) : Sep w w [] := ⟨Below.refl _ _, fun _ h => by simp at h, fun _ h => by simp at h, .nil⟩
theorem Sep.get {w0 w : World} {l : List Res} (h : Sep w0 w l) (k : Nat) {r : Res} (hk : l[k]? = some r) : r.holds w := h.h r (List.mem_of_getElem? hk)
/-- Whatever leaves what stands. -/
theorem Sep.keep {w0 w w' : World} {l : List Res} (h : Sep w0 w l) (b : Below w.heap.size w w') : Sep w0 w' l :=
  ⟨below_step h.B b, fun r hr => r.keep w w' (h.h r hr) (fun i hi => b.block i (r.lt w (h.h r hr) i hi)), h.ge, h.ne⟩
theorem Sep.keepFr {w0 w w' : World} {l : List Res} (h : Sep w0 w l) (f : Fr w w' (fun _ => True)) : Sep w0 w' l := h.keep (f.below (fun i hi => ⟨hi, trivial⟩))
theorem Sep.drewN {w0 w : World} {l : List Res} (h : Sep w0 w l) (m : Nat) : Sep w0 (w.drewN m) l := h.keep (pw_below_drewN (Below.refl _ _) m)
theorem Sep.drew {w0 w : World} {l : List Res} (h : Sep w0 w l) : Sep w0 w.drew l := h.keep (Below.refl _ _).drew
theorem Sep.alloc {w0 w : World} {l : List Res} (h : Sep w0 w l) (o : Obj) : Sep w0 (w.alloc o) l := h.keep (below_alloc (Below.refl _ _) o)
theorem Sep.size {w0 w : World} {l : List Res} (h : Sep w0 w l) : w0.heap.size ≤ w.heap.size := h.B.size
/-- One thing more, of what is new. -/
theorem Sep.push {w0 w w' : World} {l : List Res} (h : Sep w0 w l) (b : Below w.heap.size w w') (r : Res) (hr : r.holds w') (hf : ∀ i, r.foot i → w.heap.size ≤ i) : Sep w0 w' (r :: l) := by
  have h' := h.keep b
  refine ⟨h'.B, ?_, ?_, ?_⟩
  · intro s hs
    rcases List.mem_cons.1 hs with rfl | hs
    · exact hr
    · exact h'.h s hs
  · intro s hs i hi
    rcases List.mem_cons.1 hs with rfl | hs
    · exact Nat.le_trans h.size (hf i hi)
    · exact h.ge s hs i hi
  · refine List.pairwise_cons.2 ⟨fun s hs i hi hs' => ?_, h.ne⟩
    have := s.lt w (h.h s hs) i hs'
    have := hf i hi
    omega
/-- A thing is changed, nothing else that stood. -/
theorem Sep.upd {w0 w w' : World} {l : List Res} (h : Sep w0 w l) (k : Nat) (r r' : Res) (hk : l[k]? = some r) (hr : r'.holds w') (f : Fr w w' (fun i => ¬ r.foot i)) (hf : ∀ i, r'.foot i → r.foot i ∨ w.heap.size ≤ i) : Sep w0 w' (l.set k r') := by
  have hm := List.mem_of_getElem? hk
  have hkl : k < l.length := by
    rcases Nat.lt_or_ge k l.length with c | c
    · exact c
    · rw [List.getElem?_eq_none c] at hk; cases hk
  have hlk : l[k] = r := by rw [List.getElem?_eq_getElem hkl] at hk; injection hk
  have apart : ∀ (j : Nat) (hj : j < l.length), j ≠ k → ∀ i, (l[j]).foot i → ¬ r.foot i := by
    intro j hj hjk i h1 h2
    have hp := List.pairwise_iff_getElem.1 h.ne
    rcases Nat.lt_or_gt_of_ne hjk with c | c
    · exact hp j k hj hkl c i h1 (by rw [hlk]; exact h2)
    · exact hp k j hkl hj c i (by rw [hlk]; exact h2) h1
  refine ⟨h.B.trans (f.below (fun i hi => ⟨Nat.lt_of_lt_of_le hi h.size, fun hr' => by have := h.ge r hm i hr'; omega⟩)), ?_, ?_, ?_⟩
  · intro s hs
    obtain ⟨j, hj, rfl⟩ := List.mem_iff_getElem.1 hs
    rw [List.length_set] at hj
    rw [List.getElem_set]
    split
    · exact hr
    · rename_i hne
      have hs := h.h _ (List.getElem_mem hj)
      exact Res.keep _ w w' hs (fun i hi => f.block i (Res.lt _ w hs i hi) (apart j hj (fun e => hne e.symm) i hi))
  · intro s hs i hi
    obtain ⟨j, hj, rfl⟩ := List.mem_iff_getElem.1 hs
    rw [List.length_set] at hj
    rw [List.getElem_set] at hi
    split at hi
    · rcases hf i hi with c | c
      · exact h.ge r hm i c
      · exact Nat.le_trans h.size c
    · exact h.ge _ (List.getElem_mem hj) i hi
  · rw [List.pairwise_iff_getElem]
    intro j j2 hj hj2 hlt i h1 h2
    rw [List.length_set] at hj hj2
    rw [List.getElem_set] at h1 h2
    split at h1
    · rename_i e1
      split at h2
      · rename_i e2; omega
      · rcases hf i h1 with c | c
        · exact apart j2 hj2 (by omega) i h2 c
        · have := Res.lt _ w (h.h _ (List.getElem_mem hj2)) i h2; omega
    · split at h2
      · rcases hf i h2 with c | c
        · exact apart j hj (by omega) i h1 c
        · have := Res.lt _ w (h.h _ (List.getElem_mem hj)) i h1; omega
      · exact List.pairwise_iff_getElem.1 h.ne j j2 hj hj2 hlt i h1 h2
/-- A thing is left behind. -/
theorem Sep.drop {w0 w : World} {l : List Res} (h : Sep w0 w l) (k : Nat) : Sep w0 w (l.eraseIdx k) :=
  ⟨h.B, fun r hr => h.h r (List.mem_of_mem_eraseIdx hr), fun r hr => h.ge r (List.mem_of_mem_eraseIdx hr), h.ne.sublist (List.eraseIdx_sublist l k)⟩
theorem Sep.sub {w0 w : World} {l l' : List Res} (h : Sep w0 w l) (hs : l'.Sublist l) : Sep w0 w l' :=
  ⟨h.B, fun r hr => h.h r (hs.subset hr), fun r hr => h.ge r (hs.subset hr), h.ne.sublist hs⟩
/-- A thing said otherwise. -/
theorem Sep.alike {w0 w : World} {l : List Res} (h : Sep w0 w l) (k : Nat) (r r' : Res) (hk : l[k]? = some r) (hr : r.holds w → r'.holds w) (hf : ∀ i, r'.foot i → r.foot i) : Sep w0 w (l.set k r') :=
  h.upd k r r' hk (hr (h.get k hk)) (Fr.refl _ _) (fun i hi => .inl (hf i hi))
/-- A cell of a block is written. -/
theorem Sep.put {w0 w : World} {l : List Res} (h : Sep w0 w l) (k g : Nat) (cs : Array Value) (t : TypeId) (hk : l[k]? = some (Res.blk g cs t)) (j : Nat) (v : Value) (hj : j < cs.size) : Sep w0 (w.setCell ⟨g, j, none⟩ v) (l.set k (Res.blk g (cs.set! j v) t)) :=
  h.upd k _ _ hk (blk_set (h.get k hk) j v) ((Fr.set (w := w) ⟨g, j, none⟩ v).mono (fun i _ hi e => hi e)) (fun i hi => .inl hi)
theorem Sep.cell {w0 w : World} {l : List Res} (h : Sep w0 w l) (k g : Nat) (cs : Array Value) (t : TypeId) (hk : l[k]? = some (Res.blk g cs t)) (j : Nat) (v : Value) (hj : cs[j]? = some v) : w.cell? ⟨g, j, none⟩ = some v ∧ w.frozen? ⟨g, j, none⟩ = false :=
  ⟨(cell_of_row w g j _ t (0, 0) (h.get k hk)).trans hj, blk_frozen (h.get k hk) j⟩
theorem Sep.lower {w0 w1 w : World} {l : List Res} (h : Sep w1 w l) (b : Below w0.heap.size w0 w1) : Sep w0 w l :=
  ⟨b.trans (h.B.mono b.size), h.h, fun r hr i hi => Nat.le_trans b.size (h.ge r hr i hi), h.ne⟩
end Go.Proofs.Ytnkcbkfccbfjpaa.XxhW
