/- Texts of mine made one: Fr, Sp, Xq, La, Lb, Lu. -/
import Derived.Test.YtnomebkdhjigjaaPLzMakesx0
import Derived.StillTail
import Derived.Deep.Quiet
import Derived.WalkSpells
import Derived.Lib.Hide
import Derived.Deep.QuietTactic
import Derived.BigQuiet
import Derived.Deep.LoopGhost
/- Frames of worlds: what stays across calls; rows of one's own across them. -/
namespace Go.Proofs.Ytnomebkdhjigjaa.W
open Go.RowKit Go.Proofs.YtnomebkdhjigjaaW.PrintWords Go.Proofs.YtnomebkdhjigjaaW.PrintLast Go.Proofs.YtnomebkdhjigjaaW.PrintMore
set_option linter.unusedVariables false
set_option linter.unusedSimpArgs false
/-- Behind what happened, the world is as it was at the blocks that ok holds of. -/
structure Fr (w w' : World) (ok : Nat → Prop) : Prop where
  os : w'.os = w.os
  tape : w'.tape = w.tape
  output : w'.output = w.output
  size : w.heap.size ≤ w'.heap.size
  block : ∀ i, i < w.heap.size → ok i → w'.heap[i]? = w.heap[i]?
theorem Fr.refl (w : World) (ok : Nat → Prop) : Fr w w ok := ⟨rfl, rfl, rfl, Nat.le_refl _, fun _ _ _ => rfl⟩
theorem Fr.then {w w1 w2 : World} {ok : Nat → Prop} (h : Fr w w1 ok) (h' : Fr w1 w2 ok) : Fr w w2 ok :=
  ⟨h'.os.trans h.os, h'.tape.trans h.tape, h'.output.trans h.output, Nat.le_trans h.size h'.size, fun i hi ho => (h'.block i (Nat.lt_of_lt_of_le hi h.size) ho).trans (h.block i hi ho)⟩
theorem Fr.mono {w w1 : World} {ok ok' : Nat → Prop} (h : Fr w w1 ok) (hk : ∀ i, i < w.heap.size → ok' i → ok i) : Fr w w1 ok' := ⟨h.os, h.tape, h.output, h.size, fun i hi ho => h.block i hi (hk i hi ho)⟩
/-- The second step speaks of the blocks that stood ahead of the first alone. -/
theorem Fr.then' {w w1 w2 : World} {ok ok' : Nat → Prop} (h : Fr w w1 ok) (h' : Fr w1 w2 ok') (hk : ∀ i, i < w.heap.size → ok i → ok' i) : Fr w w2 ok :=
  ⟨h'.os.trans h.os, h'.tape.trans h.tape, h'.output.trans h.output, Nat.le_trans h.size h'.size, fun i hi ho => (h'.block i (Nat.lt_of_lt_of_le hi h.size) (hk i hi ho)).trans (h.block i hi ho)⟩
theorem Fr.of_grown {w w1 : World} {row : Option Nat} (h : w.grownBy w1 row) : Fr w w1 (fun i => some i ≠ row) := ⟨h.os, h.tape, h.output, h.size, fun i hi ho => h.block i hi ho⟩
theorem Fr.of_below {w w1 : World} (h : Below w.heap.size w w1) (ok : Nat → Prop) : Fr w w1 ok := ⟨h.os, h.tape, h.output, h.size, fun i hi _ => h.block i hi⟩
theorem Fr.below {w w1 : World} {ok : Nat → Prop} {B : Nat} (h : Fr w w1 ok) (hk : ∀ i, i < B → i < w.heap.size ∧ ok i) : Below B w w1 := ⟨h.os, h.tape, h.output, h.size, fun i hi => h.block i (hk i hi).1 (hk i hi).2⟩
theorem Fr.set {w : World} (p : Addr) (u : Value) : Fr w (w.setCell p u) (fun i => i ≠ p.block) := ⟨rfl, rfl, rfl, by simp [World.setCell], fun i _ hi => Below.heap_setCell w p u i hi⟩
theorem Fr.heap {w w1 : World} {ok : Nat → Prop} (h : Fr w w1 ok) {i : Nat} {o : Obj} (hb : w.heap[i]? = some o) (hi : ok i) : w1.heap[i]? = some o := (h.block i (blk_lt hb) hi).trans hb
theorem Fr.cell {w w1 : World} {ok : Nat → Prop} (h : Fr w w1 ok) {p : Addr} {u : Value} (hc : w.cell? p = some u) (hi : ok p.block) : w1.cell? p = some u := by
  have := h.block p.block (World.block_lt_of_cell? w p hc) hi
  simpa [World.cell?, this] using hc
theorem add_block (ad : Addr) (i : Nat) : (ad.add i).block = ad.block := by unfold Addr.add; split <;> rfl
theorem reads_fr {w w1 : World} {ok : Nat → Prop} (h : Fr w w1 ok) {k : IntKind} {A : Option Addr} {n : Nat} {l : List Int} (hr : ReadsInt w k A n l) (hi : ∀ ad, A = some ad → 0 < n → ok ad.block) : ReadsInt w1 k A n l :=
  ⟨hr.1, hr.2.1, fun h0 => by
    obtain ⟨ad, e, hc⟩ := hr.2.2 h0
    exact ⟨ad, e, fun j hj => h.cell (hc j hj) (by rw [add_block]; exact hi ad e h0)⟩⟩
theorem own_lower {w : World} {base base' : Nat} {e : TypeId} {size n : Nat} {v : Value} {xs : List Value} (h : w.ownsRow base e size v n xs) (hb : base' ≤ base) : w.ownsRow base' e size v n xs := by
  refine ⟨h.1, ?_⟩
  rcases h.2 with h | ⟨g, cap, cur, a, b, c⟩
  · exact .inl h
  · exact .inr ⟨g, cap, cur, a, Nat.le_trans hb b, c⟩

/-- A row of one's own outlives whatever leaves its block. -/
theorem own_fr {w w' : World} {B : Nat} {e : TypeId} {size n : Nat} {rv : Value} {xs : List Value} {ok : Nat → Prop} (f : Fr w w' ok) (h : w.ownsRow B e size rv n xs) (hk : ∀ i, some i = rv.ownBlock → ok i) : w'.ownsRow B e size rv n xs := by
  refine ⟨h.1, ?_⟩
  rcases h.2 with h1 | ⟨g, cap, cur, rfl, h2, h3, h4⟩
  · exact .inl h1
  · exact .inr ⟨g, cap, cur, rfl, h2, f.heap h3 (hk g rfl), h4⟩
theorem own_ge {w : World} {B : Nat} {e : TypeId} {size n : Nat} {rv : Value} {xs : List Value} (h : w.ownsRow B e size rv n xs) (i : Nat) (hi : some i = rv.ownBlock) : B ≤ i ∧ i < w.heap.size := by
  rcases h.2 with ⟨rfl, _⟩ | ⟨g, cap, cur, rfl, h2, h3, h4⟩
  · cases hi
  · injection hi with hi
    subst hi
    exact ⟨h2, blk_lt h3⟩
theorem fresh_ne {w w' : World} {B : Nat} {e e' : TypeId} {z z' n n' : Nat} {v v' : Value} {xs xs' : List Value} (h : w'.ownsRow w.heap.size e z v n xs) (h' : w.ownsRow B e' z' v' n' xs') : NeRow v v' := fun k hk hk' => by
  have a := own_ge h k hk.symm
  have b := own_ge h' k hk'.symm
  omega
theorem ne_app {w : World} {B : Nat} {e : TypeId} {z n : Nat} {v va va' : Value} {xs : List Value} (h : NeRow v va) (ho : w.ownsRow B e z v n xs) (hA : va'.ownBlock = va.ownBlock ∨ ∃ b, va'.ownBlock = some b ∧ w.heap.size ≤ b) : NeRow v va' := fun k hk hk' => by
  rcases hA with e | ⟨b, e, hb⟩
  · exact h k hk (e ▸ hk')
  · rw [e] at hk'
    cases hk'
    have := (own_ge ho _ hk.symm).2
    omega
theorem Fr.trans' {w w1 w2 : World} {ok : Nat → Prop} (h : Fr w w1 ok) (h' : Fr w1 w2 (fun _ => True)) : Fr w w2 ok := h.then' h' (fun _ _ _ => trivial)
theorem Fr.all {w w1 : World} (h : Below w.heap.size w w1) : Fr w w1 (fun _ => True) := Fr.of_below h _
theorem Fr.drewN {w : World} (n : Nat) (ok : Nat → Prop) : Fr w (w.drewN n) ok := Fr.of_below (pw_below_drewN (Below.refl _ _) n) _
theorem Fr.drew {w : World} (ok : Nat → Prop) : Fr w w.drew ok := Fr.of_below (Below.refl _ _).drew _
theorem Fr.alloc {w : World} (o : Obj) (ok : Nat → Prop) : Fr w (w.alloc o) ok := Fr.of_below (below_alloc (Below.refl _ _) o) _
theorem add_two (ad : Addr) (i : Nat) : ad.add (i * 2 + 1) = ⟨(ad.add (i * 2)).block, (ad.add (i * 2)).off + 1, none⟩ := by
  unfold Addr.add
  by_cases h : i * 2 = 0
  · have h0 : i = 0 := by omega
    subst h0
    simp
  · rw [if_neg (by omega), if_neg h]
    simp [Nat.add_assoc]
theorem i64_of {a : Int} (h : (Lit.int .i64 a).wf = true) : -9223372036854775808 ≤ a ∧ a ≤ 9223372036854775807 := by
  simp only [Lit.wf, show IntKind.i64.min = -9223372036854775808 from rfl, show IntKind.i64.max = 9223372036854775807 from rfl, Bool.and_eq_true, decide_eq_true_eq] at h
  omega
end Go.Proofs.Ytnomebkdhjigjaa.W
/- Separate things in memory, each with the blocks that it stands on: what is done to one leaves the others. -/
namespace Go.Proofs.Ytnomebkdhjigjaa.W
open Go.RowKit Go.Proofs.YtnomebkdhjigjaaW.PrintWords Go.Proofs.YtnomebkdhjigjaaW.PrintLast Go.Proofs.YtnomebkdhjigjaaW.PrintMore
set_option linter.unusedVariables false
set_option linter.unusedSimpArgs false
/-- A thing in memory: its blocks, and what holds of it. -/
structure Res where
  foot : Nat → Prop
  holds : World → Prop
  lt : ∀ w, holds w → ∀ i, foot i → i < w.heap.size
  keep : ∀ w w', holds w → (∀ i, foot i → w'.heap[i]? = w.heap[i]?) → holds w'
/-- A block whole. -/
def Res.blk (g : Nat) (cs : Array Value) (t : TypeId) : Res where
  foot i := i = g
  holds w := w.heap[g]? = some (.cells cs t (0, 0))
  lt := fun w h i hi => by subst hi; exact blk_lt h
  keep := fun w w' h hk => (hk g rfl).trans h
/-- A row of one's own from block B on. -/
def Res.row (B : Nat) (e : TypeId) (z n : Nat) (v : Value) (xs : List Value) : Res where
  foot i := some i = v.ownBlock
  holds w := w.ownsRow B e z v n xs
  lt := fun w h i hi => (own_ge h i hi).2
  keep := fun w w' h hk => by
    refine ⟨h.1, ?_⟩
    rcases h.2 with h1 | ⟨g, cap, cur, rfl, h2, h3, h4⟩
    · exact .inl h1
    · exact .inr ⟨g, cap, cur, rfl, h2, (hk g rfl).trans h3, h4⟩
/-- Two things as one. -/
def Res.and (r s : Res) : Res where
  foot i := r.foot i ∨ s.foot i
  holds w := r.holds w ∧ s.holds w
  lt := fun w h i hi => hi.elim (r.lt w h.1 i) (s.lt w h.2 i)
  keep := fun w w' h hk => ⟨r.keep w w' h.1 (fun i hi => hk i (.inl hi)), s.keep w w' h.2 (fun i hi => hk i (.inr hi))⟩
/-- What is so without memory. -/
def Res.pure (p : Prop) : Res where
  foot i := False
  holds w := p
  lt := fun w h i hi => hi.elim
  keep := fun w w' h hk => h
/-- Things in memory from w0 on, each apart from each other. -/
structure Sep (w0 w : World) (l : List Res) : Prop where
  B : Below w0.heap.size w0 w
  h : ∀ r ∈ l, r.holds w
  ge : ∀ r ∈ l, ∀ i, r.foot i → w0.heap.size ≤ i
  ne : l.Pairwise (fun r s => ∀ i, r.foot i → ¬ s.foot i)
theorem Sep.nil (w : World) : Sep w w [] := ⟨Below.refl _ _, fun _ h => by simp at h, fun _ h => by simp at h, .nil⟩
theorem Sep.get {w0 w : World} {l : List Res} (h : Sep w0 w l) (k : Nat) {r : Res} (hk : l[k]? = some r) : r.holds w := h.h r (List.mem_of_getElem? hk)
/-- Whatever leaves what stands. -/
theorem Sep.keep {w0 w w' : World} {l : List Res} (h : Sep w0 w l) (b : Below w.heap.size w w') : Sep w0 w' l :=
  ⟨below_step h.B b, fun r hr => r.keep w w' (h.h r hr) (fun i hi => b.block i (r.lt w (h.h r hr) i hi)), h.ge, h.ne⟩
theorem Sep.keepFr {w0 w w' : World} {l : List Res} (h : Sep w0 w l) (f : Fr w w' (fun _ => True)) : Sep w0 w' l := h.keep (f.below (fun i hi => ⟨hi, trivial⟩))
theorem Sep.drewN {w0 w : World} {l : List Res} (h : Sep w0 w l) (m : Nat) : Sep w0 (w.drewN m) l := h.keep (pw_below_drewN (Below.refl _ _) m)
theorem Sep.drew {w0 w : World} {l : List Res} (h : Sep w0 w l) : Sep w0 w.drew l := h.keep (Below.refl _ _).drew
theorem Sep.alloc {w0 w : World} {l : List Res} (h : Sep w0 w l) (o : Obj) : Sep w0 (w.alloc o) l := h.keep (below_alloc (Below.refl _ _) o)
theorem Sep.size {w0 w : World} {l : List Res} (h : Sep w0 w l) : w0.heap.size ≤ w.heap.size := h.B.size
/-- One thing more, of what is new. -/
theorem Sep.push {w0 w w' : World} {l : List Res} (h : Sep w0 w l) (b : Below w.heap.size w w') (r : Res) (hr : r.holds w') (hf : ∀ i, r.foot i → w.heap.size ≤ i) : Sep w0 w' (r :: l) := by
  have h' := h.keep b
  refine ⟨h'.B, ?_, ?_, ?_⟩
  · intro s hs
    rcases List.mem_cons.1 hs with rfl | hs
    · exact hr
    · exact h'.h s hs
  · intro s hs i hi
    rcases List.mem_cons.1 hs with rfl | hs
    · exact Nat.le_trans h.size (hf i hi)
    · exact h.ge s hs i hi
  · refine List.pairwise_cons.2 ⟨fun s hs i hi hs' => ?_, h.ne⟩
    have := s.lt w (h.h s hs) i hs'
    have := hf i hi
    omega
/-- A thing is changed, nothing else that stood. -/
theorem Sep.upd {w0 w w' : World} {l : List Res} (h : Sep w0 w l) (k : Nat) (r r' : Res) (hk : l[k]? = some r) (hr : r'.holds w') (f : Fr w w' (fun i => ¬ r.foot i)) (hf : ∀ i, r'.foot i → r.foot i ∨ w.heap.size ≤ i) : Sep w0 w' (l.set k r') := by
  have hm := List.mem_of_getElem? hk
  have hkl : k < l.length := by
    rcases Nat.lt_or_ge k l.length with c | c
    · exact c
    · rw [List.getElem?_eq_none c] at hk; cases hk
  have hlk : l[k] = r := by rw [List.getElem?_eq_getElem hkl] at hk; injection hk
  have apart : ∀ (j : Nat) (hj : j < l.length), j ≠ k → ∀ i, (l[j]).foot i → ¬ r.foot i := by
    intro j hj hjk i h1 h2
    have hp := List.pairwise_iff_getElem.1 h.ne
    rcases Nat.lt_or_gt_of_ne hjk with c | c
    · exact hp j k hj hkl c i h1 (by rw [hlk]; exact h2)
    · exact hp k j hkl hj c i (by rw [hlk]; exact h2) h1
  refine ⟨h.B.trans (f.below (fun i hi => ⟨Nat.lt_of_lt_of_le hi h.size, fun hr' => by have := h.ge r hm i hr'; omega⟩)), ?_, ?_, ?_⟩
  · intro s hs
    obtain ⟨j, hj, rfl⟩ := List.mem_iff_getElem.1 hs
    rw [List.length_set] at hj
    rw [List.getElem_set]
    split
    · exact hr
    · rename_i hne
      have hs := h.h _ (List.getElem_mem hj)
      exact Res.keep _ w w' hs (fun i hi => f.block i (Res.lt _ w hs i hi) (apart j hj (fun e => hne e.symm) i hi))
  · intro s hs i hi
    obtain ⟨j, hj, rfl⟩ := List.mem_iff_getElem.1 hs
    rw [List.length_set] at hj
    rw [List.getElem_set] at hi
    split at hi
    · rcases hf i hi with c | c
      · exact h.ge r hm i c
      · exact Nat.le_trans h.size c
    · exact h.ge _ (List.getElem_mem hj) i hi
  · rw [List.pairwise_iff_getElem]
    intro j j2 hj hj2 hlt i h1 h2
    rw [List.length_set] at hj hj2
    rw [List.getElem_set] at h1 h2
    split at h1
    · rename_i e1
      split at h2
      · rename_i e2; omega
      · rcases hf i h1 with c | c
        · exact apart j2 hj2 (by omega) i h2 c
        · have := Res.lt _ w (h.h _ (List.getElem_mem hj2)) i h2; omega
    · split at h2
      · rcases hf i h2 with c | c
        · exact apart j hj (by omega) i h1 c
        · have := Res.lt _ w (h.h _ (List.getElem_mem hj)) i h1; omega
      · exact List.pairwise_iff_getElem.1 h.ne j j2 hj hj2 hlt i h1 h2
/-- A thing is left behind. -/
theorem Sep.drop {w0 w : World} {l : List Res} (h : Sep w0 w l) (k : Nat) : Sep w0 w (l.eraseIdx k) :=
  ⟨h.B, fun r hr => h.h r (List.mem_of_mem_eraseIdx hr), fun r hr => h.ge r (List.mem_of_mem_eraseIdx hr), h.ne.sublist (List.eraseIdx_sublist l k)⟩
theorem Sep.sub {w0 w : World} {l l' : List Res} (h : Sep w0 w l) (hs : l'.Sublist l) : Sep w0 w l' :=
  ⟨h.B, fun r hr => h.h r (hs.subset hr), fun r hr => h.ge r (hs.subset hr), h.ne.sublist hs⟩
/-- A thing said otherwise. -/
theorem Sep.alike {w0 w : World} {l : List Res} (h : Sep w0 w l) (k : Nat) (r r' : Res) (hk : l[k]? = some r) (hr : r.holds w → r'.holds w) (hf : ∀ i, r'.foot i → r.foot i) : Sep w0 w (l.set k r') :=
  h.upd k r r' hk (hr (h.get k hk)) (Fr.refl _ _) (fun i hi => .inl (hf i hi))
/-- A cell of a block is written. -/
theorem Sep.put {w0 w : World} {l : List Res} (h : Sep w0 w l) (k g : Nat) (cs : Array Value) (t : TypeId) (hk : l[k]? = some (Res.blk g cs t)) (j : Nat) (v : Value) (hj : j < cs.size) : Sep w0 (w.setCell ⟨g, j, none⟩ v) (l.set k (Res.blk g (cs.set! j v) t)) :=
  h.upd k _ _ hk (blk_set (h.get k hk) j v) ((Fr.set (w := w) ⟨g, j, none⟩ v).mono (fun i _ hi e => hi e)) (fun i hi => .inl hi)
theorem Sep.cell {w0 w : World} {l : List Res} (h : Sep w0 w l) (k g : Nat) (cs : Array Value) (t : TypeId) (hk : l[k]? = some (Res.blk g cs t)) (j : Nat) (v : Value) (hj : cs[j]? = some v) : w.cell? ⟨g, j, none⟩ = some v ∧ w.frozen? ⟨g, j, none⟩ = false :=
  ⟨(cell_of_row w g j _ t (0, 0) (h.get k hk)).trans hj, blk_frozen (h.get k hk) j⟩
/-- In whatever order. -/
theorem Sep.perm {w0 w : World} {l l' : List Res} (h : Sep w0 w l) (p : l.Perm l') : Sep w0 w l' :=
  ⟨h.B, fun r hr => h.h r (p.mem_iff.2 hr), fun r hr => h.ge r (p.mem_iff.2 hr), (p.pairwise_iff (fun {a b} hab i h1 h2 => hab i h2 h1)).1 h.ne⟩
theorem Sep.lower {w0 w1 w : World} {l : List Res} (h : Sep w1 w l) (b : Below w0.heap.size w0 w1) : Sep w0 w l :=
  ⟨b.trans (h.B.mono b.size), h.h, fun r hr i hi => Nat.le_trans b.size (h.ge r hr i hi), h.ne⟩
end Go.Proofs.Ytnomebkdhjigjaa.W
/- A region that draws its order, all of whose operations but the last few only read (their calls may draw), the last few standing in one forced order: one walk in the text's order serves every order. No condition but the two closed facts on the region. -/
namespace Go.Proofs.Ytnomebkdhjigjaa.QTail
section
variable {P : Program} {ops : Array Oper} {md : Region.Mode} {C : World → Prop}

/-- f operations of the head come up, in whatever order. -/
def headQ (P : Program) (md : Region.Mode) (ops : Array Oper) (C : World → Prop) (n : Nat) (L : Array Bool → Act → Prop) : Nat → Array Bool → Act → Prop
  | 0, listed, a => L listed a
  | f + 1, listed, a => Region.ready md ops listed ≠ [] ∧ ∀ i ∈ Region.ready md ops listed, i < n ∧ qOp P ops C i (headQ P md ops C n L f (listed.setIfInBounds i true)) a

theorem any_of_headQ {n g : Nat} {L : Array Bool → Act → Prop} {Q : Exit → Act → World → Prop} (hL : ∀ listed a w, C w → L listed a → wpAny P md ops Q g listed a w) (f : Nat) :
    ∀ (listed : Array Bool) (a : Act) (w : World), C w → headQ P md ops C n L f listed a → wpAny P md ops Q (f + g) listed a w := by
  induction f with
  | zero => intro listed a w hw h; rw [Nat.zero_add]; exact hL _ _ _ hw h
  | succ f ih =>
    intro listed a w hw h
    have e : f + 1 + g = (f + g) + 1 := by omega
    rw [e]
    refine ⟨fun h0 => absurd h0 h.1, fun i hi => wpOp_of_qOp hw (fun a' w' hw' h' => ih _ a' w' hw' h') (h.2 i hi).2⟩

theorem headQ_take {n i : Nat} {oi : Oper} {v : Value} {L : Array Bool → Act → Prop} (hi : ops[i]? = some oi) (hsel : ∀ (j : Nat) (o : Oper) cs b, ops[j]? = some o → o.op ≠ .select cs b)
    (hs : Region.sinkB md ops n = true) (hc : Region.chainB md ops n = true) (hn : n < ops.size) (hin : i < n) (hdone : ∀ listed a, L listed a → ∀ j ∈ Region.ready md ops listed, n ≤ j) (f : Nat) :
    ∀ (listed : Array Bool) (a : Act), HeadInv md ops n listed →
      (∀ j oj, ops[j]? = some oj → j ≠ i → listed.getD j true = false → (∀ e ∈ oj.after, Region.binds md e = true → e.on ≠ i) → oi.apart ops oj = true) →
      i ∈ Region.ready md ops listed → YieldsIn P ops C oi v a → headQ P md ops C n L f (listed.setIfInBounds i true) (a.put oi.dst v) → headQ P md ops C n L (f + 1) listed a := by
  induction f with
  | zero =>
    intro listed a inv _ hr hy H
    have hun := (mem_ready.1 hr).1
    have hhead : ∀ j ∈ Region.ready md ops listed, j < n := fun j hj => Nat.lt_of_not_le fun h => tail_waits hs hc hn inv _ i rfl hin hun j h hj
    refine ⟨fun h => (by rw [h] at hr; cases hr), fun j hj => ⟨hhead j hj, ?_⟩⟩
    by_cases hji : j = i
    · subst hji; exact hy.qOp hi H
    · have h1 := hdone _ _ H j (ready_mono hj hji)
      have h2 := hhead j hj
      omega
  | succ f ih =>
    intro listed a inv hfree hr hy H
    have hun := (mem_ready.1 hr).1
    have hhead : ∀ j ∈ Region.ready md ops listed, j < n := fun j hj => Nat.lt_of_not_le fun h => tail_waits hs hc hn inv _ i rfl hin hun j h hj
    refine ⟨fun h => (by rw [h] at hr; cases hr), fun j hj => ⟨hhead j hj, ?_⟩⟩
    by_cases hji : j = i
    · subst hji; exact hy.qOp hi H
    · have h1 := (H.2 j (ready_mono hj hji)).2
      obtain ⟨hjun, oj, hoj, hall⟩ := mem_ready.1 hj
      have hnot : ∀ e ∈ oj.after, Region.binds md e = true → e.on ≠ i := fun e he hb heq => by
        have h1 := hall e he hb
        rw [heq, getD_both hun] at h1
        cases h1
      have h2 := qOp_put hoj (hfree j oj hoj hji hjun hnot) (fun cs b => hsel i oi cs b hi) (fun cs b => hsel j oj cs b hoj) hy h1
      refine qOp_mono (fun a' h3 => ih (listed.setIfInBounds j true) a' (inv.set hj (hhead j hj)) (fun k ok hk hki hk2 hno => hfree k ok hk hki ?_ hno) (ready_mono hr (Ne.symm hji)) h3.1 ?_) h2
      · by_cases hjk : j = k
        · subst hjk; exact hjun
        · rw [getD_set_ne true hjk] at hk2; exact hk2
      · rw [Array.setIfInBounds_comm _ _ hji]
        exact h3.2

theorem headQ_lex {n g : Nat} {Lq : Act → Prop} (hsel : Region.noSelect ops = true) (hs : Region.sinkB md ops n = true) (hc : Region.chainB md ops n = true) (hn : n < ops.size) :
    ∀ (l : List Oper) (k : Nat) (listed : Array Bool) (a : Act), (∀ j, j < l.length → l[j]? = ops[k + j]?) → k + l.length = n → HeadInv md ops n listed →
    Region.lexHead md ops g l.length k listed = true → wpQuiet P ops C Lq l a → headQ P md ops C n (fun listed' a' => Region.seqB md ops g n listed' = true ∧ Lq a') l.length listed a
  | [], k, listed, a, _, hk, _, hB, h => by
    obtain rfl : k = n := by simpa using hk
    exact ⟨by simpa [Region.lexHead] using hB, h⟩
  | o :: l, k, listed, a, hl, hk, inv, hB, h => by
    have h0 : ops[k]? = some o := by simpa using (hl 0 (by simp)).symm
    simp only [List.length_cons] at hk
    simp only [List.length_cons, Region.lexHead, Bool.and_eq_true] at hB
    obtain ⟨⟨hr, hf⟩, hB'⟩ := hB
    have hr' : k ∈ Region.ready md ops listed := by simpa using hr
    have hst : qOp P ops C k (wpQuiet P ops C Lq l) a := by unfold qOp; simp only [h0]; exact h
    obtain ⟨v, hy, hK⟩ := yieldsIn_of_qOp h0 hst
    refine headQ_take h0 (Region.noSelect_spec hsel) hs hc hn (by omega) (fun listed' a' hL => seqB_ready hL.1) l.length listed a inv (Region.free_spec h0 hf) hr' hy ?_
    exact headQ_lex hsel hs hc hn l (k + 1) _ _ (fun j hj => by have := hl (j + 1) (by simp; omega); simpa [Nat.add_assoc, Nat.add_comm 1 j] using this) (by omega) (inv.set hr' (by omega)) hB' hK

/-- The region: n operations that only read, in the class C of worlds; then the rest, in its one order. -/
theorem wp_region_tail {id : Nat} {Q : Exit → Act → World → Prop} {a : Act} {w : World} {l : List Oper} (n : Nat) (hm : P.follows .mixedOrders = true) (hB : Region.lexTailB .any l.toArray n = true) (hC : C w.drew)
    (h : wpQuiet P l.toArray C (fun a' => ∀ w', C w' → wpList P l.toArray Q (l.drop n) a' w') (l.take n) a) : (Code.region id l.toArray true).wp P Q a w := by
  simp only [Region.lexTailB, Bool.and_eq_true, decide_eq_true_eq] at hB
  obtain ⟨⟨⟨⟨hsel, hn⟩, hs⟩, hc⟩, hlex⟩ := hB
  have hn' : n < l.length := by simpa using hn
  have htl : (l.take n).length = n := by simp; omega
  have hdl : (l.drop n).length = l.toArray.size - n := by simp
  have inv0 : HeadInv .any l.toArray n (Array.replicate l.toArray.size false) :=
    ⟨by simp, fun j oj _ hl => (by rw [getD_replicate_false] at hl; cases hl), fun t _ ht => getD_in (by simpa using ht) (getD_replicate_false _ _)⟩
  have H := headQ_lex (md := .any) (g := l.toArray.size - n) hsel hs hc hn (l.take n) 0 _ a (fun j hj => by
    have hj' : j < n := by rw [htl] at hj; exact hj
    simp [hj']) (by simpa using htl) inv0 (by rw [htl]; exact hlex) h
  refine wp_region_any hm ?_
  have hall := any_of_headQ (Q := Q) (g := l.toArray.size - n) (fun listed a' w' hw' hL => by
    have hseq := wpAny_of_seq (md := .any) (Q' := Q) (l.drop n) n listed a' w' (fun j => by simp [List.getElem?_drop]) (by rw [hdl]; exact hL.1) (hL.2 w' hw')
    rwa [hdl] at hseq) _ _ _ _ hC H
  rw [htl] at hall
  rw [show n + (l.toArray.size - n) = l.toArray.size from by omega] at hall
  exact hall
end
end Go.Proofs.Ytnomebkdhjigjaa.QTail
/- Contracts of slices.Clone at []byte and of lz's player: newPlayer, room, reaches, copies, plain, over what it holds. Conditions: lengths below 2^40. -/
namespace Go.Proofs.Ytnomebkdhjigjaa.W
open Go.RowKit Go.Proofs.YtnomebkdhjigjaaW.PrintWords Go.Proofs.YtnomebkdhjigjaaW.PrintLast Go.Proofs.YtnomebkdhjigjaaW.PrintMore
set_option linter.unusedVariables false
set_option linter.unusedSimpArgs false
theorem info5 : (Try.prog.info? 5).map (fun i => (i.zero, i.size, i.bytes)) = some (some (.int .u8 0), 1, 1) := by kernel_rfl

theorem clone_nil (n c : Nat) (w : World) : Calls Try.prog 52 #[.slice none n c] w fun e w' => e = .returned (.slice none 0 0) ∧ w' = w := by
  have hq := @Lib.run_eql_slice_nil Try.prog
  go_enter Try.func52, Try.ntmps52
  go_wp2
  go_ret
  exact ⟨rfl, rfl⟩

theorem clone_some (ad : Addr) (c : Nat) (l : List Int) (w : World) (hr : ReadsInt w .u8 (some ad) l.length l) (hl : l.length ≤ 140737488355327) :
    Calls Try.prog 52 #[.slice (some ad) l.length c] w fun e w' => ∃ v, e = .returned v ∧ w'.ownsRow w.heap.size 5 1 v l.length (nums .u8 l) ∧ Below w.heap.size w w' := by
  have hq := @Lib.run_eql_slice_nil Try.prog
  have hb : Below w.heap.size w (w.alloc (.cells #[] 5)) := below_alloc (Below.refl _ _) _
  have ho : (w.alloc (.cells #[] 5)).ownsRow w.heap.size 5 1 (.slice (some ⟨w.heap.size, 0, none⟩) 0 0) ([] : List Int).length (nums .u8 []) := own_lit w w.heap.size 5 .u8 [] (Nat.le_refl _) (by simp)
  go_enter Try.func52, Try.ntmps52
  go_wp2_with (first | (at_builtin; refine print_append_row (w0 := w) w.heap.size rfl (.tmp 5) (.tmp 6) 22 5 .u8 1 rfl Try.underlying22 info5 (by decide) (.slice (some ⟨w.heap.size, 0, none⟩) 0 0) [] l (some ad) l.length c rfl rfl ho (hr.below hb) hb (by simp) (by simp; omega) ?_; intro v1 w1 hO hB hG hA))
  go_ret
  exact ⟨v1, rfl, by simpa using hO, hB⟩

/-- Whatever the slice: what it reads is owned by the result. -/
theorem clone_any (A : Option Addr) (c : Nat) (l : List Int) (w : World) (hr : ReadsInt w .u8 A l.length l) (hl : l.length ≤ 140737488355327) :
    Calls Try.prog 52 #[.slice A l.length c] w fun e w' => ∃ A' c', e = .returned (.slice A' l.length c') ∧ w'.ownsRow w.heap.size 5 1 (.slice A' l.length c') l.length (nums .u8 l) ∧ Below w.heap.size w w' := by
  cases A with
  | some ad =>
    refine (clone_some ad c l w hr hl).mono fun e w' ⟨v, he, ho, hb⟩ => ?_
    obtain ⟨A', c', rfl⟩ := own_slice ho
    exact ⟨A', c', he, ho, hb⟩
  | none =>
    have h0 : l.length = 0 := by
      rcases Nat.eq_zero_or_pos l.length with h | h
      · exact h
      · obtain ⟨ad, e, _⟩ := hr.2.2 h; cases e
    obtain rfl : l = [] := List.eq_nil_of_length_eq_zero h0
    exact (clone_nil _ c w).mono fun e w' ⟨he, hw⟩ => by
      subst he hw
      exact ⟨_, _, rfl, own_nil _ _ _ _, Below.refl _ _⟩
section
variable {P : Program} {ops : Array Oper} {o : Oper} {a : Act} {Q : Exit → Act → World → Prop} {Kc : Act → World → Prop}
theorem app_step {w0 W : World} (base : Nat) (hwt : Region.wanted o (yielded ops a.tmps) = true) (s x : Operand) (t e : TypeId) (k : IntKind) (bytes : Nat)
    (ho : o.op = .call { callee := .builtin .append, args := #[s, x], argTypes := #[t, t] })
    (ht : P.underlying t = some (.slice e)) (hinfo : (P.info? e).map (fun i => (i.zero, i.size, i.bytes)) = some (some (.int k 0), 1, bytes)) (hb0 : 0 < bytes)
    (v : Value) (xs ys : List Int) (A : Option Addr) (m c : Nat) (hs : a.eval s = v) (hx : a.eval x = .slice A m c)
    (HO : W.ownsRow base e 1 v xs.length (nums k xs)) (HR : ReadsInt W k A m ys) (HB : Below base w0 W) (hbase : base ≤ W.heap.size) (hl : (xs.length + m) * bytes ≤ 140737488355328)
    (h : ∀ v1 w1, w1.ownsRow base e 1 v1 (xs ++ ys).length (nums k (xs ++ ys)) → Below base w0 w1 → W.grownBy w1 v.ownBlock → (v1.ownBlock = v.ownBlock ∨ ∃ b, v1.ownBlock = some b ∧ W.heap.size ≤ b) → Kc (a.put o.dst v1) w1) :
    if Region.wanted o (yielded ops a.tmps) = true then Oper.wp P o a W Kc Q else Kc (a.put o.dst undef) W := by
  obtain ⟨i0, hi, hzz⟩ := Option.map_eq_some_iff.1 hinfo
  simp only [Prod.mk.injEq] at hzz
  obtain ⟨hz0, hz1, hz2⟩ := hzz
  have hm : ys.length = m := HR.1
  have hlen : xs.length + m ≤ 140737488355328 := Nat.le_trans (Nat.le_mul_of_pos_right _ hb0) hl
  have hrun : ∃ v1 w1, (Builtin.append_ #[t, t] o.type #[v, .slice A m c]).run P W = .ok v1 w1 ∧ w1.ownsRow base e 1 v1 (xs ++ ys).length (nums k (xs ++ ys)) ∧ W.grownBy w1 v.ownBlock ∧ (v1.ownBlock = v.ownBlock ∨ v1.ownBlock = some W.heap.size) := by
    rcases A with _ | ad
    · have h0 : m = 0 := by
        rcases Nat.eq_zero_or_pos m with h0 | h0
        · exact h0
        · obtain ⟨ad, h, _⟩ := HR.2.2 h0
          cases h
      subst h0
      obtain rfl : ys = [] := List.eq_nil_of_length_eq_zero hm
      refine ⟨v, W, ?_, by simpa using HO, World.grownBy.refl W _, .inl rfl⟩
      rcases HO.2 with ⟨rfl, hn⟩ | ⟨g, cap, cur, rfl, _, _, hnc, _⟩
      · simp [Builtin.append_, run_underlying ht, sizeOf, typeInfo, hi, Builtin.lenOf, Builtin.firstCells]
      · simp [Builtin.append_, run_underlying ht, sizeOf, typeInfo, hi, Builtin.lenOf, Builtin.firstCells, hnc, storeCells]
    · have hcells : ∀ j u, (nums k ys)[j]? = some u → W.cell? (ad.add j) = some u := by
        intro j u hu
        have hj : j < ys.length := by
          rcases Nat.lt_or_ge j ys.length with h | h
          · exact h
          · simp [nums, List.getElem?_eq_none h] at hu
        obtain ⟨ad', h', hc⟩ := HR.2.2 (by omega)
        injection h' with h'
        subst h'
        have := hc j (by omega)
        simp [nums, List.getElem?_eq_getElem hj] at hu
        subst hu
        rw [this]
        simp [List.getD_eq_getElem?_getD, List.getElem?_eq_getElem hj]
      obtain ⟨v1, w1, hr, h2, h3, _, h5⟩ := run_append_own_at (P := P) W base t o.type e i0 (.int k 0) 1 bytes ht hi hz0 hz1 hz2 rfl (by omega) v xs.length (nums k xs) HO ad m c (nums k ys) (by simp [nums, hm]) hcells
        (by intro u hu; simp only [nums, List.mem_map] at hu; obtain ⟨q, _, rfl⟩ := hu; rfl) (by simp only [maxLen]; omega) hl hbase
      exact ⟨v1, w1, hr, by simpa [nums, hm] using h2, h3, h5⟩
  obtain ⟨v1, w1, hr, hown, hg, hat⟩ := hrun
  rw [if_pos hwt]
  unfold Oper.wp execOp
  simp only [ho, resolve, invoke, builtin, Sem.run_bind, Sem.run_pure, Result.andThen_ok, List.map_toArray, List.map_cons, List.map_nil, hs, hx, hr]
  refine (h v1 w1 hown (HB.grown hg hbase (own_base HO)) hg ?_)
  rcases hat with hat | hat
  · exact .inl hat
  · exact .inr ⟨_, hat, Nat.le_refl _⟩
end
theorem own_reads' {w : World} {base : Nat} {v : Value} {l : List Int} (h : w.ownsRow base 5 1 v l.length (nums .u8 l)) : ∃ A c, v = .slice A l.length c ∧ ReadsInt w .u8 A l.length l ∧ l.length ≤ c := by
  obtain ⟨A, c, e, hr⟩ := own_reads h
  refine ⟨A, c, e, hr, ?_⟩
  rcases h.2 with ⟨rfl, h0⟩ | ⟨g, cap, cur, rfl, _, _, h1, _⟩
  · omega
  · cases e
    exact h1
/-- The player. -/
def IsP (w : World) (g : Nat) (va : Value) (b m : Int) : Prop := w.heap[g]? = some (.cells #[va, .int .i64 b, .int .i64 m] 105 (0, 0))
theorem IsP.at {w : World} {g : Nat} {va : Value} {b m : Int} (h : IsP w g va b m) (i : Nat) (u : Value) (hu : (#[va, .int .i64 b, .int .i64 m] : Array Value)[i]? = some u) : w.cell? ⟨g, i, none⟩ = some u ∧ w.frozen? ⟨g, i, none⟩ = false :=
  ⟨(cell_of_row w g i _ 105 (0, 0) h).trans hu, blk_frozen h i⟩
structure Pl (w : World) (B g : Nat) (all : List Int) (va : Value) (b m : Int) : Prop where
  d : IsP w g va b m
  o : w.ownsRow B 5 1 va all.length (nums .u8 all)
theorem Pl.fr {w w' : World} {B g : Nat} {all : List Int} {va : Value} {b m : Int} {ok : Nat → Prop} (h : Pl w B g all va b m) (f : Fr w w' ok) (h1 : ok g) (h2 : ∀ i, some i = va.ownBlock → ok i) : Pl w' B g all va b m :=
  ⟨f.heap h.d h1, own_fr f h.o h2⟩
theorem Pl.lower {w : World} {B B' g : Nat} {all : List Int} {va : Value} {b m : Int} (h : Pl w B g all va b m) (hb : B' ≤ B) : Pl w B' g all va b m := ⟨h.d, own_lower h.o hb⟩
theorem room_calls (g B : Nat) (all : List Int) (va : Value) (b m n : Int) (w : World) (h : Pl w B g all va b m) (hb : 0 ≤ b ∧ b ≤ 1099511627776) (hm : 0 ≤ m ∧ m ≤ 1099511627776) (hl : all.length ≤ 1099511627776) :
    Calls Try.prog 71 #[.pointer (some ⟨g, 0, none⟩), .int .i64 n] w fun e w' => e = .returned (.int .i64 (if n > m - ((all.length : Int) - b) then 32 else 0)) ∧ ∃ k, w' = w.drewN k := by
  obtain ⟨A, c, rfl, hr, hc⟩ := own_reads' h.o
  have x0 := (h.d.at 0 _ rfl).1
  have x1 := (h.d.at 1 _ rfl).1
  have x2 := (h.d.at 2 _ rfl).1
  have w1 : wrap64 ((all.length : Int) - b) = (all.length : Int) - b := IntWalk.wrap64_in _ (by omega)
  have w2 : wrap64 (m - ((all.length : Int) - b)) = m - ((all.length : Int) - b) := IntWalk.wrap64_in _ (by omega)
  clear h hr hc
  by_cases hk : n > m - ((all.length : Int) - b)
  · rw [if_pos hk]
    go_enter Try.func71, Try.ntmps71
    go_wp2
    go_quiet (fail)
    go_wp2
    go_ret
    exact ⟨rfl, _, rfl⟩
  · rw [if_neg hk]
    go_enter Try.func71, Try.ntmps71
    go_wp2
    go_quiet (fail)
    go_wp2
    go_ret
    exact ⟨rfl, _, rfl⟩
theorem reaches_calls (g B : Nat) (all : List Int) (va : Value) (b m n : Int) (w : World) (h : Pl w B g all va b m) :
    Calls Try.prog 72 #[.pointer (some ⟨g, 0, none⟩), .int .i64 n] w fun e w' => e = .returned (.int .i64 (if n > (all.length : Int) then 30 else 0)) ∧ w' = w := by
  obtain ⟨A, c, rfl, hr, hc⟩ := own_reads' h.o
  have x0 := (h.d.at 0 _ rfl).1
  clear h hr hc
  by_cases hk : n > (all.length : Int)
  · rw [if_pos hk]
    go_enter Try.func72, Try.ntmps72
    go_wp2
    go_ret
    exact ⟨rfl, rfl⟩
  · rw [if_neg hk]
    go_enter Try.func72, Try.ntmps72
    go_wp2
    go_ret
    exact ⟨rfl, rfl⟩
/-- A match is copied, byte by byte. -/
def copied (back : Nat) : Nat → List Int → List Int
  | 0, all => all
  | n + 1, all => copied back n (all ++ [all.getD (all.length - back) 0])
theorem copied_len (back : Nat) : ∀ (n : Nat) (all : List Int), (copied back n all).length = all.length + n := by
  intro n
  induction n with
  | zero => intro all; rfl
  | succ n ih => intro all; rw [copied, ih]; simp; omega
theorem copied_snoc (back : Nat) : ∀ (n : Nat) (all : List Int), copied back (n + 1) all = copied back n all ++ [(copied back n all).getD ((copied back n all).length - back) 0] := by
  intro n
  induction n with
  | zero => intro all; rfl
  | succ n ih => intro all; rw [copied, ih, ← copied]
/-- A row of one's own, grown or new. -/
def Moved (w : World) (va va' : Value) : Prop := va'.ownBlock = va.ownBlock ∨ ∃ b, va'.ownBlock = some b ∧ w.heap.size ≤ b
theorem Moved.trans {w w1 : World} {va v1 v2 : Value} (h : Moved w va v1) (h' : Moved w1 v1 v2) (hs : w.heap.size ≤ w1.heap.size) : Moved w va v2 := by
  rcases h' with e | ⟨b, e, hb⟩
  · rcases h with e0 | ⟨b, e0, hb⟩
    · exact .inl (e.trans e0)
    · exact .inr ⟨b, e.trans e0, hb⟩
  · exact .inr ⟨b, e, Nat.le_trans hs hb⟩
theorem reads_one (w : World) (y : Int) : ReadsInt (w.alloc (.cells #[.int .u8 y] 5)) .u8 (some ⟨w.heap.size, 0, none⟩) 1 [y] :=
  ⟨rfl, by decide, fun _ => ⟨_, rfl, fun j hj => by
    have : j = 0 := by omega
    subst this
    rw [Addr.add_zero']
    exact cell_of_one (heap_alloc_new w (.cells #[.int .u8 y] 5))⟩⟩
set_option maxHeartbeats 4000000 in
set_option maxRecDepth 100000 in
theorem copies_calls (g B back n : Nat) (all : List Int) (va : Value) (b m : Int) (w : World) (h : Pl w B g all va b m) (hB : B ≤ w.heap.size) (h1 : 1 ≤ back) (h2 : back ≤ all.length) (hl : all.length + n ≤ 1099511627776) :
    Calls Try.prog 73 #[.pointer (some ⟨g, 0, none⟩), .int .i64 back, .int .i64 n] w fun e w' => e = .returned (.tuple #[]) ∧ ∃ va', Pl w' B g (copied back n all) va' b m ∧ Moved w va va' ∧ Fr w w' (fun i => i ≠ g ∧ some i ≠ va.ownBlock) := by
  have H := Aside0.mk h
  clear h
  go_enter Try.func73, Try.ntmps73
  go_wp2_with fail
  go_loopg [7] n (fun kq v7 wc => ∃ (j : Nat) (vc : Value), kq + j = n ∧ v7 = .int .i64 j ∧ Aside0 (Pl wc B g (copied back j all) vc b m) ∧ Aside0 (Moved w va vc) ∧ Aside0 (Fr w wc (fun i => i ≠ g ∧ some i ≠ va.ownBlock)))
  case atStart => exact ⟨0, va, by omega, rfl, H, ⟨.inl rfl⟩, ⟨Fr.refl _ _⟩⟩
  case round =>
    obtain ⟨j, vc, hk, rfl, HP, HM, HF⟩ := hrel
    clear H
    cases gk with
    | zero =>
      have hj : j = n := by omega
      subst hj
      go_wp2
      go_end0
      exact ⟨rfl, vc, HP.out, HM.out, HF.out⟩
    | succ k1 =>
      obtain ⟨L, eL⟩ : ∃ L, L = copied back j all := ⟨_, rfl⟩
      have hL1 : all.length ≤ L.length := by rw [eL, copied_len]; omega
      have hL2 : L.length ≤ all.length + j := by rw [eL, copied_len]; omega
      have HX := Aside0.mk (show copied back (j + 1) all = L ++ [L.getD (L.length - back) 0] by rw [copied_snoc, ← eL])
      rw [← eL] at HP
      clear eL
      obtain ⟨A, c, rfl, hr, hc⟩ := own_reads' HP.out.o
      obtain ⟨ad, rfl, hc0⟩ := hr.2.2 (by omega)
      have x0 := (HP.out.d.at 0 _ rfl).1
      have z0 := blk_frozen HP.out.d 0
      have hlt : (j : Int) < (n : Int) := by omega
      obtain ⟨y, hy⟩ : ∃ y, y = L.getD (L.length - back) 0 := ⟨_, rfl⟩
      have x1 := hc0 (L.length - back) (by omega)
      rw [← hy] at x1 HX
      clear hy
      obtain ⟨q, hq⟩ : ∃ q : Nat, q = L.length - back := ⟨_, rfl⟩
      rw [← hq] at x1
      have e1 : (L.length : Int) - (back : Int) = (q : Int) := by omega
      have e2 : wrap64 ((L.length : Int) - (back : Int)) = (q : Int) := by rw [e1]; exact IntWalk.wrap64_in _ (by omega)
      have q0 : (0 : Int) ≤ (q : Int) := by omega
      have q1 : (q : Int) < (L.length : Int) := by omega
      have HB := Aside0.mk (Nat.le_trans hB HF.out.size)
      clear hr hc0 hq e1
      go_upto_region 2 with fail
      have HPd := Aside0.mk (HP.out.fr (Fr.drew (fun _ => True)) trivial (fun _ _ => trivial))
      have HBd := Aside0.mk (show B ≤ wr.drew.heap.size from HB.out)
      have x0' : wr.drew.cell? ⟨g, 0, none⟩ = some (.slice (some ad) L.length c) := x0
      have x1' : wr.drew.cell? (ad.add q) = some (.int .u8 y) := x1
      have HFd := Aside0.mk (HF.out.then (Fr.drew _))
      refine start_ (n := 23) (S := fun w' => w'.cell? ⟨g, 0, none⟩ = some (.slice (some ad) L.length c) ∧ w'.cell? (ad.add q) = some (.int .u8 y)) (ds := [19, 22]) #[false, false, false, false, false, false, false, false, false, false, false, false, false, false, false, false, false, false, false, false, false, false, false] (by kernel_rfl) rfl rfl ⟨x0', x1'⟩ (fun hHeld => ?_)
      generalize wr.drew = wd at HPd HBd x0' x1' HFd hHeld ⊢
      refine pure_ (i := 0) (N := some 9) (v := ?_) (a' := ?_) #[true, false, false, false, false, false, false, false, false, false, false, false, false, false, false, false, false, false, false, false, false, false, false] rfl rfl (by kernel_rfl) (fun _ _ _ h => h) (Or.inl ⟨by rfl, ?_⟩) ?_ ?_
      rotate_left
      · intro w'
        go_simp
        with_reducible rfl
      rotate_left
      · simp only [Act.put, List.setIfInBounds_toArray, List.set_cons_zero, List.set_cons_succ, i64_w, i32_w]
        rfl
      refine pure_ (i := 1) (N := some 10) (v := ?_) (a' := ?_) #[true, true, false, false, false, false, false, false, false, false, false, false, false, false, false, false, false, false, false, false, false, false, false] rfl rfl (by kernel_rfl) (fun _ _ _ h => h) (Or.inl ⟨by rfl, ?_⟩) ?_ ?_
      rotate_left
      · intro w'
        go_simp
        with_reducible rfl
      rotate_left
      · simp only [Act.put, List.setIfInBounds_toArray, List.set_cons_zero, List.set_cons_succ, i64_w, i32_w]
        rfl
      refine pure_ (i := 2) (N := some 11) (v := ?_) (a' := ?_) #[true, true, true, false, false, false, false, false, false, false, false, false, false, false, false, false, false, false, false, false, false, false, false] rfl rfl (by kernel_rfl) (fun _ _ _ h => h) (Or.inl ⟨by rfl, ?_⟩) ?_ ?_
      rotate_left
      · intro w'
        go_simp
        with_reducible rfl
      rotate_left
      · simp only [Act.put, List.setIfInBounds_toArray, List.set_cons_zero, List.set_cons_succ, i64_w, i32_w]
        rfl
      refine pure_ (i := 3) (N := some 12) (v := ?_) (a' := ?_) #[true, true, true, true, false, false, false, false, false, false, false, false, false, false, false, false, false, false, false, false, false, false, false] rfl rfl (by kernel_rfl) (fun _ _ _ h => h) (Or.inl ⟨by rfl, ?_⟩) ?_ ?_
      rotate_left
      · intro w'
        go_simp
        with_reducible rfl
      rotate_left
      · simp only [Act.put, List.setIfInBounds_toArray, List.set_cons_zero, List.set_cons_succ, i64_w, i32_w]
        rfl
      refine pure_ (i := 5) (N := some 14) (v := ?_) (a' := ?_) #[true, true, true, true, false, true, false, false, false, false, false, false, false, false, false, false, false, false, false, false, false, false, false] rfl rfl (by kernel_rfl) (fun _ _ _ h => h) (Or.inl ⟨by rfl, ?_⟩) ?_ ?_
      rotate_left
      · intro w'
        go_simp
        with_reducible rfl
      rotate_left
      · simp only [Act.put, List.setIfInBounds_toArray, List.set_cons_zero, List.set_cons_succ, i64_w, i32_w]
        rfl
      refine pure_ (i := 6) (N := some 15) (v := ?_) (a' := ?_) #[true, true, true, true, false, true, true, false, false, false, false, false, false, false, false, false, false, false, false, false, false, false, false] rfl rfl (by kernel_rfl) (fun _ _ _ h => h) (Or.inl ⟨by rfl, ?_⟩) ?_ ?_
      rotate_left
      · intro w'
        go_simp
        with_reducible rfl
      rotate_left
      · simp only [Act.put, List.setIfInBounds_toArray, List.set_cons_zero, List.set_cons_succ, i64_w, i32_w]
        rfl
      refine pure_ (i := 7) (N := some 16) (v := ?_) (a' := ?_) #[true, true, true, true, false, true, true, true, false, false, false, false, false, false, false, false, false, false, false, false, false, false, false] rfl rfl (by kernel_rfl) (fun _ _ _ h => h) (Or.inl ⟨by rfl, ?_⟩) ?_ ?_
      rotate_left
      · intro w'
        go_simp
        with_reducible rfl
      rotate_left
      · simp only [Act.put, List.setIfInBounds_toArray, List.set_cons_zero, List.set_cons_succ, i64_w, i32_w]
        rfl
      refine pure_ (i := 9) (N := some 18) (v := ?_) (a' := ?_) #[true, true, true, true, false, true, true, true, false, true, false, false, false, false, false, false, false, false, false, false, false, false, false] rfl rfl (by kernel_rfl) (fun _ _ _ h => h) (Or.inl ⟨by rfl, ?_⟩) ?_ ?_
      rotate_left
      · intro w'
        go_simp
        with_reducible rfl
      rotate_left
      · simp only [Act.put, List.setIfInBounds_toArray, List.set_cons_zero, List.set_cons_succ, i64_w, i32_w]
        rfl
      refine pure_ (i := 10) (N := some 19) (v := ?_) (a' := ?_) #[true, true, true, true, false, true, true, true, false, true, true, false, false, false, false, false, false, false, false, false, false, false, false] rfl rfl (by kernel_rfl) (fun _ _ _ h => h) (Or.inl ⟨by rfl, ?_⟩) ?_ ?_
      rotate_left
      · intro w'
        go_simp
        with_reducible rfl
      rotate_left
      · simp only [Act.put, List.setIfInBounds_toArray, List.set_cons_zero, List.set_cons_succ, i64_w, i32_w]
        rfl
      refine pure_ (i := 11) (N := some 20) (v := ?_) (a' := ?_) #[true, true, true, true, false, true, true, true, false, true, true, true, false, false, false, false, false, false, false, false, false, false, false] rfl rfl (by kernel_rfl) (fun _ _ _ h => h) (Or.inl ⟨by rfl, ?_⟩) ?_ ?_
      rotate_left
      · intro w'
        go_simp
        with_reducible rfl
      rotate_left
      · simp only [Act.put, List.setIfInBounds_toArray, List.set_cons_zero, List.set_cons_succ, i64_w, i32_w]
        rfl
      refine pure_ (i := 14) (N := some 23) (v := ?_) (a' := ?_) #[true, true, true, true, false, true, true, true, false, true, true, true, false, false, true, false, false, false, false, false, false, false, false] rfl rfl (by kernel_rfl) (fun _ _ _ h => h) (Or.inl ⟨by rfl, ?_⟩) ?_ ?_
      rotate_left
      · intro w'
        go_simp
        with_reducible rfl
      rotate_left
      · simp only [Act.put, List.setIfInBounds_toArray, List.set_cons_zero, List.set_cons_succ, i64_w, i32_w]
        rfl
      refine take_ (i := 4) (N := some 13) (v := ?_) (a' := ?_) #[true, true, true, true, true, true, true, true, false, true, true, true, false, false, true, false, false, false, false, false, false, false, false] rfl rfl (by kernel_rfl) (fun _ _ _ h => h) (Or.inl ⟨by rfl, ?_⟩) hHeld ?_ ?_
      rotate_left
      · rintro w' ⟨s0, s1⟩
        go_simp
        with_reducible rfl
      rotate_left
      · simp only [Act.put, List.setIfInBounds_toArray, List.set_cons_zero, List.set_cons_succ, i64_w, i32_w]
        rfl
      refine take_ (i := 8) (N := some 17) (v := ?_) (a' := ?_) #[true, true, true, true, true, true, true, true, true, true, true, true, false, false, true, false, false, false, false, false, false, false, false] rfl rfl (by kernel_rfl) (fun _ _ _ h => h) (Or.inl ⟨by rfl, ?_⟩) hHeld ?_ ?_
      rotate_left
      · rintro w' ⟨s0, s1⟩
        go_simp
        with_reducible rfl
      rotate_left
      · simp only [Act.put, List.setIfInBounds_toArray, List.set_cons_zero, List.set_cons_succ, i64_w, i32_w]
        rfl
      refine take_ (i := 12) (N := some 21) (v := ?_) (a' := ?_) #[true, true, true, true, true, true, true, true, true, true, true, true, true, false, true, false, false, false, false, false, false, false, false] rfl rfl (by kernel_rfl) (fun _ _ _ h => h) (Or.inl ⟨by rfl, ?_⟩) hHeld ?_ ?_
      rotate_left
      · rintro w' ⟨s0, s1⟩
        go_simp
        with_reducible rfl
      rotate_left
      · simp only [Act.put, List.setIfInBounds_toArray, List.set_cons_zero, List.set_cons_succ, i64_w, i32_w]
        rfl
      refine pure_ (i := 13) (N := some 22) (v := ?_) (a' := ?_) #[true, true, true, true, true, true, true, true, true, true, true, true, true, true, true, false, false, false, false, false, false, false, false] rfl rfl (by kernel_rfl) (fun _ _ _ h => h) (Or.inl ⟨by rfl, ?_⟩) ?_ ?_
      rotate_left
      · intro w'
        go_simp
        with_reducible rfl
      rotate_left
      · simp only [Act.put, List.setIfInBounds_toArray, List.set_cons_zero, List.set_cons_succ, i64_w, i32_w]
        rfl
      refine pure_ (i := 15) (N := some 24) (v := ?_) (a' := ?_) #[true, true, true, true, true, true, true, true, true, true, true, true, true, true, true, true, false, false, false, false, false, false, false] rfl rfl (by kernel_rfl) (fun _ _ _ h => h) (Or.inl ⟨by rfl, ?_⟩) ?_ ?_
      rotate_left
      · intro w'
        go_simp
        with_reducible rfl
      rotate_left
      · simp only [Act.put, List.setIfInBounds_toArray, List.set_cons_zero, List.set_cons_succ, i64_w, i32_w]
        rfl
      refine pure_ (i := 16) (N := some 25) (v := ?_) (a' := ?_) #[true, true, true, true, true, true, true, true, true, true, true, true, true, true, true, true, true, false, false, false, false, false, false] rfl rfl (by kernel_rfl) (fun _ _ _ h => h) (Or.inl ⟨by rfl, ?_⟩) ?_ ?_
      rotate_left
      · intro w'
        go_simp
        with_reducible rfl
      rotate_left
      · simp only [Act.put, List.setIfInBounds_toArray, List.set_cons_zero, List.set_cons_succ, i64_w, i32_w]
        rfl
      refine take_ (i := 17) (N := some 26) (v := ?_) (a' := ?_) #[true, true, true, true, true, true, true, true, true, true, true, true, true, true, true, true, true, true, false, false, false, false, false] rfl rfl (by kernel_rfl) (fun _ _ _ h => h) (Or.inl ⟨by rfl, ?_⟩) hHeld ?_ ?_
      rotate_left
      · rintro w' ⟨s0, s1⟩
        go_simp
        with_reducible rfl
      rotate_left
      · simp only [Act.put, List.setIfInBounds_toArray, List.set_cons_zero, List.set_cons_succ, i64_w, i32_w]
        rfl
      refine one_ (i := 18) (N := some 27) #[true, true, true, true, true, true, true, true, true, true, true, true, true, true, true, true, true, true, true, false, false, false, false] rfl rfl (by kernel_rfl) (by decide) (fun K hK => ?_)
      refine value_ (w1 := ?_) (v := ?_) (by rfl) rfl ?_ ?_
      rotate_left 2
      · go_simp
        constructor
        · rfl
        · rfl
      have HO3 := Aside0.mk (show (wd.alloc (.cells #[.int .u8 y] 5)).ownsRow B 5 1 (.slice (some ad) L.length c) L.length (nums .u8 L) from own_fr (Fr.alloc _ (fun _ => True)) HPd.out.o (fun _ _ => trivial))
      have HD3 := Aside0.mk (show IsP (wd.alloc (.cells #[.int .u8 y] 5)) g (.slice (some ad) L.length c) b m from (Fr.alloc _ (fun _ => True)).heap HPd.out.d trivial)
      have HR3 := Aside0.mk (reads_one wd y)
      have HF3 := Aside0.mk (Fr.alloc (w := wd) (.cells #[.int .u8 y] 5) (fun _ => True))
      have hx1 := pw_cell_below (below_alloc (Below.refl _ _) (.cells #[.int .u8 y] 5)) x1'
      generalize wd.alloc (.cells #[.int .u8 y] 5) = w3 at HO3 HD3 HR3 HF3 hx1 ⊢
      refine hK.out _ _ ⟨(HD3.out.at 0 _ rfl).1, hx1⟩ (fun hHeld => ?_)
      clear hK K
      refine norm_ (a' := ?_) ?_ ?_
      rotate_left
      · show Act.put _ (some 27) _ = _
        simp only [Act.put, List.setIfInBounds_toArray, List.set_cons_zero, List.set_cons_succ, i64_w, i32_w]
        rfl
      refine last_ (i := 19) (N := some 28) #[true, true, true, true, true, true, true, true, true, true, true, true, true, true, true, true, true, true, true, true, false, false, false] rfl rfl (by kernel_rfl) (by decide) (fun K hK => ?_)
      refine app_step (w0 := w3) B (by rfl) (.tmp 13) (.tmp 27) 22 5 .u8 1 rfl Try.underlying22 info5 (by decide) _ L [y] _ 1 1 rfl rfl HO3.out HR3.out (Below.refl _ _) (Nat.le_trans HBd.out HF3.out.size) (by omega) ?_
      intro v4 w4 hO hBl hG hA
      obtain ⟨L4, eL4⟩ : ∃ L4, L4 = L ++ [y] := ⟨_, rfl⟩
      rw [← eL4] at hO
      have HL4 := Aside0.mk eL4
      clear eL4
      obtain ⟨A4, c4, rfl, hr4, hc4⟩ := own_reads' hO
      have HO4 := Aside0.mk hO
      have HD4 := Aside0.mk (show IsP w4 g (.slice (some ad) L.length c) b m from blk_grown HD3.out hG (own_ne HO3.out HD3.out (by decide)))
      have HG4 := Aside0.mk hG
      have HA4 := Aside0.mk hA
      have x4 := (HD4.out.at 0 _ rfl).1
      have z4 := blk_frozen HD4.out 0
      clear hO hBl hG hA hr4 hc4
      refine hK.out _ _ ?_
      clear hK K
      refine norm_ (a' := ?_) ?_ ?_
      rotate_left
      · show Act.put _ (some 28) _ = _
        simp only [Act.put, List.setIfInBounds_toArray, List.set_cons_zero, List.set_cons_succ, i64_w, i32_w]
        rfl
      refine pure_ (i := 20) (N := some 29) (v := ?_) (a' := ?_) #[true, true, true, true, true, true, true, true, true, true, true, true, true, true, true, true, true, true, true, true, true, false, false] rfl rfl (by kernel_rfl) (fun _ _ _ h => h) (Or.inl ⟨by rfl, ?_⟩) ?_ ?_
      rotate_left
      · intro w'
        go_simp
        with_reducible rfl
      rotate_left
      · simp only [Act.put, List.setIfInBounds_toArray, List.set_cons_zero, List.set_cons_succ, i64_w, i32_w]
        rfl
      refine pure_ (i := 21) (N := some 30) (v := ?_) (a' := ?_) #[true, true, true, true, true, true, true, true, true, true, true, true, true, true, true, true, true, true, true, true, true, true, false] rfl rfl (by kernel_rfl) (fun _ _ _ h => h) (Or.inl ⟨by rfl, ?_⟩) ?_ ?_
      rotate_left
      · intro w'
        go_simp
        with_reducible rfl
      rotate_left
      · simp only [Act.put, List.setIfInBounds_toArray, List.set_cons_zero, List.set_cons_succ, i64_w, i32_w]
        rfl
      refine last_ (i := 22) (N := none) #[true, true, true, true, true, true, true, true, true, true, true, true, true, true, true, true, true, true, true, true, true, true, true] rfl rfl (by kernel_rfl) (by decide) (fun K hK => ?_)
      refine skip_ (w1 := ?_) (by rfl) rfl ?_ ?_
      rotate_left
      · go_simp
        rfl
      refine hK.out _ _ ?_
      clear hK K
      refine done_ (by kernel_rfl) ?_
      go_wp2
      go_roundg k1
      case measure => omega
      case rel =>
        refine ⟨j + 1, .slice A4 L4.length c4, by omega, by simp, ⟨?_⟩, ⟨?_⟩, ⟨?_⟩⟩
        · rw [HX.out, ← HL4.out]
          exact ⟨blk_set HD4.out 0 _, own_setCell (p := ⟨g, 0, none⟩) HO4.out (own_ne HO4.out (show w4.heap[g]? = some (.cells _ 105 (0, 0)) from HD4.out) (by decide)) _⟩
        · exact HM.out.trans (show Moved w3 (.slice (some ad) L.length c) _ from HA4.out) (Nat.le_trans HFd.out.size HF3.out.size)
        · have hG4 : w3.grownBy w4 (some ad.block) := HG4.out
          have f2 : Fr wd (w4.setCell ⟨g, 0, none⟩ (.slice A4 L4.length c4)) (fun i => i ≠ g ∧ some i ≠ some ad.block) :=
            (HF3.out.mono (fun _ _ _ => trivial)).then' ((Fr.of_grown hG4).mono (ok' := fun i => i ≠ g ∧ some i ≠ some ad.block) (fun _ _ h => h.2) |>.then' (Fr.set ⟨g, 0, none⟩ _) (fun i _ h => h.1)) (fun _ _ h => h)
          refine HFd.out.then' f2 (fun i hi hk => ⟨hk.1, fun e => ?_⟩)
          have hm : (Value.slice (some ad) L.length c).ownBlock = va.ownBlock ∨ ∃ b, (Value.slice (some ad) L.length c).ownBlock = some b ∧ w.heap.size ≤ b := HM.out
          have ho : (Value.slice (some ad) L.length c).ownBlock = some ad.block := rfl
          rcases hm with h | ⟨b, h, hb⟩
          · exact hk.2 (e.trans (ho.symm.trans h))
          · rw [ho] at h
            cases h
            cases e
            omega
end Go.Proofs.Ytnomebkdhjigjaa.W
/- Contracts of lz's newPlayer and plain, and of the reader's more. Conditions: lengths below 2^40, bytes are bytes. -/
namespace Go.Proofs.Ytnomebkdhjigjaa.W
open Go.RowKit Go.Proofs.YtnomebkdhjigjaaW.PrintWords Go.Proofs.YtnomebkdhjigjaaW.PrintLast Go.Proofs.YtnomebkdhjigjaaW.PrintMore
set_option linter.unusedVariables false
set_option linter.unusedSimpArgs false
def Byt (l : List Int) : Prop := ∀ i, 0 ≤ l.getD i 0 ∧ l.getD i 0 < 256
theorem Byt.drop {l : List Int} (h : Byt l) (k : Nat) : Byt (l.drop k) := fun i => by
  have e : (l.drop k).getD i 0 = l.getD (k + i) 0 := by simp [List.getD_eq_getElem?_getD, List.getElem?_drop]
  rw [e]
  exact h _
set_option maxRecDepth 100000 in
theorem plain_calls (g B : Nat) (all : List Int) (va : Value) (b : Nat) (m : Int) (w : World) (h : Pl w B g all va b m) (hb : b ≤ all.length) (hl : all.length ≤ 140737488355327) :
    Calls Try.prog 74 #[.pointer (some ⟨g, 0, none⟩)] w fun e w' => ∃ A c, e = .returned (.slice A (all.drop b).length c) ∧ w'.ownsRow w.heap.size 5 1 (.slice A (all.drop b).length c) (all.drop b).length (nums .u8 (all.drop b)) ∧ Below w.heap.size w w' := by
  obtain ⟨A, c, rfl, hr, hc⟩ := own_reads' h.o
  have x0 := (h.d.at 0 _ rfl).1
  have x1 := (h.d.at 1 _ rfl).1
  obtain ⟨i05, hi05, _, hsz5, _⟩ := info_parts info5
  obtain ⟨A1, hcut, hA1⟩ := print_cut (P := Try.prog) 22 5 .i64 Try.underlying22 hi05 hsz5 A all.length c b hb
  obtain ⟨L, eL⟩ : ∃ L, L = all.drop b := ⟨_, rfl⟩
  have eLl : all.length - b = L.length := by rw [eL, List.length_drop]
  have hr1 := hA1 w .u8 all hc hr
  rw [eLl, ← eL] at hr1
  rw [eLl] at hcut
  rw [← eL]
  have hcut' : ∀ W : World, (Instr.slice 22 (.slice A all.length c) (some (.int .i64 (b : Int))) none none).run Try.prog W = .ok (.slice A1 L.length (c - b)) W := hcut
  have HL := Aside0.mk (show L.length ≤ 140737488355327 by omega)
  have HR1 := Aside0.mk hr1
  clear h hr hc hA1 eL eLl hcut hi05 hsz5 hr1
  go_enter Try.func74, Try.ntmps74
  go_upto_region 1 with fail
  have x0' : w.drew.cell? ⟨g, 0, none⟩ = some (.slice A all.length c) := x0
  have x1' : w.drew.cell? ⟨g, 1, none⟩ = some (.int .i64 b) := x1
  have HR1d := Aside0.mk (show ReadsInt w.drew .u8 A1 L.length L from HR1.out)
  have HBd := Aside0.mk (show Below w.heap.size w w.drew from (Below.refl _ _).drew)
  refine start_ (n := 11) (S := fun w' => w'.cell? ⟨g, 0, none⟩ = some (.slice A all.length c) ∧ w'.cell? ⟨g, 1, none⟩ = some (.int .i64 b)) (ds := [9]) #[false, false, false, false, false, false, false, false, false, false, false] (by kernel_rfl) rfl rfl ⟨x0', x1'⟩ (fun hHeld => ?_)
  generalize w.drew = wd at x0' x1' HR1d HBd hHeld ⊢
  refine pure_ (i := 0) (N := some 3) (v := ?_) (a' := ?_) #[true, false, false, false, false, false, false, false, false, false, false] rfl rfl (by kernel_rfl) (fun _ _ _ h => h) (Or.inl ⟨by rfl, ?_⟩) ?_ ?_
  rotate_left
  · intro w'
    go_simp
    with_reducible rfl
  rotate_left
  · simp only [Act.put, List.setIfInBounds_toArray, List.set_cons_zero, List.set_cons_succ, i64_w, i32_w]
    rfl
  refine pure_ (i := 1) (N := some 4) (v := ?_) (a' := ?_) #[true, true, false, false, false, false, false, false, false, false, false] rfl rfl (by kernel_rfl) (fun _ _ _ h => h) (Or.inl ⟨by rfl, ?_⟩) ?_ ?_
  rotate_left
  · intro w'
    go_simp
    with_reducible rfl
  rotate_left
  · simp only [Act.put, List.setIfInBounds_toArray, List.set_cons_zero, List.set_cons_succ, i64_w, i32_w]
    rfl
  refine pure_ (i := 2) (N := some 5) (v := ?_) (a' := ?_) #[true, true, true, false, false, false, false, false, false, false, false] rfl rfl (by kernel_rfl) (fun _ _ _ h => h) (Or.inl ⟨by rfl, ?_⟩) ?_ ?_
  rotate_left
  · intro w'
    go_simp
    with_reducible rfl
  rotate_left
  · simp only [Act.put, List.setIfInBounds_toArray, List.set_cons_zero, List.set_cons_succ, i64_w, i32_w]
    rfl
  refine pure_ (i := 4) (N := some 7) (v := ?_) (a' := ?_) #[true, true, true, false, true, false, false, false, false, false, false] rfl rfl (by kernel_rfl) (fun _ _ _ h => h) (Or.inl ⟨by rfl, ?_⟩) ?_ ?_
  rotate_left
  · intro w'
    go_simp
    with_reducible rfl
  rotate_left
  · simp only [Act.put, List.setIfInBounds_toArray, List.set_cons_zero, List.set_cons_succ, i64_w, i32_w]
    rfl
  refine pure_ (i := 5) (N := some 8) (v := ?_) (a' := ?_) #[true, true, true, false, true, true, false, false, false, false, false] rfl rfl (by kernel_rfl) (fun _ _ _ h => h) (Or.inl ⟨by rfl, ?_⟩) ?_ ?_
  rotate_left
  · intro w'
    go_simp
    with_reducible rfl
  rotate_left
  · simp only [Act.put, List.setIfInBounds_toArray, List.set_cons_zero, List.set_cons_succ, i64_w, i32_w]
    rfl
  refine pure_ (i := 6) (N := some 9) (v := ?_) (a' := ?_) #[true, true, true, false, true, true, true, false, false, false, false] rfl rfl (by kernel_rfl) (fun _ _ _ h => h) (Or.inl ⟨by rfl, ?_⟩) ?_ ?_
  rotate_left
  · intro w'
    go_simp
    with_reducible rfl
  rotate_left
  · simp only [Act.put, List.setIfInBounds_toArray, List.set_cons_zero, List.set_cons_succ, i64_w, i32_w]
    rfl
  refine take_ (i := 3) (N := some 6) (v := ?_) (a' := ?_) #[true, true, true, true, true, true, true, false, false, false, false] rfl rfl (by kernel_rfl) (fun _ _ _ h => h) (Or.inl ⟨by rfl, ?_⟩) hHeld ?_ ?_
  rotate_left
  · rintro w' ⟨s0, s1⟩
    go_simp
    with_reducible rfl
  rotate_left
  · simp only [Act.put, List.setIfInBounds_toArray, List.set_cons_zero, List.set_cons_succ, i64_w, i32_w]
    rfl
  refine take_ (i := 7) (N := some 10) (v := ?_) (a' := ?_) #[true, true, true, true, true, true, true, true, false, false, false] rfl rfl (by kernel_rfl) (fun _ _ _ h => h) (Or.inl ⟨by rfl, ?_⟩) hHeld ?_ ?_
  rotate_left
  · rintro w' ⟨s0, s1⟩
    go_simp
    with_reducible rfl
  rotate_left
  · simp only [Act.put, List.setIfInBounds_toArray, List.set_cons_zero, List.set_cons_succ, i64_w, i32_w]
    rfl
  refine pure_ (i := 8) (N := some 11) (v := ?_) (a' := ?_) #[true, true, true, true, true, true, true, true, true, false, false] rfl rfl (by kernel_rfl) (fun _ _ _ h => h) (Or.inl ⟨by rfl, ?_⟩) ?_ ?_
  rotate_left
  · intro w'
    go_simp
    with_reducible rfl
  rotate_left
  · simp only [Act.put, List.setIfInBounds_toArray, List.set_cons_zero, List.set_cons_succ, i64_w, i32_w]
    rfl
  refine last_ (i := 9) (N := some 12) #[true, true, true, true, true, true, true, true, true, true, false] rfl rfl (by kernel_rfl) (by decide) (fun K hK => ?_)
  refine goes_ Try.func52 (by kernel_rfl) rfl #[.slice A1 L.length (c - b)] (by rfl) rfl rfl (by simp only [List.map_toArray, List.map_cons, List.map_nil]; rfl) ?_
  with_reducible refine (clone_any A1 (c - b) L wd HR1d.out HL.out).mono ?_
  rintro e w5 ⟨A5, c5, rfl, ho5, hb5⟩
  refine ⟨_, rfl, ?_⟩
  have HO5 := Aside0.mk ho5
  have HB5 := Aside0.mk hb5
  clear ho5 hb5
  refine hK.out _ _ ?_
  clear hK K
  refine norm_ (a' := ?_) ?_ ?_
  rotate_left
  · show Act.put _ (some 12) _ = _
    simp only [Act.put, List.setIfInBounds_toArray, List.set_cons_zero, List.set_cons_succ, i64_w, i32_w]
    rfl
  refine pure_ (i := 10) (N := some 2) (v := ?_) (a' := ?_) #[true, true, true, true, true, true, true, true, true, true, true] rfl rfl (by kernel_rfl) (fun _ _ _ h => h) (Or.inl ⟨by rfl, ?_⟩) ?_ ?_
  rotate_left
  · intro w'
    go_simp
    with_reducible rfl
  rotate_left
  · simp only [Act.put, List.setIfInBounds_toArray, List.set_cons_zero, List.set_cons_succ, i64_w, i32_w]
    rfl
  refine done_ (by kernel_rfl) ?_
  go_wp2
  go_ret
  exact ⟨A5, c5, rfl, own_lower HO5.out HBd.out.size, HBd.out.trans (HB5.out.mono HBd.out.size)⟩
/-- What of the bytes ahead counts. -/
def window (l : List Int) : List Int := if 65536 ≤ l.length then l.drop (l.length - 65535) else l
theorem window_len (l : List Int) : (window l).length ≤ 65535 ∧ (window l).length ≤ l.length := by
  unfold window
  split
  · rw [List.length_drop]; omega
  · omega
set_option maxHeartbeats 1000000 in
theorem newPlayer_calls (A : Option Addr) (c : Nat) (l : List Int) (m : Int) (w : World) (hr : ReadsInt w .u8 A l.length l) (hc : l.length ≤ c) (hl : l.length ≤ 140737488355327) :
    Calls Try.prog 70 #[.slice A l.length c, .int .i64 m] w fun e w' => ∃ g va, e = .returned (.pointer (some ⟨g, 0, none⟩)) ∧ w.heap.size ≤ g ∧ Pl w' w.heap.size g (window l) va (window l).length m ∧ Below w.heap.size w w' := by
  by_cases h : 65536 ≤ l.length
  · obtain ⟨i05, hi05, _, hsz5, _⟩ := info_parts info5
    obtain ⟨A1, hcut, hA1⟩ := print_cut (P := Try.prog) 22 5 .i64 Try.underlying22 hi05 hsz5 A l.length c (l.length - 65535) (by omega)
    have hr1 := hA1 w .u8 l hc hr
    have ew : window l = l.drop (l.length - 65535) := if_pos h
    have eL : l.length - (l.length - 65535) = (window l).length := by rw [ew, List.length_drop]
    rw [← ew, eL] at hr1
    rw [eL] at hcut
    obtain ⟨q, hq⟩ : ∃ q : Nat, q = l.length - 65535 := ⟨_, rfl⟩
    rw [← hq] at hcut
    have hL := (window_len l).1
    obtain ⟨L, hLw⟩ : ∃ L, L = window l := ⟨_, rfl⟩
    rw [← hLw] at hr1 hcut hL ⊢
    have e1 : (l.length : Int) - 65536 + 1 = (q : Int) := by omega
    have e2 : wrap64 ((l.length : Int) - 65536) = (l.length : Int) - 65536 := IntWalk.wrap64_in _ (by omega)
    have e3 : wrap64 ((l.length : Int) - 65536 + 1) = (q : Int) := by rw [e1]; exact IntWalk.wrap64_in _ (by omega)
    have hge : (l.length : Int) ≥ 65536 := by omega
    have hcut' : ∀ W : World, (Instr.slice 22 (.slice A l.length c) (some (.int .i64 (q : Int))) none none).run Try.prog W = .ok (.slice A1 L.length (c - q)) W := hcut
    have HC := Aside0.mk (clone_any A1 (c - q) L w hr1 (by omega))
    clear hr hA1 hi05 hsz5 hr1 ew eL hq hLw hcut hc hl h
    have HE1 := Aside0.mk e1
    clear e1
    go_enter Try.func70, Try.ntmps70
    go_wp2_with (first | (go_at_call 52; refine HC.out.mono ?_; rintro e w1 ⟨A5, c5, rfl, ho, hb⟩; have HO := Aside0.mk ho; have HB := Aside0.mk hb; clear ho hb))
    go_ret
    exact ⟨w1.heap.size, .slice A5 L.length c5, rfl, HB.out.size, ⟨heap_alloc_new w1 _, own_fr (Fr.alloc _ (fun _ => True)) HO.out (fun _ _ => trivial)⟩, below_alloc HB.out _⟩
  · have ew : window l = l := if_neg h
    rw [ew]
    have HC := Aside0.mk (clone_any A c l w hr hl)
    have hlt : ¬ (l.length : Int) ≥ 65536 := by omega
    clear hr hc hl h ew
    go_enter Try.func70, Try.ntmps70
    go_wp2_with (first | (go_at_call 52; refine HC.out.mono ?_; rintro e w1 ⟨A5, c5, rfl, ho, hb⟩; have HO := Aside0.mk ho; have HB := Aside0.mk hb; clear ho hb))
    go_ret
    exact ⟨w1.heap.size, .slice A5 l.length c5, rfl, HB.out.size, ⟨heap_alloc_new w1 _, own_fr (Fr.alloc _ (fun _ => True)) HO.out (fun _ _ => trivial)⟩, below_alloc HB.out _⟩
/-- The reader. -/
def IsRd (w : World) (g : Nat) (A : Option Addr) (n c : Nat) (k : Int) : Prop := w.heap[g]? = some (.cells #[.slice A n c, .int .i64 k] 125 (0, 0))
theorem IsRd.at {w : World} {g n c : Nat} {A : Option Addr} {k : Int} (h : IsRd w g A n c k) (i : Nat) (u : Value) (hu : (#[.slice A n c, .int .i64 k] : Array Value)[i]? = some u) : w.cell? ⟨g, i, none⟩ = some u ∧ w.frozen? ⟨g, i, none⟩ = false :=
  ⟨(cell_of_row w g i _ 125 (0, 0) h).trans hu, blk_frozen h i⟩
/-- Bytes of a number beyond its half: their sum and how many; none: they end too soon. -/
def ext : List Int → Option (Int × Nat)
  | [] => none
  | x :: r => if x < 255 then some (x, 1) else match ext r with
    | none => none
    | some (s, k) => some (x + s, k + 1)
/-- A number at a place: what it is and where it ends. -/
def num (b : List Int) (n : Int) (k : Nat) : Option (Int × Nat) := if n < 15 then some (n, k) else match ext (b.drop k) with
  | none => none
  | some (s, j) => some (n + s, k + j)
theorem ext_len : ∀ (l : List Int) (s : Int) (k : Nat), ext l = some (s, k) → 1 ≤ k ∧ k ≤ l.length := by
  intro l
  induction l with
  | nil => intro s k h; cases h
  | cons x r ih =>
    intro s k h
    rw [ext] at h
    by_cases c : x < 255
    · rw [if_pos c] at h
      cases h
      simp
    · rw [if_neg c] at h
      cases e : ext r with
      | none => rw [e] at h; cases h
      | some p =>
        obtain ⟨s', k'⟩ := p
        rw [e] at h
        cases h
        have := ih s' k' e
        simp only [List.length_cons]
        omega
theorem ext_bound : ∀ (l : List Int) (s : Int) (k : Nat), Byt l → ext l = some (s, k) → 0 ≤ s ∧ s ≤ 255 * (k : Int) := by
  intro l
  induction l with
  | nil => intro s k _ h; cases h
  | cons x r ih =>
    intro s k hb h
    have h0 := hb 0
    simp at h0
    rw [ext] at h
    by_cases c : x < 255
    · rw [if_pos c] at h
      cases h
      omega
    · rw [if_neg c] at h
      cases e : ext r with
      | none => rw [e] at h; cases h
      | some p =>
        obtain ⟨s', k'⟩ := p
        rw [e] at h
        cases h
        have := ih s' k' (hb.drop 1) e
        omega
theorem num_bound {b : List Int} {n : Int} {k : Nat} {s : Int} {j : Nat} (hb : Byt b) (h0 : 0 ≤ n) (h1 : n ≤ 15) (hk : k ≤ b.length) (h : num b n k = some (s, j)) : k ≤ j ∧ j ≤ b.length ∧ 0 ≤ s ∧ s ≤ 15 + 255 * (b.length : Int) := by
  unfold num at h
  by_cases c : n < 15
  · rw [if_pos c] at h
    cases h
    omega
  · rw [if_neg c] at h
    cases e : ext (b.drop k) with
    | none => rw [e] at h; cases h
    | some p =>
      obtain ⟨s', k'⟩ := p
      rw [e] at h
      cases h
      have a := ext_len _ _ _ e
      have d := ext_bound _ _ _ (hb.drop k) e
      rw [List.length_drop] at a
      omega
/-- What more answers. -/
def moreV (b : List Int) (n : Int) (k : Nat) : Value := match num b n k with
  | none => .tuple #[.int .i64 0, .int .i64 4]
  | some (s, _) => .tuple #[.int .i64 s, .int .i64 0]
def moreK (b : List Int) (n : Int) (k : Nat) : Nat := match num b n k with
  | none => b.length
  | some (_, j) => j
/-- The same, from the place on, n so far. -/
def extV (b : List Int) (n : Int) (p : Nat) : Value := match ext (b.drop p) with
  | none => .tuple #[.int .i64 0, .int .i64 4]
  | some (s, _) => .tuple #[.int .i64 (n + s), .int .i64 0]
def extK (b : List Int) (p : Nat) : Nat := match ext (b.drop p) with
  | none => b.length
  | some (_, j) => p + j
theorem moreV_ext (b : List Int) (n : Int) (k : Nat) (h : ¬ n < 15) : moreV b n k = extV b n k ∧ moreK b n k = extK b k := by
  unfold moreV moreK num extV extK
  rw [if_neg h]
  cases ext (b.drop k) <;> exact ⟨rfl, rfl⟩
theorem ext_end (b : List Int) (n : Int) : extV b n b.length = .tuple #[.int .i64 0, .int .i64 4] ∧ extK b b.length = b.length := by
  unfold extV extK
  rw [List.drop_length]
  exact ⟨rfl, rfl⟩
theorem ext_last (b : List Int) (n : Int) (p : Nat) (hp : p < b.length) (h : b.getD p 0 < 255) : extV b n p = .tuple #[.int .i64 (n + b.getD p 0), .int .i64 0] ∧ extK b p = p + 1 := by
  have hd : b.drop p = b.getD p 0 :: b.drop (p + 1) := by
    rw [List.getD_eq_getElem?_getD, List.getElem?_eq_getElem hp]
    exact List.drop_eq_getElem_cons hp
  unfold extV extK
  rw [hd, ext, if_pos h]
  exact ⟨rfl, rfl⟩
theorem ext_more (b : List Int) (n : Int) (p : Nat) (hp : p < b.length) (h : ¬ b.getD p 0 < 255) : extV b n p = extV b (n + b.getD p 0) (p + 1) ∧ extK b p = extK b (p + 1) := by
  have hd : b.drop p = b.getD p 0 :: b.drop (p + 1) := by
    rw [List.getD_eq_getElem?_getD, List.getElem?_eq_getElem hp]
    exact List.drop_eq_getElem_cons hp
  unfold extV extK
  rw [hd, ext, if_neg h]
  cases ext (b.drop (p + 1)) with
  | none => exact ⟨rfl, rfl⟩
  | some q => simp only [Int.add_assoc, Nat.add_assoc, Nat.add_comm, true_and]; omega
set_option maxHeartbeats 4000000 in
set_option maxRecDepth 100000 in
theorem more_calls (g : Nat) (A : Option Addr) (c : Nat) (b : List Int) (n : Int) (k : Nat) (w : World) (h : IsRd w g A b.length c k) (hr : ReadsInt w .u8 A b.length b) (hag : ∀ ad, A = some ad → 0 < b.length → ad.block ≠ g) (hb : Byt b) (hk : k ≤ b.length) (hl : b.length ≤ 140737488355327) (h0 : 0 ≤ n) (h1 : n ≤ 15) :
    Calls Try.prog 90 #[.pointer (some ⟨g, 0, none⟩), .int .i64 n] w fun e w' => e = .returned (moreV b n k) ∧ IsRd w' g A b.length c (moreK b n k) ∧ Fr w w' (fun i => i ≠ g) := by
  by_cases hn : n < 15
  · have e1 : moreV b n k = .tuple #[.int .i64 n, .int .i64 0] := by unfold moreV num; rw [if_pos hn]
    have e2 : moreK b n k = k := by unfold moreK num; rw [if_pos hn]
    rw [e1, e2]
    have H := Aside0.mk h
    clear h hr hag
    go_enter Try.func90, Try.ntmps90
    go_wp2
    go_ret2
    exact ⟨rfl, H.out, Fr.refl _ _⟩
  · obtain ⟨V, eV⟩ : ∃ V, V = moreV b n k := ⟨_, rfl⟩
    obtain ⟨K, eK⟩ : ∃ K, K = moreK b n k := ⟨_, rfl⟩
    have hV : V = extV b n (k + 0) := by rw [eV]; exact (moreV_ext b n k hn).1
    have hK : K = extK b (k + 0) := by rw [eK]; exact (moreV_ext b n k hn).2
    rw [← eV, ← eK]
    have HV := Aside0.mk hV
    have HK := Aside0.mk hK
    have H := Aside0.mk h
    have HR := Aside0.mk hr
    clear h hV hK eV eK hr
    go_enter Try.func90, Try.ntmps90
    go_wp2_with fail
    go_loopg [1] (b.length - k + 1) (fun kq v1 wc => ∃ (j : Nat) (s : Int), kq + j = b.length - k + 1 ∧ k + j ≤ b.length ∧ v1 = .int .i64 s ∧ (0 ≤ s ∧ s ≤ 15 + 255 * (j : Int)) ∧ Aside0 (V = extV b s (k + j)) ∧ Aside0 (K = extK b (k + j)) ∧ Aside0 (IsRd wc g A b.length c ((k + j : Nat) : Int)) ∧ Aside0 (Fr w wc (fun i => i ≠ g)))
    case atStart => exact ⟨0, n, by omega, by omega, rfl, ⟨h0, by omega⟩, HV, HK, H, ⟨Fr.refl _ _⟩⟩
    case round =>
      clear HV HK H
      obtain ⟨j, s, hkk, hjl, rfl, hs, HV, HK, HI, HF⟩ := hrel
      obtain ⟨p, hp⟩ : ∃ p, p = k + j := ⟨_, rfl⟩
      rw [← hp] at HV HK HI hjl
      have x0 := (HI.out.at 0 _ rfl).1
      have x1 := (HI.out.at 1 _ rfl).1
      have z1 := blk_frozen HI.out 1
      by_cases hend : p = b.length
      · have eV := Aside0.mk (show V = .tuple #[.int .i64 0, .int .i64 4] by rw [HV.out, hend]; exact (ext_end b s).1)
        have eK := Aside0.mk (show K = b.length by rw [HK.out, hend]; exact (ext_end b s).2)
        have hpe : (p : Int) = (b.length : Int) := by omega
        rw [hpe] at x1
        have HE := Aside0.mk (show IsRd wr g A b.length c (b.length : Int) by rw [← hpe]; exact HI.out)
        clear hpe hend hp
        go_wp2
        go_quiet (fail)
        go_wp2
        go_ret2
        rw [eV.out, eK.out]
        exact ⟨rfl, HE.out, HF.out.then (Fr.drewN _ _)⟩
      · have hpl : p < b.length := by omega
        have hne : ¬ ((p : Int) = (b.length : Int)) := by omega
        obtain ⟨ad, rfl, hc0⟩ := HR.out.2.2 (by omega)
        have hb0 : 0 < b.length := by omega
        have hag' : (ad.add p).block ≠ g := by rw [add_block]; exact hag ad rfl hb0
        have hx : wr.cell? (ad.add p) = some (.int .u8 (b.getD p 0)) := HF.out.cell (hc0 p hpl) hag'
        obtain ⟨y, hy⟩ : ∃ y, y = b.getD p 0 := ⟨_, rfl⟩
        rw [← hy] at hx
        have hyb := hb p
        rw [← hy] at hyb
        have hsy : -9223372036854775808 ≤ s + y ∧ s + y ≤ 9223372036854775807 := by
          obtain ⟨s0, s1⟩ := hs
          obtain ⟨y0, y1⟩ := hyb
          clear hag hk h0 h1 hn hkk hne hb0 HV HK HI HF
          omega
        have hp1 : (p : Int) < (b.length : Int) := by omega
        have hp0 : (0 : Int) ≤ (p : Int) := by omega
        cases gk with
        | zero => omega
        | succ k1 =>
          have hk1 : k1 + (j + 1) = b.length - k + 1 := by omega
          have hpj : p + 1 = k + (j + 1) := by omega
          have hs2 : 0 ≤ s + y ∧ s + y ≤ 15 + 255 * ((j + 1 : Nat) : Int) := by omega
          have HJ := Aside0.mk hpj
          have HY := Aside0.mk hy
          clear hp hy hkk hpj
          by_cases hy2 : y < 255
          · have eL := Aside0.mk (ext_last b s p hpl (by rw [← HY.out]; exact hy2))
            go_wp2
            go_quiet (fail)
            go_wp2
            go_quiet (fail)
            go_wp2
            go_ret2
            rw [HV.out, HK.out, eL.out.1, eL.out.2, ← HY.out]
            exact ⟨rfl, by rw [show ((p + 1 : Nat) : Int) = (p : Int) + 1 by omega]; exact blk_set (w := wr.drewN _) HI.out 1 _, HF.out.then ((Fr.drewN _ _).then (Fr.set ⟨g, 1, none⟩ _))⟩
          · go_wp2
            go_quiet (fail)
            go_wp2
            go_quiet (fail)
            go_wp2
            go_roundg k1
            case measure => omega
            case rel =>
              refine ⟨j + 1, s + y, hk1, by have := HJ.out; omega, rfl, hs2, ⟨?_⟩, ⟨?_⟩, ⟨?_⟩, ⟨?_⟩⟩
              · rw [HV.out, ← HJ.out, HY.out]
                exact (ext_more b s p hpl (by rw [← HY.out]; omega)).1
              · rw [HK.out, ← HJ.out]
                exact (ext_more b s p hpl (by rw [← HY.out]; omega)).2
              · rw [← HJ.out]
                rw [show ((p + 1 : Nat) : Int) = (p : Int) + 1 by omega]
                exact blk_set (w := wr.drewN _) HI.out 1 _
              · exact HF.out.then ((Fr.drewN _ _).then (Fr.set ⟨g, 1, none⟩ _))
end Go.Proofs.Ytnomebkdhjigjaa.W
/- Bytes that are bytes; a row that is read, as the print says it. Plain facts of reading. -/
namespace Go.Proofs.Ytnomebkdhjigjaa.W
open Go.RowKit Go.Proofs.YtnomebkdhjigjaaW.PrintWords Go.Proofs.YtnomebkdhjigjaaW.PrintLast Go.Proofs.YtnomebkdhjigjaaW.PrintMore
set_option linter.unusedVariables false
set_option linter.unusedSimpArgs false
def bytesB (l : List Int) : Bool := l.all fun x => decide (0 ≤ x ∧ x < 256)
theorem byt_of (l : List Int) (h : bytesB l = true) : Byt l := fun i => by
  unfold bytesB at h
  rw [List.all_eq_true] at h
  rw [List.getD_eq_getElem?_getD]
  by_cases hi : i < l.length
  · have := h l[i] (List.getElem_mem hi)
    simpa [List.getElem?_eq_getElem hi] using this
  · rw [List.getElem?_eq_none (by omega)]
    exact ⟨by decide, by decide⟩
theorem bytesB_wf {l : List Int} (h : ∀ x ∈ l, (Lit.int .u8 x).wf = true) : bytesB l = true := by
  unfold bytesB
  rw [List.all_eq_true]
  intro x hx
  have := h x hx
  simp only [Lit.wf, show IntKind.u8.min = 0 from rfl, show IntKind.u8.max = 255 from rfl, Bool.and_eq_true, decide_eq_true_eq] at this
  simp
  omega
theorem reads_of_C {w : World} {A : Option Addr} {l : List Int} (h : Kd.C (Kd.int .u8) w A l.length l) : ReadsInt w .u8 A l.length l :=
  ⟨rfl, h.2.1, fun h0 => by
    obtain ⟨ad, e, hc⟩ := Kd.at_int h 0 (by omega) (by omega)
    refine ⟨ad, e, fun i hi => ?_⟩
    obtain ⟨ad', e', hc'⟩ := Kd.at_int h (i : Int) (by omega) (by omega)
    rw [e] at e'
    cases e'
    simpa [rd] using hc'⟩
theorem bytesB_of {l : List Int} (h : Byt l) : bytesB l = true := by
  unfold bytesB
  rw [List.all_eq_true]
  intro x hx
  obtain ⟨i, hi, rfl⟩ := List.mem_iff_getElem.1 hx
  have := h i
  rw [List.getD_eq_getElem?_getD, List.getElem?_eq_getElem hi] at this
  simpa using this
theorem rd_nat (b : List Int) (p : Nat) : rd b (p : Int) = b.getD p 0 := by simp [rd]
theorem ext_cons (b : List Int) (p : Nat) (hp : p < b.length) : b.drop p = b.getD p 0 :: b.drop (p + 1) := by
  rw [List.getD_eq_getElem?_getD, List.getElem?_eq_getElem hp]
  exact List.drop_eq_getElem_cons hp
/-- What room answers. -/
def roomE (all : List Int) (bg most n : Int) : Int := if n > most - ((all.length : Int) - bg) then 32 else 0
theorem drewN_fr {w w' : World} (h : ∃ k, w' = w.drewN k) (ok : Nat → Prop) : Fr w w' ok := by
  obtain ⟨k, rfl⟩ := h
  exact Fr.drewN _ _
theorem add_pos (ad : Addr) (i : Nat) (h : 0 < i) : ad.add i = ⟨ad.block, ad.off + i, none⟩ := by
  unfold Addr.add; split
  · omega
  · rfl
end Go.Proofs.Ytnomebkdhjigjaa.W
