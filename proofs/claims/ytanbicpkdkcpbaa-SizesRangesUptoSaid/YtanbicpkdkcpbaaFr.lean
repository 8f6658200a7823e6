/- Frames of worlds: what stays across calls; rows of one's own across them. -/
import Derived.Test.YtanbicpkdkcpbaaPSizesSumsx0
namespace Go.Proofs.Ytanbicpkdkcpbaa.W
open Go.RowKit Go.Proofs.YtanbicpkdkcpbaaW.PrintWords Go.Proofs.YtanbicpkdkcpbaaW.PrintLast Go.Proofs.YtanbicpkdkcpbaaW.PrintMore
set_option linter.unusedVariables false
set_option linter.unusedSimpArgs false
/-- Behind what happened, the world is as it was at the blocks that ok holds of. -/
structure Fr (w w' : World) (ok : Nat → Prop) : Prop where
  os : w'.os = w.os
  tape : w'.tape = w.tape
  output : w'.output = w.output
  size : w.heap.size ≤ w'.heap.size
  block : ∀ i, i < w.heap.size → ok i → w'.heap[i]? = w.heap[i]?
theorem Fr.refl (w : World) (ok : Nat → Prop) : Fr w w ok := ⟨rfl, rfl, rfl, Nat.le_refl _, fun _ _ _ => rfl⟩
theorem Fr.then {w w1 w2 : World} {ok : Nat → Prop} (h : Fr w w1 ok) (h' : Fr w1 w2 ok) : Fr w w2 ok :=
  ⟨h'.os.trans h.os, h'.tape.trans h.tape, h'.output.trans h.output, Nat.le_trans h.size h'.size, fun i hi ho => (h'.block i (Nat.lt_of_lt_of_le hi h.size) ho).trans (h.block i hi ho)⟩
theorem Fr.mono {w w1 : World} {ok ok' : Nat → Prop} (h : Fr w w1 ok) (hk : ∀ i, i < w.heap.size → ok' i → ok i) : Fr w w1 ok' := ⟨h.os, h.tape, h.output, h.size, fun i hi ho => h.block i hi (hk i hi ho)⟩
/-- The second step speaks of the blocks that stood ahead of the first alone. -/
theorem Fr.then' {w w1 w2 : World} {ok ok' : Nat → Prop} (h : Fr w w1 ok) (h' : Fr w1 w2 ok') (hk : ∀ i, i < w.heap.size → ok i → ok' i) : Fr w w2 ok :=
  ⟨h'.os.trans h.os, h'.tape.trans h.tape, h'.output.trans h.output, Nat.le_trans h.size h'.size, fun i hi ho => (h'.block i (Nat.lt_of_lt_of_le hi h.size) (hk i hi ho)).trans (h.block i hi ho)⟩
theorem Fr.of_grown {w w1 : World} {row : Option Nat} (h : w.grownBy w1 row) : Fr w w1 (fun i => some i ≠ row) := ⟨h.os, h.tape, h.output, h.size, fun i hi ho => h.block i hi ho⟩
theorem Fr.of_below {w w1 : World} (h : Below w.heap.size w w1) (ok : Nat → Prop) : Fr w w1 ok := ⟨h.os, h.tape, h.output, h.size, fun i hi _ => h.block i hi⟩
theorem Fr.below {w w1 : World} {ok : Nat → Prop} {B : Nat} (h : Fr w w1 ok) (hk : ∀ i, i < B → i < w.heap.size ∧ ok i) : Below B w w1 := ⟨h.os, h.tape, h.output, h.size, fun i hi => h.block i (hk i hi).1 (hk i hi).2⟩
theorem Fr.set {w : World} (p : Addr) (u : Value) : Fr w (w.setCell p u) (fun i => i ≠ p.block) := ⟨rfl, rfl, rfl, by simp [World.setCell], fun i _ hi => Below.heap_setCell w p u i hi⟩
theorem Fr.heap {w w1 : World} {ok : Nat → Prop} (h : Fr w w1 ok) {i : Nat} {o : Obj} (hb : w.heap[i]? = some o) (hi : ok i) : w1.heap[i]? = some o := (h.block i (blk_lt hb) hi).trans hb
theorem Fr.cell {w w1 : World} {ok : Nat → Prop} (h : Fr w w1 ok) {p : Addr} {u : Value} (hc : w.cell? p = some u) (hi : ok p.block) : w1.cell? p = some u := by
  have := h.block p.block (World.block_lt_of_cell? w p hc) hi
  simpa [World.cell?, this] using hc
theorem add_block (ad : Addr) (i : Nat) : (ad.add i).block = ad.block := by unfold Addr.add; split <;> rfl
theorem reads_fr {w w1 : World} {ok : Nat → Prop} (h : Fr w w1 ok) {k : IntKind} {A : Option Addr} {n : Nat} {l : List Int} (hr : ReadsInt w k A n l) (hi : ∀ ad, A = some ad → 0 < n → ok ad.block) : ReadsInt w1 k A n l :=
  ⟨hr.1, hr.2.1, fun h0 => by
    obtain ⟨ad, e, hc⟩ := hr.2.2 h0
    exact ⟨ad, e, fun j hj => h.cell (hc j hj) (by rw [add_block]; exact hi ad e h0)⟩⟩
theorem own_lower {w : World} {base base' : Nat} {e : TypeId} {size n : Nat} {v : Value} {xs : List Value} (h : w.ownsRow base e size v n xs) (hb : base' ≤ base) : w.ownsRow base' e size v n xs := by
  refine ⟨h.1, ?_⟩
  rcases h.2 with h | ⟨g, cap, cur, a, b, c⟩
  · exact .inl h
  · exact .inr ⟨g, cap, cur, a, Nat.le_trans hb b, c⟩

/-- A row of one's own outlives whatever leaves its block. -/
theorem own_fr {w w' : World} {B : Nat} {e : TypeId} {size n : Nat} {rv : Value} {xs : List Value} {ok : Nat → Prop} (f : Fr w w' ok) (h : w.ownsRow B e size rv n xs) (hk : ∀ i, some i = rv.ownBlock → ok i) : w'.ownsRow B e size rv n xs := by
  refine ⟨h.1, ?_⟩
  rcases h.2 with h1 | ⟨g, cap, cur, rfl, h2, h3, h4⟩
  · exact .inl h1
  · exact .inr ⟨g, cap, cur, rfl, h2, f.heap h3 (hk g rfl), h4⟩
theorem own_ge {w : World} {B : Nat} {e : TypeId} {size n : Nat} {rv : Value} {xs : List Value} (h : w.ownsRow B e size rv n xs) (i : Nat) (hi : some i = rv.ownBlock) : B ≤ i ∧ i < w.heap.size := by
  rcases h.2 with ⟨rfl, _⟩ | ⟨g, cap, cur, rfl, h2, h3, h4⟩
  · cases hi
  · injection hi with hi
    subst hi
    exact ⟨h2, blk_lt h3⟩
theorem fresh_ne {w w' : World} {B : Nat} {e e' : TypeId} {z z' n n' : Nat} {v v' : Value} {xs xs' : List Value} (h : w'.ownsRow w.heap.size e z v n xs) (h' : w.ownsRow B e' z' v' n' xs') : NeRow v v' := fun k hk hk' => by
  have a := own_ge h k hk.symm
  have b := own_ge h' k hk'.symm
  omega
theorem ne_app {w : World} {B : Nat} {e : TypeId} {z n : Nat} {v va va' : Value} {xs : List Value} (h : NeRow v va) (ho : w.ownsRow B e z v n xs) (hA : va'.ownBlock = va.ownBlock ∨ ∃ b, va'.ownBlock = some b ∧ w.heap.size ≤ b) : NeRow v va' := fun k hk hk' => by
  rcases hA with e | ⟨b, e, hb⟩
  · exact h k hk (e ▸ hk')
  · rw [e] at hk'
    cases hk'
    have := (own_ge ho _ hk.symm).2
    omega
theorem Fr.trans' {w w1 w2 : World} {ok : Nat → Prop} (h : Fr w w1 ok) (h' : Fr w1 w2 (fun _ => True)) : Fr w w2 ok := h.then' h' (fun _ _ _ => trivial)
theorem Fr.all {w w1 : World} (h : Below w.heap.size w w1) : Fr w w1 (fun _ => True) := Fr.of_below h _
theorem Fr.drewN {w : World} (n : Nat) (ok : Nat → Prop) : Fr w (w.drewN n) ok := Fr.of_below (pw_below_drewN (Below.refl _ _) n) _
theorem Fr.drew {w : World} (ok : Nat → Prop) : Fr w w.drew ok := Fr.of_below (Below.refl _ _).drew _
theorem Fr.alloc {w : World} (o : Obj) (ok : Nat → Prop) : Fr w (w.alloc o) ok := Fr.of_below (below_alloc (Below.refl _ _) o) _
theorem add_two (ad : Addr) (i : Nat) : ad.add (i * 2 + 1) = ⟨(ad.add (i * 2)).block, (ad.add (i * 2)).off + 1, none⟩ := by
  unfold Addr.add
  by_cases h : i * 2 = 0
  · have h0 : i = 0 := by omega
    subst h0
    simp
  · rw [if_neg (by omega), if_neg h]
    simp [Nat.add_assoc]
theorem i64_of {a : Int} (h : (Lit.int .i64 a).wf = true) : -9223372036854775808 ≤ a ∧ a ≤ 9223372036854775807 := by
  simp only [Lit.wf, show IntKind.i64.min = -9223372036854775808 from rfl, show IntKind.i64.max = 9223372036854775807 from rfl, Bool.and_eq_true, decide_eq_true_eq] at h
  omega
end Go.Proofs.Ytanbicpkdkcpbaa.W
