/- What XxhPieces holds from piece to piece: two digests and the bytes so far, each in memory of its own. -/
import Derived.Test.YtnkcbkfccbfjpaaKa
import Derived.Test.YtnkcbkfccbfjpaaZc
namespace Go.Proofs.Ytnkcbkfccbfjpaa.XxhW
open Go.RowKit Go.Proofs.YtnkcbkfccbfjpaaW.PrintWords Go.Proofs.YtnkcbkfccbfjpaaW.PrintLast Go.Proofs.YtnkcbkfccbfjpaaW.PrintMore
set_option linter.unusedVariables false
set_option linter.unusedSimpArgs false
structure PInv (w0 wc : World) (g1 g2 : Nat) (r1 r2 : Value) (s32 s : Int) (l1 l2 l3 : List Int) (va : Value) : Prop where
  B : Below w0.heap.size w0 wc
  h1 : w0.heap.size ≤ g1
  h2 : w0.heap.size ≤ g2
  d1 : D32 wc w0.heap.size g1 s32 l1 r1
  d2 : D64 wc w0.heap.size g2 s l2 r2
  d3 : wc.ownsRow w0.heap.size 5 1 va l3.length (nums .u8 l3)
  n12 : NeRow r1 r2
  n13 : NeRow r1 va
  n23 : NeRow r2 va
theorem PInv.keep {w0 wc w' : World} {g1 g2 : Nat} {r1 r2 : Value} {s32 s : Int} {l1 l2 l3 : List Int} {va : Value} (h : PInv w0 wc g1 g2 r1 r2 s32 s l1 l2 l3 va) (b : Below wc.heap.size wc w') : PInv w0 w' g1 g2 r1 r2 s32 s l1 l2 l3 va := by
  have f : Fr wc w' (fun i => True) := Fr.of_below b _
  exact ⟨below_step h.B b, h.h1, h.h2, h.d1.fr f trivial (fun _ _ => trivial), h.d2.fr f trivial (fun _ _ => trivial), own_fr f h.d3 (fun _ _ => trivial), h.n12, h.n13, h.n23⟩
theorem fresh_ne {w w' : World} {B : Nat} {e e' : TypeId} {z z' n n' : Nat} {v v' : Value} {xs xs' : List Value} (h : w'.ownsRow w.heap.size e z v n xs) (h' : w.ownsRow B e' z' v' n' xs') : NeRow v v' := fun k hk hk' => by
  have a := own_ge h k hk.symm
  have b := own_ge h' k hk'.symm
  omega
theorem PInv.upd1 {w0 wc w' : World} {g1 g2 : Nat} {r1 r2 r1' : Value} {s32 s : Int} {l1 l2 l3 l1' : List Int} {va : Value} (h : PInv w0 wc g1 g2 r1 r2 s32 s l1 l2 l3 va) (d : D32 w' wc.heap.size g1 s32 l1' r1') (f : Fr wc w' (fun i => i ≠ g1 ∧ some i ≠ r1.ownBlock)) :
    PInv w0 w' g1 g2 r1' r2 s32 s l1' l2 l3 va := by
  have hg : g2 ≠ g1 := blk_ne h.d2.d h.d1.d (by decide)
  refine ⟨h.B.trans (f.below (fun i hi => ⟨Nat.lt_of_lt_of_le hi h.B.size, by have := h.h1; omega, fun e => ?_⟩)), h.h1, h.h2, d.lower h.B.size, ?_, ?_, fresh_ne d.o h.d2.o, fresh_ne d.o h.d3, h.n23⟩
  · have := (own_ge h.d1.o i e).1
    omega
  · exact h.d2.fr f ⟨hg, own_ne h.d1.o h.d2.d (by decide)⟩ (fun i hi => ⟨fun e => by subst e; exact own_ne h.d2.o h.d1.d (by decide) hi, fun e => h.n12 i e.symm hi.symm⟩)
  · exact own_fr f h.d3 (fun i hi => ⟨fun e => by subst e; exact own_ne h.d3 h.d1.d (by decide) hi, fun e => h.n13 i e.symm hi.symm⟩)
theorem PInv.upd2 {w0 wc w' : World} {g1 g2 : Nat} {r1 r2 r2' : Value} {s32 s : Int} {l1 l2 l3 l2' : List Int} {va : Value} (h : PInv w0 wc g1 g2 r1 r2 s32 s l1 l2 l3 va) (d : D64 w' wc.heap.size g2 s l2' r2') (f : Fr wc w' (fun i => i ≠ g2 ∧ some i ≠ r2.ownBlock)) :
    PInv w0 w' g1 g2 r1 r2' s32 s l1 l2' l3 va := by
  have hg : g1 ≠ g2 := blk_ne h.d1.d h.d2.d (by decide)
  refine ⟨h.B.trans (f.below (fun i hi => ⟨Nat.lt_of_lt_of_le hi h.B.size, by have := h.h2; omega, fun e => ?_⟩)), h.h1, h.h2, ?_, d.lower h.B.size, ?_, ne_symm (fresh_ne d.o h.d1.o), h.n13, fresh_ne d.o h.d3⟩
  · have := (own_ge h.d2.o i e).1
    omega
  · exact h.d1.fr f ⟨hg, own_ne h.d2.o h.d1.d (by decide)⟩ (fun i hi => ⟨fun e => by subst e; exact own_ne h.d1.o h.d2.d (by decide) hi, fun e => h.n12 i hi.symm e.symm⟩)
  · exact own_fr f h.d3 (fun i hi => ⟨fun e => by subst e; exact own_ne h.d3 h.d2.d (by decide) hi, fun e => h.n23 i e.symm hi.symm⟩)
theorem ne_app {w : World} {B : Nat} {e : TypeId} {z n : Nat} {v va va' : Value} {xs : List Value} (h : NeRow v va) (ho : w.ownsRow B e z v n xs) (hA : va'.ownBlock = va.ownBlock ∨ ∃ b, va'.ownBlock = some b ∧ w.heap.size ≤ b) : NeRow v va' := fun k hk hk' => by
  rcases hA with e | ⟨b, e, hb⟩
  · exact h k hk (e ▸ hk')
  · rw [e] at hk'
    cases hk'
    have := (own_ge ho _ hk.symm).2
    omega
theorem PInv.upd3 {w0 wc w' : World} {g1 g2 : Nat} {r1 r2 : Value} {s32 s : Int} {l1 l2 l3 l3' : List Int} {va va' : Value} (h : PInv w0 wc g1 g2 r1 r2 s32 s l1 l2 l3 va) (d : w'.ownsRow w0.heap.size 5 1 va' l3'.length (nums .u8 l3')) (hB : Below w0.heap.size w0 w')
    (hG : wc.grownBy w' va.ownBlock) (hA : va'.ownBlock = va.ownBlock ∨ ∃ b, va'.ownBlock = some b ∧ wc.heap.size ≤ b) :
    PInv w0 w' g1 g2 r1 r2 s32 s l1 l2 l3' va' := by
  have f : Fr wc w' (fun i => some i ≠ va.ownBlock) := Fr.of_grown hG
  refine ⟨hB, h.h1, h.h2, ?_, ?_, d, h.n12, ne_app h.n13 h.d1.o hA, ne_app h.n23 h.d2.o hA⟩
  · exact h.d1.fr f (own_ne h.d3 h.d1.d (by decide)) (fun i hi e => h.n13 i hi.symm e.symm)
  · exact h.d2.fr f (own_ne h.d3 h.d2.d (by decide)) (fun i hi e => h.n23 i hi.symm e.symm)
end Go.Proofs.Ytnkcbkfccbfjpaa.XxhW
