/- The methods of the state of XxhDigests, for whichever digest. -/
import Derived.Test.YtnkcbkfccbfjpaaUe
namespace Go.Proofs.Ytnkcbkfccbfjpaa.XxhW
open Go.RowKit Go.Proofs.YtnkcbkfccbfjpaaW.PrintWords Go.Proofs.YtnkcbkfccbfjpaaW.PrintLast Go.Proofs.YtnkcbkfccbfjpaaW.PrintMore
set_option linter.unusedVariables false
set_option linter.unusedSimpArgs false
def GoodS (w0 w : World) (gs : Nat) (seed wide : Int) (n : Nat) : Prop := ∃ la lb lc ld, SI w0 w gs seed wide la lb lc ld ∧ (Bytes la ∧ Bytes lb ∧ Bytes lc ∧ Bytes ld) ∧ la.length ≤ n ∧ lb.length ≤ n ∧ lc.length ≤ n ∧ ld.length ≤ n
theorem GoodS.keep {w0 w w' : World} {gs : Nat} {seed wide : Int} {n : Nat} (h : GoodS w0 w gs seed wide n) (b : Below w.heap.size w w') : GoodS w0 w' gs seed wide n := by
  obtain ⟨la, lb, lc, ld, hI, h⟩ := h
  exact ⟨la, lb, lc, ld, hI.keep b, h⟩
theorem GoodS.B {w0 w : World} {gs : Nat} {seed wide : Int} {n : Nat} (h : GoodS w0 w gs seed wide n) : Below w0.heap.size w0 w := by
  obtain ⟨la, lb, lc, ld, ⟨x, hS⟩, h⟩ := h
  exact hS.B
theorem GoodS.more {w0 w : World} {gs : Nat} {seed wide : Int} {n m : Nat} (h : GoodS w0 w gs seed wide n) (hm : n ≤ m) : GoodS w0 w gs seed wide m := by
  obtain ⟨la, lb, lc, ld, hI, hb, h1, h2, h3, h4⟩ := h
  exact ⟨la, lb, lc, ld, hI, hb, by omega, by omega, by omega, by omega⟩
theorem tells_any (o : Nat) (ho : o < 4) (w0 w : World) (gs : Nat) (seed wide : Int) (n : Nat) (hn : n ≤ 1099511627776) (hs : W64 seed) (hw : W64 wide) (h : GoodS w0 w gs seed wide n) :
    Calls Try.prog 35 #[.pointer (some ⟨gs, 0, none⟩), .int .i64 (o : Int)] w fun e w' => e = .returned (.bool true) ∧ Below w.heap.size w w' := by
  obtain ⟨la, lb, lc, ld, hI, ⟨b1, b2, b3, b4⟩, h1, h2, h3, h4⟩ := h
  rcases o with _ | _ | _ | _ | o
  · exact tells0 w0 w gs seed wide la lb lc ld hI b1 (by omega) hs
  · exact tells1 w0 w gs seed wide la lb lc ld hI b2 (by omega) hw
  · exact tells2 w0 w gs seed wide la lb lc ld hI b3 (by omega) hs
  · exact tells3 w0 w gs seed wide la lb lc ld hI b4 (by omega) hw
  · omega
theorem writes_any (o : Nat) (ho : o < 4) (w0 w : World) (gs : Nat) (seed wide : Int) (n : Nat) (hn : n ≤ 1099511627776) (A : Option Addr) (c : Nat) (b : List Int) (hr : ReadsInt w0 .u8 A b.length b) (hc : b.length ≤ c) (hb : Bytes b) (hbl : b.length ≤ 1099511627776) (h : GoodS w0 w gs seed wide n) :
    Calls Try.prog 34 #[.pointer (some ⟨gs, 0, none⟩), .int .i64 (o : Int), .slice A b.length c] w fun e w' => e = .returned (.bool true) ∧ GoodS w0 w' gs seed wide (n + b.length) := by
  obtain ⟨la, lb, lc, ld, ⟨⟨ga, gb, gc, gd, ra, rb, rc, rd, t0, t1, t2, t3⟩, hS⟩, ⟨b1, b2, b3, b4⟩, h1, h2, h3, h4⟩ := h
  rcases o with _ | _ | _ | _ | o
  · refine (writes0 w0 w gs seed wide ga gb gc gd ra rb rc rd t0 t1 t2 t3 la lb lc ld A c b hS hr hc (bytes_app b1 hb) (by omega) hbl).mono ?_
    rintro e w' ⟨rfl, hI⟩
    exact ⟨rfl, _, _, _, _, hI, ⟨bytes_app b1 hb, b2, b3, b4⟩, by rw [List.length_append]; omega, by omega, by omega, by omega⟩
  · refine (writes1 w0 w gs seed wide ga gb gc gd ra rb rc rd t0 t1 t2 t3 la lb lc ld A c b hS hr hc (bytes_app b2 hb) (by omega) hbl).mono ?_
    rintro e w' ⟨rfl, hI⟩
    exact ⟨rfl, _, _, _, _, hI, ⟨b1, bytes_app b2 hb, b3, b4⟩, by omega, by rw [List.length_append]; omega, by omega, by omega⟩
  · refine (writes2 w0 w gs seed wide ga gb gc gd ra rb rc rd t0 t1 t2 t3 la lb lc ld A c b hS hr hc (bytes_app b3 hb) (by omega) hbl).mono ?_
    rintro e w' ⟨rfl, hI⟩
    exact ⟨rfl, _, _, _, _, hI, ⟨b1, b2, bytes_app b3 hb, b4⟩, by omega, by omega, by rw [List.length_append]; omega, by omega⟩
  · refine (writes3 w0 w gs seed wide ga gb gc gd ra rb rc rd t0 t1 t2 t3 la lb lc ld A c b hS hr hc (bytes_app b4 hb) (by omega) hbl).mono ?_
    rintro e w' ⟨rfl, hI⟩
    exact ⟨rfl, _, _, _, _, hI, ⟨b1, b2, b3, bytes_app b4 hb⟩, by omega, by omega, by omega, by rw [List.length_append]; omega⟩
  · omega
theorem clones_any (o : Nat) (ho : o < 4) (w0 w : World) (gs : Nat) (seed wide : Int) (n : Nat) (hn : n ≤ 1099511627776) (hs : W64 seed) (hw : W64 wide) (h : GoodS w0 w gs seed wide n) :
    Calls Try.prog 37 #[.pointer (some ⟨gs, 0, none⟩), .int .i64 (o : Int)] w fun e w' => e = .returned (.bool true) ∧ GoodS w0 w' gs seed wide n := by
  obtain ⟨la, lb, lc, ld, ⟨⟨ga, gb, gc, gd, ra, rb, rc, rd, t0, t1, t2, t3⟩, hS⟩, ⟨b1, b2, b3, b4⟩, h1, h2, h3, h4⟩ := h
  have key : ∀ {e w'}, (e = Ending.returned (.bool true) ∧ SI w0 w' gs seed wide la lb lc ld) → e = Ending.returned (.bool true) ∧ GoodS w0 w' gs seed wide n := fun h => ⟨h.1, _, _, _, _, h.2, ⟨b1, b2, b3, b4⟩, h1, h2, h3, h4⟩
  rcases o with _ | _ | _ | _ | o
  · exact (clones0 w0 w gs seed wide ga gb gc gd ra rb rc rd t0 t1 t2 t3 la lb lc ld hS hs b1 (by omega)).mono fun _ _ => key
  · exact (clones1 w0 w gs seed wide ga gb gc gd ra rb rc rd t0 t1 t2 t3 la lb lc ld hS hw b2 (by omega)).mono fun _ _ => key
  · exact (clones2 w0 w gs seed wide ga gb gc gd ra rb rc rd t0 t1 t2 t3 la lb lc ld hS hs b3 (by omega)).mono fun _ _ => key
  · exact (clones3 w0 w gs seed wide ga gb gc gd ra rb rc rd t0 t1 t2 t3 la lb lc ld hS hw b4 (by omega)).mono fun _ _ => key
  · omega
theorem bytes_nil : Bytes [] := fun i => by
  show 0 ≤ ([] : List Int).getD i 0 ∧ ([] : List Int).getD i 0 < 256
  simp
theorem perm_first (k a b c d : Res) (z : List Res) : (k :: d :: c :: b :: a :: z).Perm (k :: a :: b :: c :: d :: z) :=
  List.Perm.cons k ((List.reverse_perm [a, b, c, d]).append_right z)
end Go.Proofs.Ytnkcbkfccbfjpaa.XxhW
