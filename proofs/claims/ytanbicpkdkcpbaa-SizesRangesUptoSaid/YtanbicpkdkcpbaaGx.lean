/- SizesRanges: acts in memory, rows that are written full, what the law holds. -/
import Derived.Test.YtanbicpkdkcpbaaGs
import Derived.Test.YtanbicpkdkcpbaaGw
import Derived.Test.YtanbicpkdkcpbaaGh
namespace Go.Proofs.Ytanbicpkdkcpbaa.Rng
open Go.RowKit Go.Proofs.Ytanbicpkdkcpbaa.W Go.Proofs.Ytanbicpkdkcpbaa.RSizesRanges Go.Proofs.YtanbicpkdkcpbaaW.PrintWords Go.Proofs.YtanbicpkdkcpbaaW.PrintLast Go.Proofs.YtanbicpkdkcpbaaW.PrintMore
set_option linter.unusedVariables false
set_option linter.unusedSimpArgs false
/-- An act: whether a range is cut out or put in, that range, and one that is asked for. -/
structure Act where
  c : Bool
  x0 : Int
  x1 : Int
  y0 : Int
  y1 : Int
def actZ : Act := ⟨false, 0, 0, 0, 0⟩
structure ActAt (w : World) (ad : Addr) (s : Act) : Prop where
  c : w.cell? ad = some (.bool s.c)
  x0 : w.cell? ⟨ad.block, ad.off + 1, none⟩ = some (.int .i64 s.x0)
  x1 : w.cell? ⟨ad.block, ad.off + 2, none⟩ = some (.int .i64 s.x1)
  y0 : w.cell? ⟨ad.block, ad.off + 3, none⟩ = some (.int .i64 s.y0)
  y1 : w.cell? ⟨ad.block, ad.off + 4, none⟩ = some (.int .i64 s.y1)
theorem ActAt.below {w w' : World} {ad : Addr} {s : Act} (h : ActAt w ad s) (b : Below w.heap.size w w') : ActAt w' ad s :=
  ⟨pw_cell_below b h.c, pw_cell_below b h.x0, pw_cell_below b h.x1, pw_cell_below b h.y0, pw_cell_below b h.y1⟩
def Acts (w : World) (A : Option Addr) (l : List Act) : Prop := ∀ i, i < l.length → ∃ ad, A = some ad ∧ ActAt w (ad.add (i * 5)) (l.getD i actZ)
def actR (L : List S67) (s : Act) : List S67 × Int := if s.c = true then cutR L s.x0 s.x1 else addR L s.x0 s.x1
theorem actR_fine {L : List S67} (h : Fine L 65536) (s : Act) : Fine (actR L s).1 65536 := by
  unfold actR
  split
  · exact cutR_fine h _ _
  · exact addR_fine h _ _
def runL (l : List Act) (i : Nat) : List S67 := (l.take i).foldl (fun L s => (actR L s).1) []
theorem runL_succ (l : List Act) (i : Nat) (h : i < l.length) : runL l (i + 1) = (actR (runL l i) (l.getD i actZ)).1 := by
  unfold runL
  rw [List.take_succ_eq_append_getElem h, List.foldl_append, List.getD_eq_getElem?_getD, List.getElem?_eq_getElem h]
  rfl
theorem runL_fine (l : List Act) : ∀ i, i ≤ l.length → Fine (runL l i) 65536
  | 0, _ => ⟨trivial, Nat.zero_le _⟩
  | i + 1, h => by rw [runL_succ l i (by omega)]; exact actR_fine (runL_fine l i (by omega)) _
/-- An element of a row of one's own is written. -/
theorem row_put {W : World} {base : Nat} {ok : Nat → Prop} {A : Option Addr} {n cap : Nat} {xs : List S67} (h : Kd.R k67 67 W base ok (.slice A n cap) xs) (j : Nat) (hj : j < n) (p q : Int) :
    ∃ g, A = some ⟨g, 0, none⟩ ∧ ok g ∧ g < W.heap.size ∧ (∃ u0 u1, W.cell? ⟨g, j * 2, none⟩ = some u0 ∧ W.cell? ⟨g, j * 2 + 1, none⟩ = some u1) ∧ W.frozen? ⟨g, j * 2, none⟩ = false ∧ W.frozen? ⟨g, j * 2 + 1, none⟩ = false ∧
      Kd.R k67 67 ((W.setCell ⟨g, j * 2, none⟩ (.int .i64 p)).setCell ⟨g, j * 2 + 1, none⟩ (.int .i64 q)) base ok (.slice A n cap) (xs.set j ⟨p, q⟩) := by
  have hn := (Kd.R_reads' h).1
  obtain ⟨g, cap', hv, hb, hlt, _⟩ := Kd.R_form h (by omega)
  injection hv with hA
  subst hA
  obtain ⟨c, hcl, hM, hcc, hfr⟩ := Kd.R_elem h z67 (j : Int) (by omega) (by omega)
  have hsz : k67.sz = 2 := rfl
  rw [hsz] at hcl
  match c, hcl with
  | [u0, u1], _ =>
    have e0 := hcc 0 u0 rfl
    have e1 := hcc 1 u1 rfl
    have f0 := hfr 0
    have f1 := hfr 1
    simp only [Int.toNat_natCast, hsz, Nat.add_zero] at e0 e1 f0 f1
    obtain ⟨hR, _⟩ := Kd.R_seg h (j : Int) (by omega) (by omega) (c := [u0, u1]) (seg := [.int .i64 p, .int .i64 q]) (j := 0) rfl hcc (show 0 + 2 ≤ 2 by decide) (x' := (⟨p, q⟩ : S67)) (okp := fun k => ok k ∧ k ≠ g) (k67_mkM _ _ _ (⟨p, q⟩ : S67)) (fun _ hk => hk)
    simp only [Int.toNat_natCast, hsz, Nat.add_zero] at hR
    exact ⟨g, rfl, h.1 g rfl, hlt, ⟨u0, u1, e0, e1⟩, f0, f1, hR⟩
/-- What the law holds at a round's start: the set, and the document's list. -/
structure RInv (w W : World) (gp : Nat) (L : List S67) (vd : Value) : Prop where
  bel : Below w.heap.size w W
  p : IsSet W w.heap.size gp L
  lp : w.heap.size ≤ gp
  d : Kd.R k67 67 W w.heap.size (fun _ => True) vd L
theorem RInv.below {w W W' : World} {gp : Nat} {L : List S67} {vd : Value} (h : RInv w W gp L vd) (hb : Below W.heap.size W W') : RInv w W' gp L vd :=
  ⟨below_step h.bel hb, h.p.below hb, h.lp, Kd.R_below h.d hb⟩
/-- The set has changed, the document's list is new or as it was. -/
theorem RInv.act {w W W1 W2 : World} {gp : Nat} {L L' : List S67} {A : Option Addr} {c n : Nat} {v : Value} (h : RInv w W gp L (.slice A n c)) (hs : IsSet W1 w.heap.size gp L') (ht : Touch W W1 gp) (hb : Below W1.heap.size W1 W2)
    (hv : (v = .slice A n c ∧ L' = L) ∨ Kd.R k67 67 W2 W1.heap.size (fun _ => True) v L') : RInv w W2 gp L' v := by
  obtain ⟨u, hu⟩ := h.p.holds
  have hb1 := ht.below h.bel h.lp
  refine ⟨below_step hb1 hb, hs.below hb, h.lp, ?_⟩
  rcases hv with ⟨rfl, rfl⟩ | hv
  · exact Kd.R_below (ht.R hu h.d) hb
  · exact Kd.R_lower hv hb1.size
/-- What is left of a round's rows when the first list and the gaps are written full. -/
structure Rest (w W : World) (s0 s1 s2 s3 gp : Nat) (M G : List S67) (vd vb vh vw : Value) : Prop where
  bel : Below w.heap.size w W
  le : w.heap.size ≤ s0
  lp : w.heap.size ≤ gp
  gp0 : gp < s0
  p : ∃ v, Holds W gp v ∧ Kd.R k67 67 W w.heap.size (fun k => k < s0) v M
  d : Kd.R k67 67 W w.heap.size (fun k => k < s0) vd M
  b : Kd.R k67 67 W w.heap.size (fun k => s1 ≤ k ∧ k < s2) vb M
  h : Kd.R k67 67 W w.heap.size (fun k => s3 ≤ k) vh G
  g : Kd.R k67 67 W w.heap.size (fun k => s3 ≤ k) vw G
theorem Rest.fr {w W W' : World} {s0 s1 s2 s3 gp : Nat} {M G : List S67} {vd vb vh vw : Value} (r : Rest w W s0 s1 s2 s3 gp M G vd vb vh vw) (f : Fr W W' (fun i => i < s0 ∨ (s1 ≤ i ∧ i < s2) ∨ s3 ≤ i)) : Rest w W' s0 s1 s2 s3 gp M G vd vb vh vw := by
  have hle := r.le
  obtain ⟨v, h1, h2⟩ := r.p
  exact ⟨((Fr.of_below r.bel (fun i => i < s0 ∨ (s1 ≤ i ∧ i < s2) ∨ s3 ≤ i)).then f).below (B := w.heap.size) (fun i hi => ⟨hi, .inl (by omega)⟩), r.le, r.lp, r.gp0,
    ⟨v, f.heap h1 (.inl r.gp0), Kd.R_step h2 (fun k hk hlt => f.block k hlt (.inl hk))⟩, Kd.R_step r.d (fun k hk hlt => f.block k hlt (.inl hk)), Kd.R_step r.b (fun k hk hlt => f.block k hlt (.inr (.inl hk))),
    Kd.R_step r.h (fun k hk hlt => f.block k hlt (.inr (.inr hk))), Kd.R_step r.g (fun k hk hlt => f.block k hlt (.inr (.inr hk)))⟩
theorem Rest.below {w W W' : World} {s0 s1 s2 s3 gp : Nat} {M G : List S67} {vd vb vh vw : Value} (r : Rest w W s0 s1 s2 s3 gp M G vd vb vh vw) (f : Below W.heap.size W W') : Rest w W' s0 s1 s2 s3 gp M G vd vb vh vw := r.fr (Fr.of_below f _)
theorem Rest.set {w W : World} {s0 s1 s2 s3 gp : Nat} {M G : List S67} {vd vb vh vw : Value} (r : Rest w W s0 s1 s2 s3 gp M G vd vb vh vw) : IsSet W w.heap.size gp M := by
  obtain ⟨v, h1, h2⟩ := r.p
  exact ⟨v, h1, Kd.R_mono h2 (fun _ _ => trivial)⟩
theorem Rest.inv {w W : World} {s0 s1 s2 s3 gp : Nat} {M G : List S67} {vd vb vh vw : Value} (r : Rest w W s0 s1 s2 s3 gp M G vd vb vh vw) : RInv w W gp M vd := ⟨r.bel, r.set, r.lp, Kd.R_mono r.d (fun _ _ => trivial)⟩
/-- The rows of a round, in the order in which they were made. -/
theorem Rest.mk' {w wd w1 w2 w3 w4 w5 : World} {gp : Nat} {M G : List S67} {vd v2 v4 v5 : Value} (hN : RInv w wd gp M vd) (h1 : Below wd.heap.size wd w1) (h2 : Below w1.heap.size w1 w2) (h3 : Below w2.heap.size w2 w3) (h4 : Below w3.heap.size w3 w4) (h5 : Below w4.heap.size w4 w5)
    (o2 : Kd.R k67 67 w2 w1.heap.size (fun _ => True) v2 M) (o4 : Kd.R k67 67 w4 w3.heap.size (fun _ => True) v4 G) (o5 : Kd.R k67 67 w5 w4.heap.size (fun _ => True) v5 G) : Rest w w5 wd.heap.size w1.heap.size w2.heap.size w3.heap.size gp M G vd v2 v4 v5 := by
  have l1 := h1.size
  have l2 := h2.size
  have l3 := h3.size
  have l4 := h4.size
  have l0 := hN.bel.size
  have c5 : Below wd.heap.size wd w5 := below_step (below_step (below_step (below_step h1 h2) h3) h4) h5
  have c2 : Below w2.heap.size w2 w5 := below_step (below_step h3 h4) h5
  obtain ⟨v, p1, p2⟩ := hN.p
  refine ⟨below_step hN.bel c5, l0, hN.lp, hN.p.lt, ⟨v, blk_below p1 c5, ?_⟩, ?_, ?_, ?_, ?_⟩
  · exact Kd.R_below (Kd.R_mono (Kd.R_bound p2) (fun k hk => hk.2.2.1)) c5
  · exact Kd.R_below (Kd.R_mono (Kd.R_bound hN.d) (fun k hk => hk.2.2.1)) c5
  · exact Kd.R_lower (Kd.R_below (Kd.R_mono (Kd.R_bound o2) (fun k hk => ⟨hk.2.1, hk.2.2.1⟩)) c2) (by omega)
  · exact Kd.R_lower (Kd.R_below (Kd.R_mono (Kd.R_bound o4) (fun k hk => hk.2.1)) h5) (by omega)
  · exact Kd.R_lower (Kd.R_mono (Kd.R_bound o5) (fun k hk => by have := hk.2.1; omega)) (by omega)
theorem same_l1 (P : List S67) (hP : P.length ≤ 1000000) : ∀ (j k i : Nat), i + j = P.length → j < k → satchellaw01_same.l0 k P P (i : Int) = some true := by
  intro j
  induction j with
  | zero =>
    intro k i hi hk
    obtain ⟨k, rfl⟩ : ∃ q, k = q + 1 := ⟨k - 1, by omega⟩
    rw [satchellaw01_same.l0, if_neg (by omega)]
  | succ j ih =>
    intro k i hi hk
    obtain ⟨k, rfl⟩ : ∃ q, k = q + 1 := ⟨k - 1, by omega⟩
    rw [satchellaw01_same.l0, if_pos (by omega), if_pos (by omega), if_pos (by omega), if_neg (by simp), wsucc _ (by omega)]
    exact ih k (i + 1) (by omega) (by omega)
theorem same_f1 (P : List S67) (hP : P.length ≤ 1000000) : satchellaw01_same.f (P.length + 1) P P = some true := by
  unfold satchellaw01_same.f
  rw [if_pos rfl]
  exact same_l1 P hP P.length _ 0 (by omega) (by omega)
theorem has44 {L : List S67} (h : Fine L 65536) : hasR L 4 4 = true := by
  unfold hasR
  have hc : canB 4 4 = true := by decide
  obtain ⟨g1, g2, _⟩ := gapsR_facts h 4 4 hc
  have : gapsR L 4 4 = [] := g1.none fun x hx => by have := (g2 x).1 hx; omega
  rw [hc, this]
  rfl
theorem has43 (L : List S67) : hasR L 4 3 = false := by
  unfold hasR
  rw [show canB 4 3 = false by decide]
  rfl
end Go.Proofs.Ytanbicpkdkcpbaa.Rng
