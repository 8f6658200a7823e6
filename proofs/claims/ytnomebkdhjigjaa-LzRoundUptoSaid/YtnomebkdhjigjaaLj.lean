/- The document's read, begin and match of lz, walked by hand, as plain functions. Conditions: bytes are bytes; lengths below 2^47. -/
import Derived.Test.YtnomebkdhjigjaaAa
import Derived.Test.YtnomebkdhjigjaaAc
namespace Go.Proofs.Ytnomebkdhjigjaa.W
open Go.RowKit Go.Proofs.Ytnomebkdhjigjaa.MLzDecodes Go.Proofs.YtnomebkdhjigjaaW.PrintWords Go.Proofs.YtnomebkdhjigjaaW.PrintLast Go.Proofs.YtnomebkdhjigjaaW.PrintMore
set_option linter.unusedVariables false
set_option linter.unusedSimpArgs false
def extOut (b : List Int) (s : Int) (p : Nat) : Int × Int × Bool := match ext (b.drop p) with
  | none => (0, (b.length : Int), false)
  | some (z, q) => (s + z, ((p + q : Nat) : Int), true)
theorem ref_read (b : List Int) (hb : Byt b) (hl : b.length ≤ 140737488355327) : ∀ (j k p : Nat) (s : Int), p + j = b.length → j < k → 0 ≤ s → s ≤ 15 + 255 * (p : Int) → satchelref03_read.l0 k b (p : Int) s = some (extOut b s p) := by
  intro j
  induction j with
  | zero =>
    intro k p s hp hk h0 h1
    obtain ⟨k, rfl⟩ : ∃ q, k = q + 1 := ⟨k - 1, by omega⟩
    rw [satchelref03_read.l0, if_neg (by omega)]
    unfold extOut
    rw [List.drop_of_length_le (by omega)]
    rfl
  | succ j ih =>
    intro k p s hp hk h0 h1
    obtain ⟨k, rfl⟩ : ∃ q, k = q + 1 := ⟨k - 1, by omega⟩
    have hpl : p < b.length := by omega
    have hy := hb p
    have w1 : wrap64 ((p : Int) + 1) = ((p + 1 : Nat) : Int) := by rw [IntWalk.wrap64_in _ (by omega)]; omega
    have w2 : wrap64 (((p + 1 : Nat) : Int) - 1) = (p : Int) := by clear w1; rw [IntWalk.wrap64_in _ (by omega)]; omega
    have w3 : wrap64 (b.getD p 0) = b.getD p 0 := by clear w1 w2; exact IntWalk.wrap64_in _ (by omega)
    have w4 : wrap64 (s + b.getD p 0) = s + b.getD p 0 := by clear w1 w2 w3; exact IntWalk.wrap64_in _ (by omega)
    rw [satchelref03_read.l0, if_pos (by clear w1 w2 w3 w4; omega), if_pos (by clear w1 w2 w3 w4; omega), w1, w2, rd_nat, w3, w4, if_pos (by clear w1 w2 w3 w4; omega), if_pos (by clear w1 w2 w3 w4; omega)]
    clear w1 w2 w3 w4
    have hc := ext_cons b p hpl
    by_cases c : b.getD p 0 < 255
    · rw [if_pos c]
      unfold extOut
      rw [hc, ext, if_pos c]
    · rw [if_neg c, ih k (p + 1) _ (by omega) (by omega) (by omega) (by omega)]
      unfold extOut
      rw [hc, ext, if_neg c]
      cases ext (b.drop (p + 1)) with
      | none => rfl
      | some q =>
        simp only [Int.add_assoc, Option.some.injEq, Prod.mk.injEq, true_and, and_true]
        omega
theorem num_ext (b : List Int) (k : Nat) : extOut b 15 k = (numS b 15 k, (moreK b 15 k : Int), decide (numE b 15 k = 0)) := by
  unfold extOut numS moreK numE num
  rw [if_neg (by decide)]
  cases ext (b.drop k) with
  | none => rfl
  | some q => rfl
theorem num_small (b : List Int) (n : Int) (k : Nat) (h : n < 15) : numS b n k = n ∧ moreK b n k = k ∧ numE b n k = 0 := by
  unfold numS moreK numE num
  rw [if_pos h]
  exact ⟨rfl, rfl, rfl⟩
theorem read_calls (A : Option Addr) (c : Nat) (b : List Int) (p : Nat) (w : World) (hr : ReadsInt w .u8 A b.length b) (hc : b.length ≤ c) (hb : Byt b) (hl : b.length ≤ 140737488355327) (hp : p ≤ b.length) :
    Calls Try.prog 91 #[.slice A b.length c, .int .i64 (p : Int)] w fun e w' => e = .returned (.tuple #[.int .i64 (numS b 15 p), .int .i64 (moreK b 15 p), .bool (decide (numE b 15 p = 0))]) ∧ ∃ m, w' = w.drewN m := by
  have h := ref_read b hb hl (b.length - p) (b.length + 1) p 15 (by omega) (by omega) (by decide) (by omega)
  rw [num_ext] at h
  exact (satchelref03_read.calls (b.length + 1) A c b p _ _ _ w (Kd.C_of_reads (enc := Value.int .u8) (d := (0 : Int)) (h1 := fun _ => rfl) hr) hc h).mono fun e w' ⟨h1, h2⟩ => ⟨h1, by obtain ⟨m, h⟩ := h2; first | exact ⟨m, h⟩ | exact ⟨m, h.symm⟩⟩
def beginV (b : List Int) (p : Nat) : Array Value :=
  if p = b.length then #[.int .i64 p, .int .i64 0, .int .i64 0, .bool false] else
  #[.int .i64 p, .int .i64 (moreK b (b.getD p 0 / 16) (p + 1)), .int .i64 ((moreK b (b.getD p 0 / 16) (p + 1) : Int) + numS b (b.getD p 0 / 16) (p + 1)), .bool (decide (numE b (b.getD p 0 / 16) (p + 1) = 0))]
set_option maxHeartbeats 4000000 in
set_option maxRecDepth 100000 in
theorem begin_calls (A : Option Addr) (c : Nat) (b : List Int) (p : Nat) (w : World) (hr : ReadsInt w .u8 A b.length b) (hc : b.length ≤ c) (hb : Byt b) (hl : b.length ≤ 140737488355327) (hp : p ≤ b.length) :
    Calls Try.prog 55 #[.slice A b.length c, .int .i64 (p : Int)] w fun e w' => e = .returned (.agg (beginV b p)) ∧ Below w.heap.size w w' := by
  have hu85 := Try.underlying85
  by_cases c1 : p = b.length
  · have e1 : beginV b p = #[.int .i64 p, .int .i64 0, .int .i64 0, .bool false] := if_pos c1
    rw [e1]
    have c1' : ((b.length : Int) ≤ (p : Int)) := by omega
    clear hr e1 c1 hb
    go_enter Try.func55, Try.ntmps55
    go_wp2_with fail
    refine bodyPost_ret (results_cell_row rfl _ _ w.heap.size 85 #[.int .i64 p, .int .i64 0, .int .i64 0, .bool false] (0, 0) _ rfl (blk_alloc (heap_alloc_new w _) _) Try.underlying85 rfl (by kernel_rfl)) rfl ?_
    exact ⟨rfl, below_alloc (below_alloc (Below.refl _ _) _) _⟩
  · have hlt : (p : Int) < (b.length : Int) := by omega
    have c1' : ¬ ((b.length : Int) ≤ (p : Int)) := by omega
    have hp0 : (0 : Int) ≤ (p : Int) := by omega
    have HRB := Aside0.mk hr
    have hy0 := hb p
    obtain ⟨y, hy⟩ : ∃ y, y = b.getD p 0 := ⟨_, rfl⟩
    rw [← hy] at hy0
    obtain ⟨y0, y1⟩ := hy0
    have HY := Aside0.mk hy
    obtain ⟨ad, rfl, hcell⟩ := hr.2.2 (by omega)
    have hk := hcell p (by omega)
    rw [← hy] at hk
    have HK := Aside0.mk hk
    have HC := Aside0.mk c1
    have HB := Aside0.mk hb
    obtain ⟨D, hD⟩ : ∃ D, D = beginV b p := ⟨_, rfl⟩
    rw [← hD]
    have HD := Aside0.mk hD
    clear hr hb hy hcell hk c1 hD
    go_enter Try.func55, Try.ntmps55
    go_upto_region 4 with fail
    have B2 := Aside0.mk (below_alloc (below_alloc (Below.refl w.heap.size w) (.cells #[.int .i64 0, .int .i64 0, .int .i64 0, .bool false] 85)) (.cells #[.int .i64 p, .int .i64 ((p : Int) + 1), .int .i64 0, .bool true] 85))
    have G0 := Aside0.mk (blk_alloc (heap_alloc_new w (.cells #[.int .i64 0, .int .i64 0, .int .i64 0, .bool false] 85)) (.cells #[.int .i64 p, .int .i64 ((p : Int) + 1), .int .i64 0, .bool true] 85))
    have G1 := Aside0.mk (show ((w.alloc (.cells #[.int .i64 0, .int .i64 0, .int .i64 0, .bool false] 85)).alloc (.cells #[.int .i64 p, .int .i64 ((p : Int) + 1), .int .i64 0, .bool true] 85)).heap[w.heap.size + 1]? = some (.cells #[.int .i64 p, .int .i64 ((p : Int) + 1), .int .i64 0, .bool true] 85 (0, 0)) by
      have h := heap_alloc_new (w.alloc (.cells #[.int .i64 0, .int .i64 0, .int .i64 0, .bool false] 85)) (.cells #[.int .i64 p, .int .i64 ((p : Int) + 1), .int .i64 0, .bool true] 85)
      simpa using h)
    generalize (w.alloc (.cells #[.int .i64 0, .int .i64 0, .int .i64 0, .bool false] 85)).alloc (.cells #[.int .i64 p, .int .i64 ((p : Int) + 1), .int .i64 0, .bool true] 85) = w2 at B2 G0 G1 ⊢
    have xk := pw_cell_below B2.out HK.out
    go_upto_if 24 with fail
    by_cases c2 : y / 16 = 15
    · have c2' : (y / 16 == 15) = true := by rw [c2]; rfl
      have e1 : beginV b p = #[.int .i64 p, .int .i64 (moreK b 15 (p + 1)), .int .i64 ((moreK b 15 (p + 1) : Int) + numS b 15 (p + 1)), .bool (decide (numE b 15 (p + 1) = 0))] := by
        unfold beginV
        rw [if_neg HC.out, ← HY.out, c2]
      rw [← HD.out] at e1
      have HRD := Aside0.mk (read_calls (some ad) c b (p + 1) w2 (HRB.out.below B2.out) hc HB.out hl (by omega))
      rw [show ((p + 1 : Nat) : Int) = (p : Int) + 1 by omega] at HRD
      have hf := num_facts (b := b) (n := 15) (k := p + 1) HB.out (by decide) (by decide) (by omega)
      have hK : 0 ≤ (moreK b 15 (p + 1) : Int) ∧ (moreK b 15 (p + 1) : Int) ≤ 140737488355327 ∧ 0 ≤ numS b 15 (p + 1) ∧ numS b 15 (p + 1) ≤ 36028797018963968 := by omega
      generalize (moreK b 15 (p + 1) : Int) = K at HRD hK e1 ⊢
      generalize numS b 15 (p + 1) = N at HRD hK e1 ⊢
      generalize decide (numE b 15 (p + 1) = 0) = E at HRD e1 ⊢
      obtain ⟨hK0, hK1, hN0, hN1⟩ := hK
      have HE := Aside0.mk e1
      clear hf e1 c2
      go_upto_region 7 with (go_at_call 91; refine HRD.out.mono ?_; rintro e w3 ⟨rfl, m, rfl⟩; have G0 := Aside0.mk (show (w2.drewN m).heap[w.heap.size]? = _ from G0.out); have G1 := Aside0.mk (show (w2.drewN m).heap[w.heap.size + 1]? = _ from G1.out); have x00 : (w2.drewN m).cell? ⟨w.heap.size, 0, none⟩ = some (.int .i64 0) := (blk_cell G0.out 0).trans rfl; have z00 : (w2.drewN m).frozen? ⟨w.heap.size, 0, none⟩ = false := blk_frozen G0.out 0; have x01 : (w2.drewN m).cell? ⟨w.heap.size, 1, none⟩ = some (.int .i64 0) := (blk_cell G0.out 1).trans rfl; have z01 : (w2.drewN m).frozen? ⟨w.heap.size, 1, none⟩ = false := blk_frozen G0.out 1; have x02 : (w2.drewN m).cell? ⟨w.heap.size, 2, none⟩ = some (.int .i64 0) := (blk_cell G0.out 2).trans rfl; have z02 : (w2.drewN m).frozen? ⟨w.heap.size, 2, none⟩ = false := blk_frozen G0.out 2; have x03 : (w2.drewN m).cell? ⟨w.heap.size, 3, none⟩ = some (.bool false) := (blk_cell G0.out 3).trans rfl; have z03 : (w2.drewN m).frozen? ⟨w.heap.size, 3, none⟩ = false := blk_frozen G0.out 3; have x10 : (w2.drewN m).cell? ⟨w.heap.size + 1, 0, none⟩ = some (.int .i64 p) := (blk_cell G1.out 0).trans rfl; have z10 : (w2.drewN m).frozen? ⟨w.heap.size + 1, 0, none⟩ = false := blk_frozen G1.out 0; have x11 : (w2.drewN m).cell? ⟨w.heap.size + 1, 1, none⟩ = some (.int .i64 ((p : Int) + 1)) := (blk_cell G1.out 1).trans rfl; have z11 : (w2.drewN m).frozen? ⟨w.heap.size + 1, 1, none⟩ = false := blk_frozen G1.out 1; have x12 : (w2.drewN m).cell? ⟨w.heap.size + 1, 2, none⟩ = some (.int .i64 0) := (blk_cell G1.out 2).trans rfl; have z12 : (w2.drewN m).frozen? ⟨w.heap.size + 1, 2, none⟩ = false := blk_frozen G1.out 2; have x13 : (w2.drewN m).cell? ⟨w.heap.size + 1, 3, none⟩ = some (.bool true) := (blk_cell G1.out 3).trans rfl; have z13 : (w2.drewN m).frozen? ⟨w.heap.size + 1, 3, none⟩ = false := blk_frozen G1.out 3)
      have G2 := Aside0.mk (blk_put (blk_put G1.out 1 (.int .i64 K) rfl) 3 (.bool E) rfl)
      have G3 := Aside0.mk (blk_far (blk_far G0.out (p := ⟨w.heap.size + 1, 1, none⟩) (show w.heap.size ≠ w.heap.size + 1 by omega) (.int .i64 K)) (p := ⟨w.heap.size + 1, 3, none⟩) (show w.heap.size ≠ w.heap.size + 1 by omega) (.bool E))
      have B3 := Aside0.mk (below_set (g := w.heap.size + 1) (j := 3) (v := .bool E) (below_set (g := w.heap.size + 1) (j := 1) (v := .int .i64 K) (pw_below_drewN B2.out m) (by omega)) (by omega))
      generalize ((w2.drewN m).setCell ⟨w.heap.size + 1, 1, none⟩ (.int .i64 K)).setCell ⟨w.heap.size + 1, 3, none⟩ (.bool E) = w4 at G2 G3 B3 ⊢
      have hs0 : 0 ≤ K + N := by omega
      have x00 : w4.cell? ⟨w.heap.size, 0, none⟩ = some (.int .i64 0) := (blk_cell G3.out 0).trans rfl
      have z00 : w4.frozen? ⟨w.heap.size, 0, none⟩ = false := blk_frozen G3.out 0
      have x01 : w4.cell? ⟨w.heap.size, 1, none⟩ = some (.int .i64 0) := (blk_cell G3.out 1).trans rfl
      have z01 : w4.frozen? ⟨w.heap.size, 1, none⟩ = false := blk_frozen G3.out 1
      have x02 : w4.cell? ⟨w.heap.size, 2, none⟩ = some (.int .i64 0) := (blk_cell G3.out 2).trans rfl
      have z02 : w4.frozen? ⟨w.heap.size, 2, none⟩ = false := blk_frozen G3.out 2
      have x03 : w4.cell? ⟨w.heap.size, 3, none⟩ = some (.bool false) := (blk_cell G3.out 3).trans rfl
      have z03 : w4.frozen? ⟨w.heap.size, 3, none⟩ = false := blk_frozen G3.out 3
      have x10 : w4.cell? ⟨w.heap.size + 1, 0, none⟩ = some (.int .i64 p) := (blk_cell G2.out 0).trans rfl
      have z10 : w4.frozen? ⟨w.heap.size + 1, 0, none⟩ = false := blk_frozen G2.out 0
      have x11 : w4.cell? ⟨w.heap.size + 1, 1, none⟩ = some (.int .i64 K) := (blk_cell G2.out 1).trans rfl
      have z11 : w4.frozen? ⟨w.heap.size + 1, 1, none⟩ = false := blk_frozen G2.out 1
      have x12 : w4.cell? ⟨w.heap.size + 1, 2, none⟩ = some (.int .i64 0) := (blk_cell G2.out 2).trans rfl
      have z12 : w4.frozen? ⟨w.heap.size + 1, 2, none⟩ = false := blk_frozen G2.out 2
      have x13 : w4.cell? ⟨w.heap.size + 1, 3, none⟩ = some (.bool E) := (blk_cell G2.out 3).trans rfl
      have z13 : w4.frozen? ⟨w.heap.size + 1, 3, none⟩ = false := blk_frozen G2.out 3
      go_wp2
      have hne : w.heap.size ≠ w.heap.size + 1 := by omega
      have hz : w.heap.size ≤ w.heap.size + 1 := by omega
      refine bodyPost_ret (results_cell_row rfl _ _ w.heap.size 85 #[.int .i64 p, .int .i64 (K), .int .i64 (K + N), .bool E] (0, 0) _ rfl (by
        refine blk_put (cs := #[.int .i64 p, .int .i64 (K), .int .i64 (K + N), .bool false]) ?_ 3 _ rfl
        refine blk_put (cs := #[.int .i64 p, .int .i64 (K), .int .i64 0, .bool false]) ?_ 2 _ rfl
        refine blk_put (cs := #[.int .i64 p, .int .i64 0, .int .i64 0, .bool false]) ?_ 1 _ rfl
        refine blk_put (cs := #[.int .i64 0, .int .i64 0, .int .i64 0, .bool false]) ?_ 0 _ rfl
        exact blk_far G3.out hne _) Try.underlying85 rfl (by kernel_rfl)) rfl ?_
      rw [HE.out]
      exact ⟨rfl, below_set (below_set (below_set (below_set (below_set B3.out hz) (Nat.le_refl _)) (Nat.le_refl _)) (Nat.le_refl _)) (Nat.le_refl _)⟩
    · have c2' : (y / 16 == 15) = false := by simpa using c2
      have hs := num_small b (y / 16) (p + 1) (by omega)
      have e1 : beginV b p = #[.int .i64 p, .int .i64 ((p : Int) + 1), .int .i64 ((p : Int) + 1 + y / 16), .bool true] := by
        unfold beginV
        rw [if_neg HC.out, ← HY.out, hs.1, hs.2.1, hs.2.2, show ((p + 1 : Nat) : Int) = (p : Int) + 1 by omega]
        rfl
      rw [← HD.out] at e1
      have HE := Aside0.mk e1
      clear hs e1 c2
      go_upto_region 7 with fail
      have hs0 : 0 ≤ ((p : Int) + 1) + (y / 16) := by omega
      have x00 : w2.cell? ⟨w.heap.size, 0, none⟩ = some (.int .i64 0) := (blk_cell G0.out 0).trans rfl
      have z00 : w2.frozen? ⟨w.heap.size, 0, none⟩ = false := blk_frozen G0.out 0
      have x01 : w2.cell? ⟨w.heap.size, 1, none⟩ = some (.int .i64 0) := (blk_cell G0.out 1).trans rfl
      have z01 : w2.frozen? ⟨w.heap.size, 1, none⟩ = false := blk_frozen G0.out 1
      have x02 : w2.cell? ⟨w.heap.size, 2, none⟩ = some (.int .i64 0) := (blk_cell G0.out 2).trans rfl
      have z02 : w2.frozen? ⟨w.heap.size, 2, none⟩ = false := blk_frozen G0.out 2
      have x03 : w2.cell? ⟨w.heap.size, 3, none⟩ = some (.bool false) := (blk_cell G0.out 3).trans rfl
      have z03 : w2.frozen? ⟨w.heap.size, 3, none⟩ = false := blk_frozen G0.out 3
      have x10 : w2.cell? ⟨w.heap.size + 1, 0, none⟩ = some (.int .i64 p) := (blk_cell G1.out 0).trans rfl
      have z10 : w2.frozen? ⟨w.heap.size + 1, 0, none⟩ = false := blk_frozen G1.out 0
      have x11 : w2.cell? ⟨w.heap.size + 1, 1, none⟩ = some (.int .i64 ((p : Int) + 1)) := (blk_cell G1.out 1).trans rfl
      have z11 : w2.frozen? ⟨w.heap.size + 1, 1, none⟩ = false := blk_frozen G1.out 1
      have x12 : w2.cell? ⟨w.heap.size + 1, 2, none⟩ = some (.int .i64 0) := (blk_cell G1.out 2).trans rfl
      have z12 : w2.frozen? ⟨w.heap.size + 1, 2, none⟩ = false := blk_frozen G1.out 2
      have x13 : w2.cell? ⟨w.heap.size + 1, 3, none⟩ = some (.bool true) := (blk_cell G1.out 3).trans rfl
      have z13 : w2.frozen? ⟨w.heap.size + 1, 3, none⟩ = false := blk_frozen G1.out 3
      go_wp2
      have hne : w.heap.size ≠ w.heap.size + 1 := by omega
      have hz : w.heap.size ≤ w.heap.size + 1 := by omega
      refine bodyPost_ret (results_cell_row rfl _ _ w.heap.size 85 #[.int .i64 p, .int .i64 (((p : Int) + 1)), .int .i64 (((p : Int) + 1) + (y / 16)), .bool true] (0, 0) _ rfl (by
        refine blk_put (cs := #[.int .i64 p, .int .i64 (((p : Int) + 1)), .int .i64 (((p : Int) + 1) + (y / 16)), .bool false]) ?_ 3 _ rfl
        refine blk_put (cs := #[.int .i64 p, .int .i64 (((p : Int) + 1)), .int .i64 0, .bool false]) ?_ 2 _ rfl
        refine blk_put (cs := #[.int .i64 p, .int .i64 0, .int .i64 0, .bool false]) ?_ 1 _ rfl
        refine blk_put (cs := #[.int .i64 0, .int .i64 0, .int .i64 0, .bool false]) ?_ 0 _ rfl
        exact blk_far G0.out hne _) Try.underlying85 rfl (by kernel_rfl)) rfl ?_
      rw [HE.out]
      exact ⟨rfl, below_set (below_set (below_set (below_set (below_set B2.out hz) (Nat.le_refl _)) (Nat.le_refl _)) (Nat.le_refl _)) (Nat.le_refl _)⟩
/-- What match answers, the tokens' place k. -/
def matchOut (b : List Int) (k k2 : Nat) : Int × Int × Int × Int :=
  if (b.length : Int) - (k2 : Int) < 2 then (0, 0, (b.length : Int), 4) else
  if b.getD k2 0 + b.getD (k2 + 1) 0 * 256 = 0 then (0, 0, (k2 : Int), 30) else
  if numE b (b.getD k 0 % 16) (k2 + 2) ≠ 0 then (0, 0, (b.length : Int), 4) else
  (b.getD k2 0 + b.getD (k2 + 1) 0 * 256, numS b (b.getD k 0 % 16) (k2 + 2) + 4, (moreK b (b.getD k 0 % 16) (k2 + 2) : Int), 0)
def matchV (R : Int × Int × Int × Int) : Value := .tuple #[.int .i64 R.1, .int .i64 R.2.1, .int .i64 R.2.2.1, .int .i64 R.2.2.2]
set_option maxHeartbeats 4000000 in
set_option maxRecDepth 100000 in
theorem rmatch_calls (A : Option Addr) (c : Nat) (b : List Int) (p k2 : Nat) (w : World) (hr : ReadsInt w .u8 A b.length b) (hc : b.length ≤ c) (hb : Byt b) (hl : b.length ≤ 140737488355327) (hp : p < b.length) (h2 : k2 ≤ b.length) :
    Calls Try.prog 56 #[.slice A b.length c, .int .i64 (p : Int), .int .i64 (k2 : Int)] w fun e w' => e = .returned (matchV (matchOut b p k2)) ∧ ∃ m, w' = w.drewN m := by
  obtain ⟨R, hR⟩ : ∃ R, R = matchOut b p k2 := ⟨_, rfl⟩
  rw [← hR]
  have HR := Aside0.mk hR
  have HRB := Aside0.mk hr
  have HB := Aside0.mk hb
  by_cases c1 : (b.length : Int) - (k2 : Int) < 2
  · have e1 : R = (0, 0, (b.length : Int), 4) := by rw [hR, matchOut, if_pos c1]
    have HE := Aside0.mk e1
    have c1' : (k2 : Int) + 2 > (b.length : Int) := by omega
    clear hr hb e1 hR c1
    go_enter Try.func56, Try.ntmps56
    go_wp2
    refine bodyPost_ret (results_list (rs := [.tmp 6, .tmp 7, .tmp 8, .tmp 9]) rfl (by simp) (.tmp (.tmp (.tmp (.tmp .nil))))) rfl ?_
    rw [HE.out]
    exact ⟨rfl, 0, rfl⟩
  · have c1' : ¬ ((k2 : Int) + 2 > (b.length : Int)) := by omega
    obtain ⟨ad, rfl, hcell⟩ := hr.2.2 (by omega)
    obtain ⟨y0, hy0⟩ : ∃ y, y = b.getD k2 0 := ⟨_, rfl⟩
    obtain ⟨y1, hy1⟩ : ∃ y, y = b.getD (k2 + 1) 0 := ⟨_, rfl⟩
    obtain ⟨t, ht⟩ : ∃ y, y = b.getD p 0 := ⟨_, rfl⟩
    have xa := hcell k2 (by omega)
    have xb := hcell (k2 + 1) (by omega)
    have xt := hcell p hp
    have b0 := hb k2
    have b1 := hb (k2 + 1)
    have b2 := hb p
    rw [← hy0] at xa b0
    rw [← hy1] at xb b1
    rw [← ht] at xt b2
    have HT := Aside0.mk xt
    obtain ⟨y00, y01⟩ := b0
    obtain ⟨y10, y11⟩ := b1
    obtain ⟨t0, t1⟩ := b2
    have HY := Aside0.mk (And.intro hy0 (And.intro hy1 ht))
    have HC := Aside0.mk c1
    rw [add_pos ad (k2 + 1) (by omega)] at xb
    have q1 : (0 : Int) ≤ (k2 : Int) := by omega
    have q2 : (k2 : Int) + 1 < (b.length : Int) := by omega
    have q3 : (k2 : Int) < (b.length : Int) := by omega
    have q4 : (0 : Int) ≤ (k2 : Int) + 1 := by omega
    have q5 : (0 : Int) ≤ (p : Int) := by omega
    have q6 : (p : Int) < (b.length : Int) := by omega
    clear hr hb hR c1 hy0 hy1 ht hcell xt
    go_enter Try.func56, Try.ntmps56
    go_upto_region 3 with fail
    have hw1 : IntKind.i64.wrap ((k2 : Int) + 1) = (k2 : Int) + 1 := (i64_w _).trans (IntWalk.wrap64_in _ (by omega))
    have hw2 : IntKind.i64.wrap (256 * y1) = 256 * y1 := (i64_w _).trans (IntWalk.wrap64_in _ (by clear hw1; omega))
    have hw3 : IntKind.i64.wrap (y0 + 256 * y1) = y0 + 256 * y1 := (i64_w _).trans (IntWalk.wrap64_in _ (by clear hw1 hw2; omega))
    go_quiet (fail)
    clear hw1 hw2 hw3
    have xt : (w.drewN nq).cell? (ad.add p) = some (.int .u8 t) := HT.out
    have HRN := Aside0.mk (show ReadsInt (w.drewN nq) .u8 (some ad) b.length b from HRB.out)
    have HN := Aside0.mk (show ∃ m, w.drewN nq = w.drewN m from ⟨nq, rfl⟩)
    generalize w.drewN nq = w2 at xt HRN HN ⊢
    clear xa xb
    by_cases c2 : y0 + 256 * y1 = 0
    · have e1 : R = (0, 0, (k2 : Int), 30) := by rw [HR.out, matchOut, if_neg HC.out, ← HY.out.1, ← HY.out.2.1, if_pos (by omega)]
      have HE := Aside0.mk e1
      clear e1
      go_wp2
      refine bodyPost_ret (results_list (rs := [.tmp 6, .tmp 7, .tmp 8, .tmp 9]) rfl (by simp) (.tmp (.tmp (.tmp (.tmp .nil))))) rfl ?_
      rw [HE.out]
      exact ⟨rfl, HN.out⟩
    · obtain ⟨bk, hbk⟩ : ∃ bk, bk = y0 + 256 * y1 := ⟨_, rfl⟩
      rw [← hbk] at c2 ⊢
      have e0 : R = if numE b (t % 16) (k2 + 2) ≠ 0 then (0, 0, (b.length : Int), 4) else (bk, numS b (t % 16) (k2 + 2) + 4, (moreK b (t % 16) (k2 + 2) : Int), 0) := by
        rw [HR.out, matchOut, if_neg HC.out, ← HY.out.1, ← HY.out.2.1, if_neg (by omega), ← HY.out.2.2, show y0 + y1 * 256 = bk by omega]
      have HE0 := Aside0.mk e0
      clear e0 hbk
      by_cases c3 : t % 16 = 15
      · have c3' : (t % 16 == 15) = true := by rw [c3]; rfl
        have HRD := Aside0.mk (read_calls (some ad) c b (k2 + 2) w2 HRN.out hc HB.out hl (by omega))
        rw [show ((k2 + 2 : Nat) : Int) = (k2 : Int) + 2 by omega] at HRD
        have hf := num_facts (b := b) (n := 15) (k := k2 + 2) HB.out (by decide) (by decide) (by omega)
        rw [c3] at HE0
        have hE : numE b 15 (k2 + 2) = 4 ∨ numE b 15 (k2 + 2) = 0 := by omega
        have hK : 0 ≤ (moreK b 15 (k2 + 2) : Int) ∧ (moreK b 15 (k2 + 2) : Int) ≤ 140737488355327 ∧ 0 ≤ numS b 15 (k2 + 2) ∧ numS b 15 (k2 + 2) ≤ 36028797018963968 := by omega
        generalize (moreK b 15 (k2 + 2) : Int) = K at HRD hK HE0
        generalize numS b 15 (k2 + 2) = N at HRD hK HE0
        generalize numE b 15 (k2 + 2) = E at HRD hE HE0
        obtain ⟨hK0, hK1, hN0, hN1⟩ := hK
        clear hf c3
        rcases hE with rfl | rfl
        · have e1 : R = (0, 0, (b.length : Int), 4) := by rw [HE0.out, if_pos (by decide)]
          rw [show decide ((4 : Int) = 0) = false by decide] at HRD
          have HE := Aside0.mk e1
          clear e1
          go_wp2_with (go_at_call 91; refine HRD.out.mono ?_; rintro e w3 ⟨rfl, m, rfl⟩)
          refine bodyPost_ret (results_list (rs := [.tmp 6, .tmp 7, .tmp 8, .tmp 9]) rfl (by simp) (.tmp (.tmp (.tmp (.tmp .nil))))) rfl ?_
          rw [HE.out]
          exact ⟨rfl, by obtain ⟨m1, rfl⟩ := HN.out; exact ⟨m1 + m, by simp [World.drewN, Nat.add_assoc]⟩⟩
        · have e1 : R = (bk, N + 4, K, 0) := by rw [HE0.out, if_neg (by decide)]
          rw [show decide ((0 : Int) = 0) = true by decide] at HRD
          have HE := Aside0.mk e1
          clear e1
          go_wp2_with (go_at_call 91; refine HRD.out.mono ?_; rintro e w3 ⟨rfl, m, rfl⟩)
          refine bodyPost_ret (results_list (rs := [.tmp 6, .tmp 7, .tmp 8, .tmp 9]) rfl (by simp) (.tmp (.tmp (.tmp (.tmp .nil))))) rfl ?_
          rw [HE.out]
          exact ⟨rfl, by obtain ⟨m1, rfl⟩ := HN.out; exact ⟨m1 + m, by simp [World.drewN, Nat.add_assoc]⟩⟩
      · have c3' : (t % 16 == 15) = false := by simpa using c3
        have hs := num_small b (t % 16) (k2 + 2) (by omega)
        have e1 : R = (bk, t % 16 + 4, (k2 : Int) + 2, 0) := by
          rw [HE0.out, hs.2.2, if_neg (by decide), hs.1, hs.2.1, show ((k2 + 2 : Nat) : Int) = (k2 : Int) + 2 by omega]
        have HE := Aside0.mk e1
        clear e1 hs c3
        go_wp2
        refine bodyPost_ret (results_list (rs := [.tmp 6, .tmp 7, .tmp 8, .tmp 9]) rfl (by simp) (.tmp (.tmp (.tmp (.tmp .nil))))) rfl ?_
        rw [HE.out]
        exact ⟨rfl, HN.out⟩
end Go.Proofs.Ytnomebkdhjigjaa.W
namespace Go.Proofs.Ytnomebkdhjigjaa.MLzDecodes
set_option linter.unusedVariables false
open Go.RowKit Go.Proofs.YtnomebkdhjigjaaW.PrintWords Go.Proofs.YtnomebkdhjigjaaW.PrintLast Go.Proofs.YtnomebkdhjigjaaW.PrintMore
def satchelref03_begin.f (k : Nat) (l0 : List Int) (a1 : Int) : Option (Int × Int × Int × Bool) := if W.bytesB l0 = true ∧ l0.length ≤ 140737488355327 ∧ 0 ≤ a1 ∧ a1 ≤ (l0.length : Int) then some (if a1.toNat = l0.length then (a1, 0, 0, false) else (a1, (W.moreK l0 (l0.getD a1.toNat 0 / 16) (a1.toNat + 1) : Int), (W.moreK l0 (l0.getD a1.toNat 0 / 16) (a1.toNat + 1) : Int) + W.numS l0 (l0.getD a1.toNat 0 / 16) (a1.toNat + 1), decide (W.numE l0 (l0.getD a1.toNat 0 / 16) (a1.toNat + 1) = 0))) else none
theorem satchelref03_begin.mono : ∀ a0 a1 k, LeO (satchelref03_begin.f k a0 a1) (satchelref03_begin.f (k + 1) a0 a1) := fun _ _ _ => LeO.refl _
theorem satchelref03_begin.calls (k : Nat) (A0 : Option Addr) (c0 : Nat) (l0 : List Int) (a1 : Int) (r1 : Int) (r2 : Int) (r3 : Int) (r4 : Bool) (w : World) (hr0 : Kd.C (Kd.int .u8) w A0 l0.length l0) (hc0 : l0.length ≤ c0) (h : satchelref03_begin.f k l0 a1 = some (r1, r2, r3, r4)) :
    Calls Try.prog 55 #[.slice A0 l0.length c0, .int .i64 a1] w fun e w' => e = .returned (.agg #[.int .i64 r1, .int .i64 r2, .int .i64 r3, .bool r4]) ∧ Below w.heap.size w w' := by
  unfold satchelref03_begin.f at h
  by_cases c : W.bytesB l0 = true ∧ l0.length ≤ 140737488355327 ∧ 0 ≤ a1 ∧ a1 ≤ (l0.length : Int)
  · rw [if_pos c] at h
    obtain ⟨n, rfl⟩ := Int.eq_ofNat_of_zero_le c.2.2.1
    refine (W.begin_calls A0 c0 l0 n w (W.reads_of_C hr0) hc0 (W.byt_of _ c.1) c.2.1 (by omega)).mono ?_
    rintro e w' ⟨he, hb⟩
    refine ⟨?_, hb⟩
    rw [he]
    have e := Option.some.inj h
    rw [Int.toNat_natCast] at e
    unfold W.beginV
    by_cases c2 : n = l0.length
    · rw [if_pos c2] at e ⊢
      obtain ⟨rfl, rfl, rfl, rfl⟩ := e
      rfl
    · rw [if_neg c2] at e ⊢
      obtain ⟨rfl, rfl, rfl, rfl⟩ := e
      rfl
  · rw [if_neg c] at h
    cases h
def satchelref03_match.f (k : Nat) (l0 : List Int) (a1 : Int) (a2 : Int) : Option (Int × Int × Int × Int) := if W.bytesB l0 = true ∧ l0.length ≤ 140737488355327 ∧ 0 ≤ a1 ∧ a1 < (l0.length : Int) ∧ 0 ≤ a2 ∧ a2 ≤ (l0.length : Int) then some (W.matchOut l0 a1.toNat a2.toNat) else none
theorem satchelref03_match.mono : ∀ a0 a1 a2 k, LeO (satchelref03_match.f k a0 a1 a2) (satchelref03_match.f (k + 1) a0 a1 a2) := fun _ _ _ _ => LeO.refl _
theorem satchelref03_match.calls (k : Nat) (A0 : Option Addr) (c0 : Nat) (l0 : List Int) (a1 : Int) (a2 : Int) (r1 : Int) (r2 : Int) (r3 : Int) (r4 : Int) (w : World) (hr0 : Kd.C (Kd.int .u8) w A0 l0.length l0) (hc0 : l0.length ≤ c0) (h : satchelref03_match.f k l0 a1 a2 = some (r1, r2, r3, r4)) :
    Calls Try.prog 56 #[.slice A0 l0.length c0, .int .i64 a1, .int .i64 a2] w fun e w' => e = .returned (.tuple #[.int .i64 r1, .int .i64 r2, .int .i64 r3, .int .i64 r4]) ∧ Drawn0 w w' := by
  unfold satchelref03_match.f at h
  by_cases c : W.bytesB l0 = true ∧ l0.length ≤ 140737488355327 ∧ 0 ≤ a1 ∧ a1 < (l0.length : Int) ∧ 0 ≤ a2 ∧ a2 ≤ (l0.length : Int)
  · rw [if_pos c] at h
    obtain ⟨n, rfl⟩ := Int.eq_ofNat_of_zero_le c.2.2.1
    obtain ⟨m, rfl⟩ := Int.eq_ofNat_of_zero_le c.2.2.2.2.1
    refine (W.rmatch_calls A0 c0 l0 n m w (W.reads_of_C hr0) hc0 (W.byt_of _ c.1) c.2.1 (by omega) (by omega)).mono ?_
    rintro e w' ⟨he, m1, hm⟩
    refine ⟨?_, by first | exact ⟨m1, hm⟩ | exact ⟨m1, hm.symm⟩⟩
    have e := Option.some.inj h
    rw [Int.toNat_natCast, Int.toNat_natCast] at e
    rw [he, e]
    rfl
  · rw [if_neg c] at h
    cases h
end Go.Proofs.Ytnomebkdhjigjaa.MLzDecodes
