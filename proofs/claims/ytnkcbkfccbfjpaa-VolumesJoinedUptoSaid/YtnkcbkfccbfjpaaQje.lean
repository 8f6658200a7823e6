/- Contracts and plain facts (texts of mine, and printed ones, made one; what nothing leads to is left out). -/
import Derived.Deep.QuietTactic
import Derived.BigQuiet
import Derived.OwnWalk
import Derived.Lib.SliceRun
import Derived.Test.YtnkcbkfccbfjpaaQjd
/- Volumes: gather (f69). -/

namespace Go.Proofs.Ytnkcbkfccbfjpaa.Z
open Go.RowKit Go.Proofs.Ytnkcbkfccbfjpaa.XxhW Go.Proofs.Ytnkcbkfccbfjpaa.QVolumesCuts Go.Proofs.YtnkcbkfccbfjpaaW.PrintWords Go.Proofs.YtnkcbkfccbfjpaaW.PrintLast Go.Proofs.YtnkcbkfccbfjpaaW.PrintMore
set_option linter.unusedVariables false
set_option linter.unusedSimpArgs false
/-- The first loop: volumes that have been read. -/
structure G1 (gE : List Int → Int) (vO : List Int → Vol) (L : List (List Int)) (w W : World) (v : Value) (i : Nat) : Prop where
  bel : Below w.heap.size w W
  row : ∃ cs, Kd.R kV 88 W w.heap.size (fun _ => True) v cs ∧ cs.map VolC.v = (L.take i).map vO ∧ Views w cs
  good : ∀ b ∈ L.take i, gE b = 0
theorem G1.below {gE : List Int → Int} {vO : List Int → Vol} {L : List (List Int)} {w W W' : World} {v : Value} {i : Nat} (h : G1 gE vO L w W v i) (hb : Below W.heap.size W W') : G1 gE vO L w W' v i := by
  obtain ⟨cs, h1, h2, h3⟩ := h.row
  exact ⟨below_step h.bel hb, ⟨cs, Kd.R_below h1 hb, h2, h3⟩, h.good⟩
theorem G1.snoc {gE : List Int → Int} {vO : List Int → Vol} {L : List (List Int)} {w W' : World} {v' : Value} {i : Nat} {cs : List VolC} {x : VolC} (hi : i < L.length) (h2 : cs.map VolC.v = (L.take i).map vO) (h3 : Views w cs) (hg : ∀ b ∈ L.take i, gE b = 0)
    (hx : x.v = vO (L.getD i [])) (hv : ReadsInt w .u8 x.A x.v.b.length x.v.b ∧ x.v.b.length ≤ x.c ∧ x.v.b.length ≤ 100000000 ∧ ∀ q ∈ x.v.b, 0 ≤ q ∧ q < 256) (he : gE (L.getD i []) = 0) (hb : Below w.heap.size w W') (hr : Kd.R kV 88 W' w.heap.size (fun _ => True) v' (cs ++ [x])) : G1 gE vO L w W' v' (i + 1) := by
  have ht : L.take (i + 1) = L.take i ++ [L.getD i []] := by rw [List.take_succ_eq_append_getElem hi, List.getD_eq_getElem?_getD, List.getElem?_eq_getElem hi]; rfl
  refine ⟨hb, ⟨_, hr, ?_, fun y hy => ?_⟩, fun b hbm => ?_⟩
  · rw [List.map_append, h2, ht, List.map_append, List.map_singleton, List.map_singleton, hx]
  · rcases List.mem_append.1 hy with hy | hy
    · exact h3 y hy
    · rw [List.mem_singleton.1 hy]; exact hv
  · rw [ht] at hbm
    rcases List.mem_append.1 hbm with hbm | hbm
    · exact hg b hbm
    · rw [List.mem_singleton.1 hbm]; exact he
/-- The second loop: the slots filled so far. -/
structure G2 (w W : World) (g4 c4 gl cl gw : Nat) (v0 : Vol) (cs : List VolC) (n i : Nat) (P : List (Option (List Int))) : Prop where
  bel : Below w.heap.size w W
  rowV : Kd.R kV 88 W w.heap.size (fun _ => True) (.slice (some ⟨g4, 0, none⟩) cs.length c4) cs
  blk : W.heap[gw]? = some (.cells #[.int .u64 v0.set, .int .i64 v0.num, .int .i64 v0.cnt, .bool v0.sp, .int .i64 v0.whole, .int .i64 v0.off, .int .i64 v0.size, .int .i64 (stepV v0), .slice (some ⟨gl, 0, none⟩) n cl] 119 (0, 0))
  rowP : ∃ ps, Kd.R kP 116 W w.heap.size (fun _ => True) (.slice (some ⟨gl, 0, none⟩) n cl) ps ∧
    ∀ k, k < n → (ps.getD k none = none ∧ slot P k = none) ∨ ∃ j, j < i ∧ ps.getD k none = some ⟨g4, j * 8, none⟩ ∧ slot P k = some (cs.getD j zVol).v.b
  len : P.length = n
  fill : fillAll v0 (cs.map VolC.v) (List.replicate n none) = fillAll v0 ((cs.drop i).map VolC.v) P
theorem G2.below {w W W' : World} {g4 c4 gl cl gw : Nat} {v0 : Vol} {cs : List VolC} {n i : Nat} {P : List (Option (List Int))} (h : G2 w W g4 c4 gl cl gw v0 cs n i P) (hb : Below W.heap.size W W') : G2 w W' g4 c4 gl cl gw v0 cs n i P := by
  obtain ⟨ps, h1, h2⟩ := h.rowP
  exact ⟨below_step h.bel hb, Kd.R_below h.rowV hb, (hb.block _ (blk_lt h.blk)).trans h.blk, ⟨ps, Kd.R_below h1 hb, h2⟩, h.len, h.fill⟩
theorem slot_set (P : List (Option (List Int))) (m k : Nat) (o : Option (List Int)) (hm : m < P.length) : slot (P.set m o) k = if k = m then o else slot P k := by
  unfold slot
  rw [List.getD_eq_getElem?_getD, List.getElem?_set]
  by_cases h : m = k
  · subst h
    rw [if_pos rfl, if_pos hm, if_pos rfl]; rfl
  · rw [if_neg h, if_neg (fun e => h e.symm), List.getD_eq_getElem?_getD]
theorem fill_next {v0 : Vol} {cs : List VolC} {i : Nat} {P : List (Option (List Int))} (hi : i < cs.length) (y : VolC) (hy : y = cs.getD i zVol) :
    fillAll v0 ((cs.drop i).map VolC.v) P = if agree v0 y.v = true ∧ (slot P y.v.num.toNat = none ∨ slot P y.v.num.toNat = some y.v.b) then fillAll v0 ((cs.drop (i + 1)).map VolC.v) (P.set y.v.num.toNat (some y.v.b)) else none := by
  have h : cs.drop i = y :: cs.drop (i + 1) := by rw [List.drop_eq_getElem_cons hi, hy, List.getD_eq_getElem?_getD, List.getElem?_eq_getElem hi]; rfl
  rw [h, List.map_cons, fillAll]
theorem G2.step {w W : World} {g4 c4 gl cl gw : Nat} {v0 : Vol} {cs : List VolC} {n i : Nat} {P : List (Option (List Int))} (h : G2 w W g4 c4 gl cl gw v0 cs n i P) (hi : i < cs.length) {y : VolC} (hy : y = cs.getD i zVol) {m : Nat} (hm : y.v.num = (m : Int)) (hmn : m < n)
    (hag : agree v0 y.v = true) (hP : slot P m = none ∨ slot P m = some y.v.b) : G2 w (W.setCell ⟨gl, m, none⟩ (.pointer (some ⟨g4, i * 8, none⟩))) g4 c4 gl cl gw v0 cs n (i + 1) (P.set m (some y.v.b)) := by
  obtain ⟨ps, h1, h2⟩ := h.rowP
  have hn : n = ps.length := (Kd.R_reads' h1).1
  obtain ⟨cells, hcl⟩ := Kd.R_typed h1 gl (by simp [Value.ownBlock])
  have hge : w.heap.size ≤ gl := Kd.R_base h1 gl (by simp [Value.ownBlock])
  have hgw : gw ≠ gl := by
    rintro rfl
    have := h.blk.symm.trans hcl
    injection this with this
    injection this with _ this
    exact absurd this (by decide)
  have hput : Kd.R kP 116 (W.setCell ⟨gl, m, none⟩ (.pointer (some ⟨g4, i * 8, none⟩))) w.heap.size (fun _ => True) (.slice (some ⟨gl, 0, none⟩) n cl) (ps.set m (some ⟨g4, i * 8, none⟩)) := Kd.R_putn (enc := Value.pointer) (h1 := fun _ => rfl) h1 (m : Int) (some ⟨g4, i * 8, none⟩)
  refine ⟨below_set h.bel hge, Kd.R_set h.rowV hcl (by decide) _ _, (Below.heap_setCell W ⟨gl, m, none⟩ _ gw hgw).trans h.blk, ⟨_, hput, fun k hk => ?_⟩, by rw [List.length_set]; exact h.len, ?_⟩
  · rw [slot_set _ _ _ _ (by rw [h.len]; exact hmn), List.getD_eq_getElem?_getD, List.getElem?_set]
    by_cases e : m = k
    · subst e
      rw [if_pos rfl, if_pos (by omega), if_pos rfl]
      exact .inr ⟨i, by omega, rfl, by rw [hy]⟩
    · rw [if_neg e, if_neg (fun x => e x.symm), ← List.getD_eq_getElem?_getD]
      rcases h2 k hk with h3 | ⟨j, h3, h4, h5⟩
      · exact .inl h3
      · exact .inr ⟨j, by omega, h4, h5⟩
  · rw [h.fill, fill_next hi y hy, hm, Int.toNat_natCast, if_pos ⟨hag, hP⟩]
theorem G2.whole {w W : World} {g4 c4 gl cl gw : Nat} {v0 : Vol} {cs : List VolC} {n : Nat} {P : List (Option (List Int))} (h : G2 w W g4 c4 gl cl gw v0 cs n cs.length P) (hn : v0.cnt.toNat + 1 = n) (hv : Views w cs) (hle : w.heap.size ≤ gw) : Whole w W gw v0 P := by
  obtain ⟨ps, h1, h2⟩ := h.rowP
  subst hn
  obtain ⟨cells, hcl⟩ := Kd.R_typed h1 gl (by simp [Value.ownBlock])
  obtain ⟨cells4, hc4⟩ := Kd.R_typed h.rowV g4 (by simp [Value.ownBlock])
  have hge : w.heap.size ≤ g4 := Kd.R_base h.rowV g4 (by simp [Value.ownBlock])
  have n1 : g4 ≠ gl := by
    rintro rfl
    have := hc4.symm.trans hcl
    injection this with this
    injection this with _ this
    exact absurd this (by decide)
  have n2 : g4 ≠ gw := by
    rintro rfl
    have := hc4.symm.trans h.blk
    injection this with this
    injection this with _ this
    exact absurd this (by decide)
  refine ⟨hle, gl, cl, ps, h.blk, h1, h.len, fun k hk => ?_⟩
  rcases h2 k hk with h3 | ⟨j, h3, h4, h5⟩
  · exact .inl h3
  · obtain ⟨_, _, hC⟩ := Kd.R_reads' h.rowV
    obtain ⟨ad, e, hat⟩ := at_V hC j h3
    injection e with e
    subst e
    rw [add_plain] at hat
    obtain ⟨v1, v2, v3, v4⟩ := hv (cs.getD j zVol) (by rw [List.getD_eq_getElem?_getD, List.getElem?_eq_getElem h3, Option.getD_some]; exact List.getElem_mem _)
    exact .inr ⟨_, _, h4, h5, hat, hge, n1, n2, v1, v2, v3, v4⟩
theorem gather_eq (gE : List Int → Int) (vO : List Int → Vol) (L : List (List Int)) (x : VolC) (cs ll : List VolC) (n : Nat) (hE : firstE gE L = 0) (hl : ll = x :: cs) (hm : ll.map VolC.v = L.map vO) (hn : x.v.cnt.toNat + 1 = n) :
    gatherR gE vO L = match fillAll x.v (ll.map VolC.v) (List.replicate n none) with | none => (271, zVol.v, []) | some P => (0, x.v, P) := by
  unfold gatherR
  rw [if_pos hE, ← hm, hl, List.map_cons, ← hn]
  rfl
set_option maxHeartbeats 8000000 in
set_option maxRecDepth 100000 in
theorem gather_calls (gE : List Int → Int) (vO : List Int → Vol)
    (HGET : ∀ (A : Option Addr) (c : Nat) (b : List Int) (w : World), ReadsInt w .u8 A b.length b → b.length ≤ c → b.length ≤ 100000000 → (∀ q ∈ b, 0 ≤ q ∧ q < 256) → gE b = 0 → Calls Try.prog 67 #[.slice A b.length c] w fun e w' => Below w.heap.size w w' ∧
      (∃ x : VolC, x.v = vO b ∧ e = .returned (.tuple #[.agg #[.int .u64 x.v.set, .int .i64 x.v.num, .int .i64 x.v.cnt, .bool x.v.sp, .int .i64 x.v.whole, .int .i64 x.v.off, .int .i64 x.v.size, .slice x.A x.v.b.length x.c], .int .i64 0]) ∧ (∀ W : World, ReadsInt W .u8 A b.length b → ReadsInt W .u8 x.A x.v.b.length x.v.b) ∧ x.v.b.length ≤ x.c ∧ x.v.b.length ≤ 100000000 ∧ ∀ q ∈ x.v.b, 0 ≤ q ∧ q < 256))
    (HOK : ∀ b, gE b = 0 → volumes_volume_step.f 9 (vO b).set (vO b).num (vO b).cnt (vO b).sp (vO b).whole (vO b).off (vO b).size (vO b).b = some (stepV (vO b)) ∧ 1 ≤ (vO b).cnt ∧ (vO b).cnt ≤ 1000 ∧ 0 ≤ (vO b).num ∧ (vO b).num ≤ (vO b).cnt)
    (A : Option Addr) (c : Nat) (L : List (List Int)) (w : World) (hr : Kd.C (Kd.slice 5 (Kd.int .u8)) w A L.length L) (H0 : (gatherR gE vO L).1 = 0 ∨ L = []) (hc : L.length ≤ c) (hL : ∀ b ∈ L, b.length ≤ 100000000 ∧ ∀ q ∈ b, 0 ≤ q ∧ q < 256) (hn : L.length ≤ 1000000000) :
    Calls Try.prog 69 #[.slice A L.length c] w fun e w' => Below w.heap.size w w' ∧ ((gatherR gE vO L).1 ≠ 0 → e = .returned (.tuple #[.pointer none, .int .i64 (gatherR gE vO L).1])) ∧
      ((gatherR gE vO L).1 = 0 → ∃ gw, e = .returned (.tuple #[.pointer (some ⟨gw, 0, none⟩), .int .i64 0]) ∧ Whole w w' gw (gatherR gE vO L).2.1 (gatherR gE vO L).2.2) := by
  have HB := Aside0.mk (Below.refl w.heap.size w)
  have HR := Aside0.mk hr
  have HL := Aside0.mk hL
  have HO := Aside0.mk HOK
  have HG := Aside0.mk HGET
  have HN := Aside0.mk hn
  have HA0 := Aside0.mk (show ∀ b ∈ L, gE b = 0 from fun b hb => by
    rcases H0 with h | h
    · refine firstE_ok gE L ?_ b hb
      unfold gatherR at h
      by_cases e : firstE gE L = 0
      · exact e
      · rw [if_neg e] at h; exact absurd h e
    · rw [h] at hb; exact absurd hb (by simp))
  have HH0 := Aside0.mk H0
  clear H0
  clear hr hL HOK HGET hn
  obtain ⟨k, hk⟩ : ∃ k, k = L.length + 1 := ⟨_, rfl⟩
  have HK := Aside0.mk hk
  clear hk
  refine hide_post (fun Q HQ => ?_)
  go_enter Try.func69, Try.ntmps69
  go_upto_region 3 with fail
  go_loopg [4, 15] k (fun kq v4 v15 w' => ∃ i : Nat, v15 = .int .i64 (i : Int) ∧ Aside0 (G1 gE vO L w w' v4 i) ∧ Aside0 (i ≤ L.length ∧ L.length < i + kq))
  case atStart =>
    refine ⟨0, by first | rfl | (simp; done), ⟨⟨HB.out, ⟨[], Kd.R_nil _ _ _ _ _, rfl, fun x hx => absurd hx (by simp)⟩, fun b hb => absurd hb (by simp)⟩⟩, ⟨Nat.zero_le _, by have := HK.out; omega⟩⟩
  case round =>
    obtain ⟨i, rfl, HI, HM⟩ := hrel
    cases gk with
    | zero => exact absurd HM.out (by omega)
    | succ k1 =>
    by_cases hi : i < L.length
    · have hd : decide (i < L.length) = true := decide_eq_true hi
      obtain ⟨ad, A0, c0, hA, hcell, hl0, hC0⟩ := at_L1 HR.out (i : Int) (by omega) (by omega)
      rw [rdL_at] at hcell hl0 hC0
      rw [Int.toNat_natCast] at hcell
      subst hA
      obtain ⟨b, hb⟩ : ∃ b, b = L.getD i [] := ⟨_, rfl⟩
      rw [← hb] at hcell hl0 hC0
      have hbm : b ∈ L := by rw [hb, List.getD_eq_getElem?_getD, List.getElem?_eq_getElem hi, Option.getD_some]; exact List.getElem_mem _
      have HV := Aside0.mk (Kd.reads_of_C (enc := Value.int .u8) (d := (0 : Int)) (h1 := fun _ => rfl) hC0)
      have HCG := Aside0.mk (fun (W : World) (hW : Below w.heap.size w W) => HG.out A0 c0 b W (HV.out.below hW) hl0 (HL.out b hbm).1 (HL.out b hbm).2 (HA0.out b hbm))
      have HE0 := Aside0.mk (HA0.out b hbm)
      have hx := pw_cell_below HI.out.bel hcell
      have HBE := Aside0.mk hb
      clear hcell hl0 hC0 hbm hb
      have HIL := Aside0.mk hi
      by_cases hE : gE b = 0
      · have HX := Aside0.mk hE
        clear hE
        go_upto_region 8 with (go_at_call 67; refine (HCG.out _ HI.out.bel).mono ?_; rintro e w5 ⟨hb, h2⟩; obtain ⟨x, hxv, rfl, hxr, hxc, hxl⟩ := h2; have HB5 := Aside0.mk hb; have HXV := Aside0.mk hxv; have HXR := Aside0.mk hxr; have HXC := Aside0.mk (show _ ∧ _ from ⟨hxc, hxl⟩); clear hb hxv hxr hxc hxl)
        have HQ5 := Aside0.mk (below_alloc HB5.out (.cells #[.int .u64 x.v.set, .int .i64 x.v.num, .int .i64 x.v.cnt, .bool x.v.sp, .int .i64 x.v.whole, .int .i64 x.v.off, .int .i64 x.v.size, .slice x.A x.v.b.length x.c] 88))
        have HG8 := Aside0.mk (heap_alloc_new w5 (.cells #[.int .u64 x.v.set, .int .i64 x.v.num, .int .i64 x.v.cnt, .bool x.v.sp, .int .i64 x.v.whole, .int .i64 x.v.off, .int .i64 x.v.size, .slice x.A x.v.b.length x.c] 88))
        obtain ⟨wq, hwq⟩ : ∃ wq, wq = w5.alloc (.cells #[.int .u64 x.v.set, .int .i64 x.v.num, .int .i64 x.v.cnt, .bool x.v.sp, .int .i64 x.v.whole, .int .i64 x.v.off, .int .i64 x.v.size, .slice x.A x.v.b.length x.c] 88) := ⟨_, rfl⟩
        rw [← hwq] at HQ5 HG8 ⊢
        clear hwq
        generalize w5.heap.size = gq at HG8 HQ5 ⊢
        have HI2 := Aside0.mk (HI.out.below HQ5.out)
        obtain ⟨cs, r1, r2, r3⟩ := HI2.out.row
        have HRW := Aside0.mk r1
        have HC2 := Aside0.mk r2
        have HC3 := Aside0.mk r3
        have HLN := Aside0.mk (show cs.length = i by have := congrArg List.length r2; rw [List.length_map, List.length_map, List.length_take] at this; omega)
        clear r1 r2 r3 hx
        have y0 : wq.cell? ⟨gq, 0, none⟩ = some (.int .u64 x.v.set) := cell_of_row wq _ 0 _ 88 (0, 0) HG8.out
        have y1 : wq.cell? ⟨gq, 1, none⟩ = some (.int .i64 x.v.num) := cell_of_row wq _ 1 _ 88 (0, 0) HG8.out
        have y2 : wq.cell? ⟨gq, 2, none⟩ = some (.int .i64 x.v.cnt) := cell_of_row wq _ 2 _ 88 (0, 0) HG8.out
        have y3 : wq.cell? ⟨gq, 3, none⟩ = some (.bool x.v.sp) := cell_of_row wq _ 3 _ 88 (0, 0) HG8.out
        have y4 : wq.cell? ⟨gq, 4, none⟩ = some (.int .i64 x.v.whole) := cell_of_row wq _ 4 _ 88 (0, 0) HG8.out
        have y5 : wq.cell? ⟨gq, 5, none⟩ = some (.int .i64 x.v.off) := cell_of_row wq _ 5 _ 88 (0, 0) HG8.out
        have y6 : wq.cell? ⟨gq, 6, none⟩ = some (.int .i64 x.v.size) := cell_of_row wq _ 6 _ 88 (0, 0) HG8.out
        have y7 : wq.cell? ⟨gq, 7, none⟩ = some (.slice x.A x.v.b.length x.c) := cell_of_row wq _ 7 _ 88 (0, 0) HG8.out
        have hln : cs.length ≤ 1000000000 := by rw [HLN.out]; have := HN.out; omega
        have HB8 := Aside0.mk HI2.out.bel
        go_wp2_with ((with_reducible refine gate_builtin (b := .append) (xs := #[.tmp 27, .tmp 29]) rfl ?_); at_builtin; refine Kd.R_append kV (w0 := w) w.heap.size rfl (.tmp 27) (.tmp 29) 137 88 (.agg #[.int .u64 0, .int .i64 0, .int .i64 0, .bool false, .int .i64 0, .int .i64 0, .int .i64 0, .slice none 0 0]) 80 rfl Try.underlying137 info88 rfl (by decide) (by omega) _ cs x x.cells (fun _ => True) (fun _ => False) rfl (by first | (go_simp; done) | (go_simp; rfl)) ?aP (fun _ hk => hk.elim) (fun _ _ => trivial) ?aO ?aB ?aS ?aL ?_; (case aP => exact rfl); (case aB => exact HB8.out); (case aO => exact HRW.out); (case aS => exact HB8.out.size); (case aL => omega); intro v9 w9 ho hb hg hat; have HO9 := Aside0.mk ho; have HB9 := Aside0.mk hb; clear ho hb hg hat)
        go_roundg k1
        case measure => have := HM.out; omega
        case rel =>
          refine ⟨i + 1, by first | rfl | (rw [wrap_succ _ (by have := HN.out; omega)]), ⟨G1.snoc HIL.out HC2.out HC3.out HI.out.good (HXV.out.trans (by rw [← HBE.out])) ⟨HXR.out w HV.out, HXC.out⟩ (by rw [← HBE.out]; exact HX.out) HB9.out HO9.out⟩, ⟨by have := HIL.out; omega, by have := HM.out; omega⟩⟩
      · exact absurd HE0.out hE
    · have hd : decide (i < L.length) = false := decide_eq_false hi
      have hie : L.take i = L := List.take_of_length_le (by omega)
      obtain ⟨cs, r1, r2, r3⟩ := HI.out.row
      rw [hie] at r2
      have hfe : firstE gE L = 0 := firstE_zero gE L (by have := HI.out.good; rwa [hie] at this)
      have HCM := Aside0.mk r2
      have HVW := Aside0.mk r3
      have HRW := Aside0.mk r1
      have HBW := Aside0.mk HI.out.bel
      have HFE := Aside0.mk hfe
      have HGD := Aside0.mk (show ∀ b ∈ L, gE b = 0 by have := HI.out.good; rwa [hie] at this)
      clear hie hi hfe
      cases cs with
      | nil =>
        obtain ⟨A4, c4, rfl⟩ := Kd.R_slice r1
        clear r1 r2 r3
        have hgr : gatherR gE vO L = (272, zVol.v, []) := by unfold gatherR; rw [if_pos HFE.out, ← HCM.out]; rfl
        rw [hgr] at HQ
        clear hgr
        go_wp2
        refine HQ.out _ _ ⟨by repeat (first | exact HBW.out | apply below_alloc | apply pw_below_drewN | apply below_drew1), fun _ => rfl, fun h => absurd h (by decide)⟩
      | cons x cs =>
        obtain ⟨ll, hll⟩ : ∃ ll, ll = x :: cs := ⟨_, rfl⟩
        rw [← hll] at r1 HCM HVW HRW
        have hln : 0 < ll.length := by rw [hll]; simp
        have HLL := Aside0.mk hll
        clear hll
        obtain ⟨g4, c4, rfl, hg4, _⟩ := Kd.R_form r1 hln
        have HLE := Aside0.mk hg4
        have hz0 : ((ll.length : Int) == 0) = false := by rw [beq_eq_false_iff_ne]; omega
        clear r1 r2 r3 hg4
        have hxb : ∃ b ∈ L, x.v = vO b := by
          have h : x.v ∈ L.map vO := by rw [← HCM.out, HLL.out]; simp
          obtain ⟨b, hb, he⟩ := List.mem_map.1 h
          exact ⟨b, hb, he.symm⟩
        have hst : volumes_volume_step.f 9 x.v.set x.v.num x.v.cnt x.v.sp x.v.whole x.v.off x.v.size x.v.b = some (stepV x.v) ∧ 1 ≤ x.v.cnt ∧ x.v.cnt ≤ 1000 ∧ 0 ≤ x.v.num ∧ x.v.num ≤ x.v.cnt := by
          obtain ⟨b, hb, he⟩ := hxb
          rw [he]
          exact HO.out b (HGD.out b hb)
        clear hxb
        obtain ⟨hst, hcn1, hcn2, _, _⟩ := hst
        have hwc : wrap64 (x.v.cnt + 1) = x.v.cnt + 1 := IntWalk.wrap64_in _ (by omega)
        have HST := Aside0.mk (fun (W : World) (hW : Below w.heap.size w W) => step_callsV (W := W) HVW.out x (by rw [HLL.out]; exact List.mem_cons_self) (stepV x.v) hst hW)
        have HCN := Aside0.mk (show 1 ≤ x.v.cnt ∧ x.v.cnt ≤ 1000 from ⟨hcn1, hcn2⟩)
        obtain ⟨n, hnx⟩ : ∃ n : Nat, x.v.cnt + 1 = (n : Int) := ⟨(x.v.cnt + 1).toNat, by omega⟩
        have HNX := Aside0.mk hnx
        rw [hnx] at hwc
        clear hst hcn1 hcn2
        go_upto_region 12 with fail
        have HRd := Aside0.mk (Kd.R_drew HRW.out)
        have HBd := Aside0.mk (below_drew HBW.out)
        have p0 : wr.drew.cell? ⟨g4, 0, none⟩ = some (.int .u64 x.v.set) := by have h := Kd.R_elem HRd.out zVol 0 (by decide) (by omega); obtain ⟨cc, _, hM, hcc, _⟩ := h; obtain rfl : cc = x.cells := (by have h0 : cc = (ll.getD 0 zVol).cells := hM; rw [HLL.out] at h0; exact h0); exact hcc 0 _ rfl
        have p1 : wr.drew.cell? ⟨g4, 1, none⟩ = some (.int .i64 x.v.num) := by have h := Kd.R_elem HRd.out zVol 0 (by decide) (by omega); obtain ⟨cc, _, hM, hcc, _⟩ := h; obtain rfl : cc = x.cells := (by have h0 : cc = (ll.getD 0 zVol).cells := hM; rw [HLL.out] at h0; exact h0); exact hcc 1 _ rfl
        have p2 : wr.drew.cell? ⟨g4, 2, none⟩ = some (.int .i64 x.v.cnt) := by have h := Kd.R_elem HRd.out zVol 0 (by decide) (by omega); obtain ⟨cc, _, hM, hcc, _⟩ := h; obtain rfl : cc = x.cells := (by have h0 : cc = (ll.getD 0 zVol).cells := hM; rw [HLL.out] at h0; exact h0); exact hcc 2 _ rfl
        have p3 : wr.drew.cell? ⟨g4, 3, none⟩ = some (.bool x.v.sp) := by have h := Kd.R_elem HRd.out zVol 0 (by decide) (by omega); obtain ⟨cc, _, hM, hcc, _⟩ := h; obtain rfl : cc = x.cells := (by have h0 : cc = (ll.getD 0 zVol).cells := hM; rw [HLL.out] at h0; exact h0); exact hcc 3 _ rfl
        have p4 : wr.drew.cell? ⟨g4, 4, none⟩ = some (.int .i64 x.v.whole) := by have h := Kd.R_elem HRd.out zVol 0 (by decide) (by omega); obtain ⟨cc, _, hM, hcc, _⟩ := h; obtain rfl : cc = x.cells := (by have h0 : cc = (ll.getD 0 zVol).cells := hM; rw [HLL.out] at h0; exact h0); exact hcc 4 _ rfl
        have p5 : wr.drew.cell? ⟨g4, 5, none⟩ = some (.int .i64 x.v.off) := by have h := Kd.R_elem HRd.out zVol 0 (by decide) (by omega); obtain ⟨cc, _, hM, hcc, _⟩ := h; obtain rfl : cc = x.cells := (by have h0 : cc = (ll.getD 0 zVol).cells := hM; rw [HLL.out] at h0; exact h0); exact hcc 5 _ rfl
        have p6 : wr.drew.cell? ⟨g4, 6, none⟩ = some (.int .i64 x.v.size) := by have h := Kd.R_elem HRd.out zVol 0 (by decide) (by omega); obtain ⟨cc, _, hM, hcc, _⟩ := h; obtain rfl : cc = x.cells := (by have h0 : cc = (ll.getD 0 zVol).cells := hM; rw [HLL.out] at h0; exact h0); exact hcc 6 _ rfl
        have p7 : wr.drew.cell? ⟨g4, 7, none⟩ = some (.slice x.A x.v.b.length x.c) := by have h := Kd.R_elem HRd.out zVol 0 (by decide) (by omega); obtain ⟨cc, _, hM, hcc, _⟩ := h; obtain rfl : cc = x.cells := (by have h0 : cc = (ll.getD 0 zVol).cells := hM; rw [HLL.out] at h0; exact h0); exact hcc 7 _ rfl
        refine start_ (n := 18) (S := fun w' => w'.cell? ⟨g4, 0, none⟩ = some (.int .u64 x.v.set) ∧ w'.cell? ⟨g4, 1, none⟩ = some (.int .i64 x.v.num) ∧ w'.cell? ⟨g4, 2, none⟩ = some (.int .i64 x.v.cnt) ∧ w'.cell? ⟨g4, 3, none⟩ = some (.bool x.v.sp) ∧ w'.cell? ⟨g4, 4, none⟩ = some (.int .i64 x.v.whole) ∧ w'.cell? ⟨g4, 5, none⟩ = some (.int .i64 x.v.off) ∧ w'.cell? ⟨g4, 6, none⟩ = some (.int .i64 x.v.size) ∧ w'.cell? ⟨g4, 7, none⟩ = some (.slice x.A x.v.b.length x.c)) (ds := [16]) #[false, false, false, false, false, false, false, false, false, false, false, false, false, false, false, false, false, false] (by kernel_rfl) rfl rfl ⟨p0, p1, p2, p3, p4, p5, p6, p7⟩ (fun hHeld => ?_)
        generalize wr.drew = wd at HRd HBd hHeld p0 p1 p2 p3 p4 p5 p6 p7 ⊢
        refine pure_ (i := 0) (N := some 35) (v := ?_) (a' := ?_) #[true, false, false, false, false, false, false, false, false, false, false, false, false, false, false, false, false, false] rfl rfl (by kernel_rfl) (fun _ _ _ h => h) (Or.inl ⟨by rfl, ?_⟩) ?_ ?_
        rotate_left
        · intro w'
          go_simp
          with_reducible rfl
        rotate_left
        · simp only [Act.put, List.setIfInBounds_toArray, List.set_cons_zero, List.set_cons_succ, i64_w, i32_w]
          rfl
        refine pure_ (i := 1) (N := some 36) (v := ?_) (a' := ?_) #[true, true, false, false, false, false, false, false, false, false, false, false, false, false, false, false, false, false] rfl rfl (by kernel_rfl) (fun _ _ _ h => h) (Or.inl ⟨by rfl, ?_⟩) ?_ ?_
        rotate_left
        · intro w'
          go_simp
          with_reducible rfl
        rotate_left
        · simp only [Act.put, List.setIfInBounds_toArray, List.set_cons_zero, List.set_cons_succ, i64_w, i32_w]
          rfl
        refine pure_ (i := 2) (N := some 37) (v := ?_) (a' := ?_) #[true, true, true, false, false, false, false, false, false, false, false, false, false, false, false, false, false, false] rfl rfl (by kernel_rfl) (fun _ _ _ h => h) (Or.inl ⟨by rfl, ?_⟩) ?_ ?_
        rotate_left
        · intro w'
          go_simp
          with_reducible rfl
        rotate_left
        · simp only [Act.put, List.setIfInBounds_toArray, List.set_cons_zero, List.set_cons_succ, i64_w, i32_w]
          rfl
        refine pure_ (i := 4) (N := some 39) (v := ?_) (a' := ?_) #[true, true, true, false, true, false, false, false, false, false, false, false, false, false, false, false, false, false] rfl rfl (by kernel_rfl) (fun _ _ _ h => h) (Or.inl ⟨by rfl, ?_⟩) ?_ ?_
        rotate_left
        · intro w'
          go_simp
          with_reducible rfl
        rotate_left
        · simp only [Act.put, List.setIfInBounds_toArray, List.set_cons_zero, List.set_cons_succ, i64_w, i32_w]
          rfl
        refine pure_ (i := 5) (N := some 40) (v := ?_) (a' := ?_) #[true, true, true, false, true, true, false, false, false, false, false, false, false, false, false, false, false, false] rfl rfl (by kernel_rfl) (fun _ _ _ h => h) (Or.inl ⟨by rfl, ?_⟩) ?_ ?_
        rotate_left
        · intro w'
          go_simp
          with_reducible rfl
        rotate_left
        · simp only [Act.put, List.setIfInBounds_toArray, List.set_cons_zero, List.set_cons_succ, i64_w, i32_w]
          rfl
        refine pure_ (i := 8) (N := some 43) (v := ?_) (a' := ?_) #[true, true, true, false, true, true, false, false, true, false, false, false, false, false, false, false, false, false] rfl rfl (by kernel_rfl) (fun _ _ _ h => h) (Or.inl ⟨by rfl, ?_⟩) ?_ ?_
        rotate_left
        · intro w'
          go_simp
          with_reducible rfl
        rotate_left
        · simp only [Act.put, List.setIfInBounds_toArray, List.set_cons_zero, List.set_cons_succ, i64_w, i32_w]
          rfl
        refine pure_ (i := 9) (N := some 44) (v := ?_) (a' := ?_) #[true, true, true, false, true, true, false, false, true, true, false, false, false, false, false, false, false, false] rfl rfl (by kernel_rfl) (fun _ _ _ h => h) (Or.inl ⟨by rfl, ?_⟩) ?_ ?_
        rotate_left
        · intro w'
          go_simp
          with_reducible rfl
        rotate_left
        · simp only [Act.put, List.setIfInBounds_toArray, List.set_cons_zero, List.set_cons_succ, i64_w, i32_w]
          rfl
        refine pure_ (i := 10) (N := some 45) (v := ?_) (a' := ?_) #[true, true, true, false, true, true, false, false, true, true, true, false, false, false, false, false, false, false] rfl rfl (by kernel_rfl) (fun _ _ _ h => h) (Or.inl ⟨by rfl, ?_⟩) ?_ ?_
        rotate_left
        · intro w'
          go_simp
          with_reducible rfl
        rotate_left
        · simp only [Act.put, List.setIfInBounds_toArray, List.set_cons_zero, List.set_cons_succ, i64_w, i32_w]
          rfl
        refine pure_ (i := 11) (N := some 46) (v := ?_) (a' := ?_) #[true, true, true, false, true, true, false, false, true, true, true, true, false, false, false, false, false, false] rfl rfl (by kernel_rfl) (fun _ _ _ h => h) (Or.inl ⟨by rfl, ?_⟩) ?_ ?_
        rotate_left
        · intro w'
          go_simp
          with_reducible rfl
        rotate_left
        · simp only [Act.put, List.setIfInBounds_toArray, List.set_cons_zero, List.set_cons_succ, i64_w, i32_w]
          rfl
        refine take_ (i := 3) (N := some 38) (v := ?_) (a' := ?_) #[true, true, true, true, true, true, false, false, true, true, true, true, false, false, false, false, false, false] rfl rfl (by kernel_rfl) (fun _ _ _ h => h) (Or.inl ⟨by rfl, ?_⟩) hHeld ?_ ?_
        rotate_left
        · rintro w' ⟨s0, s1, s2, s3, s4, s5, s6, s7⟩
          go_simp
          with_reducible rfl
        rotate_left
        · simp only [Act.put, List.setIfInBounds_toArray, List.set_cons_zero, List.set_cons_succ, i64_w, i32_w]
          rfl
        refine take_ (i := 6) (N := some 41) (v := ?_) (a' := ?_) #[true, true, true, true, true, true, true, false, true, true, true, true, false, false, false, false, false, false] rfl rfl (by kernel_rfl) (fun _ _ _ h => h) (Or.inl ⟨by rfl, ?_⟩) hHeld ?_ ?_
        rotate_left
        · rintro w' ⟨s0, s1, s2, s3, s4, s5, s6, s7⟩
          go_simp
          with_reducible rfl
        rotate_left
        · simp only [Act.put, List.setIfInBounds_toArray, List.set_cons_zero, List.set_cons_succ, i64_w, i32_w]
          rfl
        refine take_ (i := 12) (N := some 47) (v := ?_) (a' := ?_) #[true, true, true, true, true, true, true, false, true, true, true, true, true, false, false, false, false, false] rfl rfl (by kernel_rfl) (fun _ _ _ h => h) (Or.inl ⟨by rfl, ?_⟩) hHeld ?_ ?_
        rotate_left
        · rintro w' ⟨s0, s1, s2, s3, s4, s5, s6, s7⟩
          go_simp
          with_reducible rfl
        rotate_left
        · simp only [Act.put, List.setIfInBounds_toArray, List.set_cons_zero, List.set_cons_succ, i64_w, i32_w]
          rfl
        refine pure_ (i := 13) (N := some 48) (v := ?_) (a' := ?_) #[true, true, true, true, true, true, true, false, true, true, true, true, true, true, false, false, false, false] rfl rfl (by kernel_rfl) (fun _ _ _ h => h) (Or.inl ⟨by rfl, ?_⟩) ?_ ?_
        rotate_left
        · intro w'
          go_simp
          with_reducible rfl
        rotate_left
        · simp only [Act.put, List.setIfInBounds_toArray, List.set_cons_zero, List.set_cons_succ, i64_w, i32_w]
          rfl
        refine join_ (σ := Value) 3 #[true, true, true, true, true, true, true, true, true, true, true, true, true, true, true, false, false, false] (fun s => [(42, .int .i64 (stepV x.v)), (49, s)]) (fun s w' => Below wd.heap.size wd w' ∧ Kd.R kP 116 w' wd.heap.size (fun _ => True) s (List.replicate n none)) ?_ ?_
        rotate_left
        · intro hCont
          refine two_ (i := 7) (j := 14) (Ni := some 42) (Nj := some 49) #[true, true, true, true, true, true, true, true, true, true, true, true, true, true, false, false, false, false] #[true, true, true, true, true, true, true, false, true, true, true, true, true, true, true, false, false, false] rfl rfl rfl rfl (by kernel_rfl) (by decide) (by decide) (fun K hK => ?_) (fun K hK => ?_)
          · skip
            refine goes_ Try.func92 (by kernel_rfl) rfl #[.agg #[.int .u64 x.v.set, .int .i64 x.v.num, .int .i64 x.v.cnt, .bool x.v.sp, .int .i64 x.v.whole, .int .i64 x.v.off, .int .i64 x.v.size, .slice x.A x.v.b.length x.c]] (by rfl) rfl rfl (by simp only [List.map_toArray, List.map_cons, List.map_nil]; rfl) ?_
            with_reducible refine ((HST.out wd (below_step HBd.out (Below.refl _ _)))).mono ?_
            rintro e u7 ⟨rfl, b7⟩
            refine ⟨_, rfl, ?_⟩
            have d7 := Aside0.mk (below_step (Below.refl _ _) b7)
            clear b7
            refine hK.out _ _ ⟨(pw_cell_below d7.out p0), (pw_cell_below d7.out p1), (pw_cell_below d7.out p2), (pw_cell_below d7.out p3), (pw_cell_below d7.out p4), (pw_cell_below d7.out p5), (pw_cell_below d7.out p6), (pw_cell_below d7.out p7)⟩ (fun hHeld => ?_)
            clear hK K
            refine norm_ (a' := ?_) ?_ ?_
            rotate_left
            · show Act.put _ (some 42) _ = _
              simp only [Act.put, List.setIfInBounds_toArray, List.set_cons_zero, List.set_cons_succ, i64_w, i32_w]
              rfl
            refine one_ (i := 14) (N := some 49) #[true, true, true, true, true, true, true, true, true, true, true, true, true, true, true, false, false, false] rfl rfl (by kernel_rfl) (by decide) (fun K hK => ?_)
            refine Kd.R_make_step kP (w0 := wd) (ok := fun _ => True) (okp := fun _ => False) wd.heap.size 116 (by rfl) (N := 49) rfl 117 (.tmp 48) (.tmp 48) rfl (n : Int) (by first | rfl | (go_simp; done)) (by first | rfl | (go_simp; done)) Try.underlying117 (.pointer none) 8 info116 rfl (by decide) (by decide) none rfl (fun _ h => h.elim) trivial (by omega) (by rw [Int.toNat_natCast]; have := HNX.out; have := HCN.out; omega) d7.out d7.out.size ?_
            intro s14 u14 ho hb hg_ hnew_
            rw [Int.toNat_natCast] at ho
            have d14 := Aside0.mk hb
            have HS14 := Aside0.mk ho
            clear ho hb hg_ hnew_
            refine hK.out _ _ ⟨(pw_cell_below d14.out p0), (pw_cell_below d14.out p1), (pw_cell_below d14.out p2), (pw_cell_below d14.out p3), (pw_cell_below d14.out p4), (pw_cell_below d14.out p5), (pw_cell_below d14.out p6), (pw_cell_below d14.out p7)⟩ (fun hHeld => ?_)
            clear hK K
            refine norm_ (a' := ?_) ?_ ?_
            rotate_left
            · show Act.put _ (some 49) _ = _
              simp only [Act.put, List.setIfInBounds_toArray, List.set_cons_zero, List.set_cons_succ, i64_w, i32_w]
              rfl
            exact norm_ (by simp only [putAll, Act.put, List.setIfInBounds_toArray, List.set_cons_zero, List.set_cons_succ]) (hCont s14 _ ⟨d14.out, HS14.out⟩)
          · skip
            refine Kd.R_make_step kP (w0 := wd) (ok := fun _ => True) (okp := fun _ => False) wd.heap.size 116 (by rfl) (N := 49) rfl 117 (.tmp 48) (.tmp 48) rfl (n : Int) (by first | rfl | (go_simp; done)) (by first | rfl | (go_simp; done)) Try.underlying117 (.pointer none) 8 info116 rfl (by decide) (by decide) none rfl (fun _ h => h.elim) trivial (by omega) (by rw [Int.toNat_natCast]; have := HNX.out; have := HCN.out; omega) (Below.refl _ _) (Nat.le_refl _) ?_
            intro s14 u14 ho hb hg_ hnew_
            rw [Int.toNat_natCast] at ho
            have d14 := Aside0.mk hb
            have HS14 := Aside0.mk ho
            clear ho hb hg_ hnew_
            refine hK.out _ _ ⟨(pw_cell_below d14.out p0), (pw_cell_below d14.out p1), (pw_cell_below d14.out p2), (pw_cell_below d14.out p3), (pw_cell_below d14.out p4), (pw_cell_below d14.out p5), (pw_cell_below d14.out p6), (pw_cell_below d14.out p7)⟩ (fun hHeld => ?_)
            clear hK K
            refine norm_ (a' := ?_) ?_ ?_
            rotate_left
            · show Act.put _ (some 49) _ = _
              simp only [Act.put, List.setIfInBounds_toArray, List.set_cons_zero, List.set_cons_succ, i64_w, i32_w]
              rfl
            refine one_ (i := 7) (N := some 42) #[true, true, true, true, true, true, true, true, true, true, true, true, true, true, true, false, false, false] rfl rfl (by kernel_rfl) (by decide) (fun K hK => ?_)
            refine goes_ Try.func92 (by kernel_rfl) rfl #[.agg #[.int .u64 x.v.set, .int .i64 x.v.num, .int .i64 x.v.cnt, .bool x.v.sp, .int .i64 x.v.whole, .int .i64 x.v.off, .int .i64 x.v.size, .slice x.A x.v.b.length x.c]] (by rfl) rfl rfl (by simp only [List.map_toArray, List.map_cons, List.map_nil]; rfl) ?_
            with_reducible refine ((HST.out u14 (below_step HBd.out d14.out))).mono ?_
            rintro e u7 ⟨rfl, b7⟩
            refine ⟨_, rfl, ?_⟩
            have d7 := Aside0.mk (below_step d14.out b7)
            have HS7 := Aside0.mk (Kd.R_below HS14.out b7)
            clear b7
            refine hK.out _ _ ⟨(pw_cell_below d7.out p0), (pw_cell_below d7.out p1), (pw_cell_below d7.out p2), (pw_cell_below d7.out p3), (pw_cell_below d7.out p4), (pw_cell_below d7.out p5), (pw_cell_below d7.out p6), (pw_cell_below d7.out p7)⟩ (fun hHeld => ?_)
            clear hK K
            refine norm_ (a' := ?_) ?_ ?_
            rotate_left
            · show Act.put _ (some 42) _ = _
              simp only [Act.put, List.setIfInBounds_toArray, List.set_cons_zero, List.set_cons_succ, i64_w, i32_w]
              rfl
            exact norm_ (by simp only [putAll, Act.put, List.setIfInBounds_toArray, List.set_cons_zero, List.set_cons_succ]) (hCont s14 _ ⟨d7.out, HS7.out⟩)
        rintro s12 w12 ⟨hb12, ho12⟩
        obtain ⟨gl, cl, hv12, hgl, _⟩ := Kd.R_form ho12 (by rw [List.length_replicate]; have := HNX.out; have := HCN.out; omega)
        rw [List.length_replicate] at hv12
        subst hv12
        have hHeld : w12.cell? ⟨g4, 0, none⟩ = some (.int .u64 x.v.set) ∧ w12.cell? ⟨g4, 1, none⟩ = some (.int .i64 x.v.num) ∧ w12.cell? ⟨g4, 2, none⟩ = some (.int .i64 x.v.cnt) ∧ w12.cell? ⟨g4, 3, none⟩ = some (.bool x.v.sp) ∧ w12.cell? ⟨g4, 4, none⟩ = some (.int .i64 x.v.whole) ∧ w12.cell? ⟨g4, 5, none⟩ = some (.int .i64 x.v.off) ∧ w12.cell? ⟨g4, 6, none⟩ = some (.int .i64 x.v.size) ∧ w12.cell? ⟨g4, 7, none⟩ = some (.slice x.A x.v.b.length x.c) := ⟨pw_cell_below hb12 p0, pw_cell_below hb12 p1, pw_cell_below hb12 p2, pw_cell_below hb12 p3, pw_cell_below hb12 p4, pw_cell_below hb12 p5, pw_cell_below hb12 p6, pw_cell_below hb12 p7⟩
        refine norm_ (a' := ?_) ?_ ?_
        rotate_left
        · simp only [putAll, Act.put, List.setIfInBounds_toArray, List.set_cons_zero, List.set_cons_succ]
          rfl
        refine pure_ (i := 15) (N := some 50) (v := ?_) (a' := ?_) #[true, true, true, true, true, true, true, true, true, true, true, true, true, true, true, true, false, false] rfl rfl (by kernel_rfl) (fun _ _ _ h => h) (Or.inl ⟨by rfl, ?_⟩) ?_ ?_
        rotate_left
        · intro w'
          go_simp
          with_reducible rfl
        rotate_left
        · simp only [Act.put, List.setIfInBounds_toArray, List.set_cons_zero, List.set_cons_succ, i64_w, i32_w]
          rfl
        refine last_ (i := 16) (N := some 51) #[true, true, true, true, true, true, true, true, true, true, true, true, true, true, true, true, true, false] rfl rfl (by kernel_rfl) (by decide) (fun K hK => ?_)
        refine value_ (w1 := ?_) (v := ?_) (by rfl) rfl ?_ ?_
        rotate_left 2
        · go_simp
          constructor
          · rfl
          · rfl
        refine hK.out _ _ ?_
        clear hK K
        refine norm_ (a' := ?_) ?_ ?_
        rotate_left
        · show Act.put _ (some 51) _ = _
          simp only [Act.put, List.setIfInBounds_toArray, List.set_cons_zero, List.set_cons_succ, i64_w, i32_w]
          rfl
        refine pure_ (i := 17) (N := some 9) (v := ?_) (a' := ?_) #[true, true, true, true, true, true, true, true, true, true, true, true, true, true, true, true, true, true] rfl rfl (by kernel_rfl) (fun _ _ _ h => h) (Or.inl ⟨by rfl, ?_⟩) ?_ ?_
        rotate_left
        · intro w'
          go_simp
          with_reducible rfl
        rotate_left
        · simp only [Act.put, List.setIfInBounds_toArray, List.set_cons_zero, List.set_cons_succ, i64_w, i32_w]
          rfl
        refine done_ (by kernel_rfl) ?_
        clear hwc hnx
        obtain ⟨wl, hwl⟩ : ∃ wl, wl = w12.alloc (.cells #[.int .u64 x.v.set, .int .i64 x.v.num, .int .i64 x.v.cnt, .bool x.v.sp, .int .i64 x.v.whole, .int .i64 x.v.off, .int .i64 x.v.size, .int .i64 (stepV x.v), .slice (some ⟨gl, 0, none⟩) n cl] 119) := ⟨_, rfl⟩
        have HGW := Aside0.mk (show wl.heap[w12.heap.size]? = some (.cells #[.int .u64 x.v.set, .int .i64 x.v.num, .int .i64 x.v.cnt, .bool x.v.sp, .int .i64 x.v.whole, .int .i64 x.v.off, .int .i64 x.v.size, .int .i64 (stepV x.v), .slice (some ⟨gl, 0, none⟩) n cl] 119 (0, 0)) by rw [hwl]; exact heap_alloc_new w12 _)
        have HBL := Aside0.mk (show Below wd.heap.size wd wl by rw [hwl]; exact below_alloc hb12 _)
        have HPL := Aside0.mk (show Kd.R kP 116 wl w.heap.size (fun _ => True) (.slice (some ⟨gl, 0, none⟩) n cl) (List.replicate n none) by rw [hwl]; exact Kd.R_lower (Kd.R_alloc ho12 _) HBd.out.size)
        have HLW := Aside0.mk (show w.heap.size ≤ w12.heap.size from Nat.le_trans HBd.out.size hb12.size)
        rw [← hwl]
        clear hwl hb12 ho12 hgl hHeld p0 p1 p2 p3 p4 p5 p6 p7
        generalize w12.heap.size = gw at HGW HLW ⊢
        have HI2 := Aside0.mk (show G2 w wl g4 c4 gl cl gw x.v ll n 0 (List.replicate n none) from ⟨below_step HBd.out HBL.out, Kd.R_below HRd.out HBL.out, HGW.out, ⟨_, HPL.out, fun k hk => .inl (by simp [slot, List.getD_eq_getElem?_getD, List.getElem?_replicate, hk])⟩, List.length_replicate, rfl⟩)
        clear HRd HBd HGW HBL HPL HRW HBW
        go_upto_region 14 with fail
        have HLN := Aside0.mk (show ll.length ≤ L.length by have := congrArg List.length HCM.out; rw [List.length_map, List.length_map] at this; omega)
        obtain ⟨kf, hkf⟩ : ∃ kf, kf = ll.length + 1 := ⟨_, rfl⟩
        have HK2 := Aside0.mk hkf
        clear hkf
        go_loopg [54] kf (fun kq v54 w' => ∃ (i : Nat) (P : List (Option (List Int))), v54 = .int .i64 (i : Int) ∧ Aside0 (G2 w w' g4 c4 gl cl gw x.v ll n i P) ∧ Aside0 (i ≤ ll.length ∧ ll.length < i + kq))
        case atStart => exact ⟨0, _, by first | rfl | (simp; done), HI2, ⟨Nat.zero_le _, by have := HK2.out; omega⟩⟩
        case round =>
          obtain ⟨i, P, rfl, HJ, HM2⟩ := hrel
          cases gk with
          | zero => exact absurd HM2.out (by omega)
          | succ k2 =>
          by_cases hi : i < ll.length
          · have hd : decide (i < ll.length) = true := decide_eq_true hi
            obtain ⟨y, hy⟩ : ∃ y, y = ll.getD i zVol := ⟨_, rfl⟩
            have hym : y ∈ ll := by rw [hy, List.getD_eq_getElem?_getD, List.getElem?_eq_getElem hi, Option.getD_some]; exact List.getElem_mem _
            obtain ⟨cc, _, hM, hcc, _⟩ := Kd.R_elem HJ.out.rowV zVol (i : Int) (by omega) (by omega)
            rw [Int.toNat_natCast, ← hy] at hM
            rw [Int.toNat_natCast] at hcc
            obtain rfl : cc = y.cells := hM
            replace hcc : ∀ (j : Nat) (u : Value), y.cells[j]? = some u → wr.cell? ⟨g4, i * 8 + j, none⟩ = some u := hcc
            have y0 : wr.cell? ⟨g4, i * 8, none⟩ = some (.int .u64 y.v.set) := hcc 0 _ rfl
            have y1 : wr.cell? ⟨g4, i * 8 + 1, none⟩ = some (.int .i64 y.v.num) := hcc 1 _ rfl
            have y2 : wr.cell? ⟨g4, i * 8 + 2, none⟩ = some (.int .i64 y.v.cnt) := hcc 2 _ rfl
            have y3 : wr.cell? ⟨g4, i * 8 + 3, none⟩ = some (.bool y.v.sp) := hcc 3 _ rfl
            have y4 : wr.cell? ⟨g4, i * 8 + 4, none⟩ = some (.int .i64 y.v.whole) := hcc 4 _ rfl
            have y5 : wr.cell? ⟨g4, i * 8 + 5, none⟩ = some (.int .i64 y.v.off) := hcc 5 _ rfl
            have y6 : wr.cell? ⟨g4, i * 8 + 6, none⟩ = some (.int .i64 y.v.size) := hcc 6 _ rfl
            have y7 : wr.cell? ⟨g4, i * 8 + 7, none⟩ = some (.slice y.A y.v.b.length y.c) := hcc 7 _ rfl
            clear hcc
            (try clear hM)
            have HYE := Aside0.mk hy
            clear hy
            go_upto_region 16 with fail
            clear y0 y1 y2 y3 y4 y5 y6 y7
            have HQB := Aside0.mk (below_alloc (Below.refl wr.heap.size wr) (.cells #[.int .u64 y.v.set, .int .i64 y.v.num, .int .i64 y.v.cnt, .bool y.v.sp, .int .i64 y.v.whole, .int .i64 y.v.off, .int .i64 y.v.size, .slice y.A y.v.b.length y.c] 88))
            have HGQ := Aside0.mk (heap_alloc_new wr (.cells #[.int .u64 y.v.set, .int .i64 y.v.num, .int .i64 y.v.cnt, .bool y.v.sp, .int .i64 y.v.whole, .int .i64 y.v.off, .int .i64 y.v.size, .slice y.A y.v.b.length y.c] 88))
            obtain ⟨wq, hwq⟩ : ∃ wq, wq = wr.alloc (.cells #[.int .u64 y.v.set, .int .i64 y.v.num, .int .i64 y.v.cnt, .bool y.v.sp, .int .i64 y.v.whole, .int .i64 y.v.off, .int .i64 y.v.size, .slice y.A y.v.b.length y.c] 88) := ⟨_, rfl⟩
            rw [← hwq] at HQB HGQ ⊢
            clear hwq
            have HJ2 := Aside0.mk (HJ.out.below HQB.out)
            have HQW := Aside0.mk (show w.heap.size ≤ wr.heap.size from HJ.out.bel.size)
            have HNQ := Aside0.mk (show gw < wr.heap.size from blk_lt HJ.out.blk)
            clear HQB
            generalize wr.heap.size = gq at HGQ HQW HNQ ⊢
            have q0 : wq.drew.cell? ⟨gq, 0, none⟩ = some (.int .u64 y.v.set) := cell_of_row wq.drew _ 0 _ 88 (0, 0) HGQ.out
            have q1 : wq.drew.cell? ⟨gq, 1, none⟩ = some (.int .i64 y.v.num) := cell_of_row wq.drew _ 1 _ 88 (0, 0) HGQ.out
            have q2 : wq.drew.cell? ⟨gq, 2, none⟩ = some (.int .i64 y.v.cnt) := cell_of_row wq.drew _ 2 _ 88 (0, 0) HGQ.out
            have q3 : wq.drew.cell? ⟨gq, 3, none⟩ = some (.bool y.v.sp) := cell_of_row wq.drew _ 3 _ 88 (0, 0) HGQ.out
            have q4 : wq.drew.cell? ⟨gq, 4, none⟩ = some (.int .i64 y.v.whole) := cell_of_row wq.drew _ 4 _ 88 (0, 0) HGQ.out
            have q5 : wq.drew.cell? ⟨gq, 5, none⟩ = some (.int .i64 y.v.off) := cell_of_row wq.drew _ 5 _ 88 (0, 0) HGQ.out
            have q6 : wq.drew.cell? ⟨gq, 6, none⟩ = some (.int .i64 y.v.size) := cell_of_row wq.drew _ 6 _ 88 (0, 0) HGQ.out
            have q7 : wq.drew.cell? ⟨gq, 7, none⟩ = some (.slice y.A y.v.b.length y.c) := cell_of_row wq.drew _ 7 _ 88 (0, 0) HGQ.out
            have z0 : wq.drew.cell? ⟨gw, 0, none⟩ = some (.int .u64 x.v.set) := cell_of_row wq.drew _ 0 _ 119 (0, 0) HJ2.out.blk
            have z2 : wq.drew.cell? ⟨gw, 2, none⟩ = some (.int .i64 x.v.cnt) := cell_of_row wq.drew _ 2 _ 119 (0, 0) HJ2.out.blk
            have z4 : wq.drew.cell? ⟨gw, 4, none⟩ = some (.int .i64 x.v.whole) := cell_of_row wq.drew _ 4 _ 119 (0, 0) HJ2.out.blk
            have z7 : wq.drew.cell? ⟨gw, 7, none⟩ = some (.int .i64 (stepV x.v)) := cell_of_row wq.drew _ 7 _ 119 (0, 0) HJ2.out.blk
            have hsy : volumes_volume_step.f 9 y.v.set y.v.num y.v.cnt y.v.sp y.v.whole y.v.off y.v.size y.v.b = some (stepV y.v) ∧ 1 ≤ y.v.cnt ∧ y.v.cnt ≤ 1000 ∧ 0 ≤ y.v.num ∧ y.v.num ≤ y.v.cnt := by
              have h : y.v ∈ L.map vO := by rw [← HCM.out]; exact List.mem_map.2 ⟨y, hym, rfl⟩
              obtain ⟨b, hb, he⟩ := List.mem_map.1 h
              rw [← he]
              exact HO.out b (HGD.out b hb)
            have HSY := Aside0.mk (fun (W : World) (hW : Below w.heap.size w W) => step_callsV (W := W) HVW.out y hym (stepV y.v) hsy.1 hW)
            have HYN := Aside0.mk hsy.2
            have HYM := Aside0.mk hym
            clear hsy hym
            have hcd : agree x.v y.v = true ∧ (slot P y.v.num.toNat = none ∨ slot P y.v.num.toNat = some y.v.b) := by
              have hgr := gather_eq gE vO L x cs ll n HFE.out HLL.out HCM.out (by have := HNX.out; omega)
              rw [HJ2.out.fill, fill_next hi y HYE.out] at hgr
              by_cases hc2 : agree x.v y.v = true ∧ (slot P y.v.num.toNat = none ∨ slot P y.v.num.toNat = some y.v.b)
              · exact hc2
              · rw [if_neg hc2] at hgr
                have hgr2 : gatherR gE vO L = (271, zVol.v, []) := hgr
                have hz := HH0.out
                rw [hgr2] at hz
                rcases hz with hz | hz
                · exact absurd hz (by decide)
                · have h5 := congrArg List.length HCM.out
                  rw [List.length_map, List.length_map, hz, List.length_nil] at h5
                  omega
            have HCD := Aside0.mk hcd
            have hag0 := hcd.1
            unfold agree at hag0
            simp only [Bool.and_eq_true, beq_iff_eq] at hag0
            obtain ⟨⟨⟨e0, e1⟩, e2⟩, e3⟩ := hag0
            clear hcd
            have t0 : (y.v.set != x.v.set) = false := by simp [e0]
            have t1 : (y.v.cnt != x.v.cnt) = false := by simp [e1]
            have t2 : (y.v.whole != x.v.whole) = false := by simp [e2]
            have t3 : (stepV y.v != stepV x.v) = false := by simp [e3]
            have HAG := Aside0.mk (show agree x.v y.v = true by unfold agree; simp [e0, e1, e2, e3])
            clear e0 e1 e2 e3
            have HBD := Aside0.mk (HJ2.out.below (below_drew (Below.refl wq.heap.size wq)))
            have HGQd := Aside0.mk (show wq.drew.heap[gq]? = some (.cells #[.int .u64 y.v.set, .int .i64 y.v.num, .int .i64 y.v.cnt, .bool y.v.sp, .int .i64 y.v.whole, .int .i64 y.v.off, .int .i64 y.v.size, .slice y.A y.v.b.length y.c] 88 (0, 0)) from HGQ.out)
            refine start_ (n := 40) (S := fun w' => w'.cell? ⟨gq, 0, none⟩ = some (.int .u64 y.v.set) ∧ w'.cell? ⟨gq, 1, none⟩ = some (.int .i64 y.v.num) ∧ w'.cell? ⟨gq, 2, none⟩ = some (.int .i64 y.v.cnt) ∧ w'.cell? ⟨gq, 3, none⟩ = some (.bool y.v.sp) ∧ w'.cell? ⟨gq, 4, none⟩ = some (.int .i64 y.v.whole) ∧ w'.cell? ⟨gq, 5, none⟩ = some (.int .i64 y.v.off) ∧ w'.cell? ⟨gq, 6, none⟩ = some (.int .i64 y.v.size) ∧ w'.cell? ⟨gq, 7, none⟩ = some (.slice y.A y.v.b.length y.c) ∧ w'.cell? ⟨gw, 0, none⟩ = some (.int .u64 x.v.set) ∧ w'.cell? ⟨gw, 2, none⟩ = some (.int .i64 x.v.cnt) ∧ w'.cell? ⟨gw, 4, none⟩ = some (.int .i64 x.v.whole) ∧ w'.cell? ⟨gw, 7, none⟩ = some (.int .i64 (stepV x.v))) (ds := []) #[false, false, false, false, false, false, false, false, false, false, false, false, false, false, false, false, false, false, false, false, false, false, false, false, false, false, false, false, false, false, false, false, false, false, false, false, false, false, false, false] (by kernel_rfl) rfl rfl ⟨q0, q1, q2, q3, q4, q5, q6, q7, z0, z2, z4, z7⟩ (fun hHeld => ?_)
            generalize wq.drew = wd at HBD HGQd hHeld q0 q1 q2 q3 q4 q5 q6 q7 z0 z2 z4 z7 ⊢
            refine pure_ (i := 0) (N := some 59) (v := ?_) (a' := ?_) #[true, false, false, false, false, false, false, false, false, false, false, false, false, false, false, false, false, false, false, false, false, false, false, false, false, false, false, false, false, false, false, false, false, false, false, false, false, false, false, false] rfl rfl (by kernel_rfl) (fun _ _ _ h => h) (Or.inl ⟨by rfl, ?_⟩) ?_ ?_
            rotate_left
            · intro w'
              go_simp
              with_reducible rfl
            rotate_left
            · simp only [Act.put, List.setIfInBounds_toArray, List.set_cons_zero, List.set_cons_succ, i64_w, i32_w]
              rfl
            refine pure_ (i := 1) (N := some 60) (v := ?_) (a' := ?_) #[true, true, false, false, false, false, false, false, false, false, false, false, false, false, false, false, false, false, false, false, false, false, false, false, false, false, false, false, false, false, false, false, false, false, false, false, false, false, false, false] rfl rfl (by kernel_rfl) (fun _ _ _ h => h) (Or.inl ⟨by rfl, ?_⟩) ?_ ?_
            rotate_left
            · intro w'
              go_simp
              with_reducible rfl
            rotate_left
            · simp only [Act.put, List.setIfInBounds_toArray, List.set_cons_zero, List.set_cons_succ, i64_w, i32_w]
              rfl
            refine pure_ (i := 3) (N := some 62) (v := ?_) (a' := ?_) #[true, true, false, true, false, false, false, false, false, false, false, false, false, false, false, false, false, false, false, false, false, false, false, false, false, false, false, false, false, false, false, false, false, false, false, false, false, false, false, false] rfl rfl (by kernel_rfl) (fun _ _ _ h => h) (Or.inl ⟨by rfl, ?_⟩) ?_ ?_
            rotate_left
            · intro w'
              go_simp
              with_reducible rfl
            rotate_left
            · simp only [Act.put, List.setIfInBounds_toArray, List.set_cons_zero, List.set_cons_succ, i64_w, i32_w]
              rfl
            refine pure_ (i := 4) (N := some 63) (v := ?_) (a' := ?_) #[true, true, false, true, true, false, false, false, false, false, false, false, false, false, false, false, false, false, false, false, false, false, false, false, false, false, false, false, false, false, false, false, false, false, false, false, false, false, false, false] rfl rfl (by kernel_rfl) (fun _ _ _ h => h) (Or.inl ⟨by rfl, ?_⟩) ?_ ?_
            rotate_left
            · intro w'
              go_simp
              with_reducible rfl
            rotate_left
            · simp only [Act.put, List.setIfInBounds_toArray, List.set_cons_zero, List.set_cons_succ, i64_w, i32_w]
              rfl
            refine pure_ (i := 5) (N := some 64) (v := ?_) (a' := ?_) #[true, true, false, true, true, true, false, false, false, false, false, false, false, false, false, false, false, false, false, false, false, false, false, false, false, false, false, false, false, false, false, false, false, false, false, false, false, false, false, false] rfl rfl (by kernel_rfl) (fun _ _ _ h => h) (Or.inl ⟨by rfl, ?_⟩) ?_ ?_
            rotate_left
            · intro w'
              go_simp
              with_reducible rfl
            rotate_left
            · simp only [Act.put, List.setIfInBounds_toArray, List.set_cons_zero, List.set_cons_succ, i64_w, i32_w]
              rfl
            refine pure_ (i := 6) (N := some 65) (v := ?_) (a' := ?_) #[true, true, false, true, true, true, true, false, false, false, false, false, false, false, false, false, false, false, false, false, false, false, false, false, false, false, false, false, false, false, false, false, false, false, false, false, false, false, false, false] rfl rfl (by kernel_rfl) (fun _ _ _ h => h) (Or.inl ⟨by rfl, ?_⟩) ?_ ?_
            rotate_left
            · intro w'
              go_simp
              with_reducible rfl
            rotate_left
            · simp only [Act.put, List.setIfInBounds_toArray, List.set_cons_zero, List.set_cons_succ, i64_w, i32_w]
              rfl
            refine take_ (i := 2) (N := some 61) (v := ?_) (a' := ?_) #[true, true, true, true, true, true, true, false, false, false, false, false, false, false, false, false, false, false, false, false, false, false, false, false, false, false, false, false, false, false, false, false, false, false, false, false, false, false, false, false] rfl rfl (by kernel_rfl) (fun _ _ _ h => h) (Or.inl ⟨by rfl, ?_⟩) hHeld ?_ ?_
            rotate_left
            · rintro w' ⟨s0, s1, s2, s3, s4, s5, s6, s7, s8, s9, s10, s11⟩
              go_simp
              with_reducible rfl
            rotate_left
            · simp only [Act.put, List.setIfInBounds_toArray, List.set_cons_zero, List.set_cons_succ, i64_w, i32_w]
              rfl
            refine take_ (i := 7) (N := some 66) (v := ?_) (a' := ?_) #[true, true, true, true, true, true, true, true, false, false, false, false, false, false, false, false, false, false, false, false, false, false, false, false, false, false, false, false, false, false, false, false, false, false, false, false, false, false, false, false] rfl rfl (by kernel_rfl) (fun _ _ _ h => h) (Or.inl ⟨by rfl, ?_⟩) hHeld ?_ ?_
            rotate_left
            · rintro w' ⟨s0, s1, s2, s3, s4, s5, s6, s7, s8, s9, s10, s11⟩
              go_simp
              with_reducible rfl
            rotate_left
            · simp only [Act.put, List.setIfInBounds_toArray, List.set_cons_zero, List.set_cons_succ, i64_w, i32_w]
              rfl
            refine pure_ (i := 8) (N := some 67) (v := ?_) (a' := ?_) #[true, true, true, true, true, true, true, true, true, false, false, false, false, false, false, false, false, false, false, false, false, false, false, false, false, false, false, false, false, false, false, false, false, false, false, false, false, false, false, false] rfl rfl (by kernel_rfl) (fun _ _ _ h => h) (Or.inl ⟨by rfl, ?_⟩) ?_ ?_
            rotate_left
            · intro w'
              go_simp
              with_reducible rfl
            rotate_left
            · simp only [Act.put, List.setIfInBounds_toArray, List.set_cons_zero, List.set_cons_succ, i64_w, i32_w]
              rfl
            refine pure_ (i := 9) (N := some 68) (v := ?_) (a' := ?_) #[true, true, true, true, true, true, true, true, true, true, false, false, false, false, false, false, false, false, false, false, false, false, false, false, false, false, false, false, false, false, false, false, false, false, false, false, false, false, false, false] rfl rfl (by kernel_rfl) (fun _ _ _ h => h) (Or.inl ⟨by rfl, ?_⟩) ?_ ?_
            rotate_left
            · intro w'
              go_simp
              with_reducible rfl
            rotate_left
            · simp only [Act.put, List.setIfInBounds_toArray, List.set_cons_zero, List.set_cons_succ, i64_w, i32_w]
              rfl
            refine pure_ (i := 10) (N := some 69) (v := ?_) (a' := ?_) #[true, true, true, true, true, true, true, true, true, true, true, false, false, false, false, false, false, false, false, false, false, false, false, false, false, false, false, false, false, false, false, false, false, false, false, false, false, false, false, false] rfl rfl (by kernel_rfl) (fun _ _ _ h => h) (Or.inl ⟨by rfl, ?_⟩) ?_ ?_
            rotate_left
            · intro w'
              go_simp
              with_reducible rfl
            rotate_left
            · simp only [Act.put, List.setIfInBounds_toArray, List.set_cons_zero, List.set_cons_succ, i64_w, i32_w]
              rfl
            refine pure_ (i := 11) (N := some 70) (v := ?_) (a' := ?_) #[true, true, true, true, true, true, true, true, true, true, true, true, false, false, false, false, false, false, false, false, false, false, false, false, false, false, false, false, false, false, false, false, false, false, false, false, false, false, false, false] rfl rfl (by kernel_rfl) (fun _ _ _ h => h) (Or.inl ⟨by rfl, ?_⟩) ?_ ?_
            rotate_left
            · intro w'
              go_simp
              with_reducible rfl
            rotate_left
            · simp only [Act.put, List.setIfInBounds_toArray, List.set_cons_zero, List.set_cons_succ, i64_w, i32_w]
              rfl
            refine pure_ (i := 13) (N := some 72) (v := ?_) (a' := ?_) #[true, true, true, true, true, true, true, true, true, true, true, true, false, true, false, false, false, false, false, false, false, false, false, false, false, false, false, false, false, false, false, false, false, false, false, false, false, false, false, false] rfl rfl (by kernel_rfl) (fun _ _ _ h => h) (Or.inl ⟨by rfl, ?_⟩) ?_ ?_
            rotate_left
            · intro w'
              go_simp
              with_reducible rfl
            rotate_left
            · simp only [Act.put, List.setIfInBounds_toArray, List.set_cons_zero, List.set_cons_succ, i64_w, i32_w]
              rfl
            refine pure_ (i := 14) (N := some 73) (v := ?_) (a' := ?_) #[true, true, true, true, true, true, true, true, true, true, true, true, false, true, true, false, false, false, false, false, false, false, false, false, false, false, false, false, false, false, false, false, false, false, false, false, false, false, false, false] rfl rfl (by kernel_rfl) (fun _ _ _ h => h) (Or.inl ⟨by rfl, ?_⟩) ?_ ?_
            rotate_left
            · intro w'
              go_simp
              with_reducible rfl
            rotate_left
            · simp only [Act.put, List.setIfInBounds_toArray, List.set_cons_zero, List.set_cons_succ, i64_w, i32_w]
              rfl
            refine pure_ (i := 15) (N := some 74) (v := ?_) (a' := ?_) #[true, true, true, true, true, true, true, true, true, true, true, true, false, true, true, true, false, false, false, false, false, false, false, false, false, false, false, false, false, false, false, false, false, false, false, false, false, false, false, false] rfl rfl (by kernel_rfl) (fun _ _ _ h => h) (Or.inl ⟨by rfl, ?_⟩) ?_ ?_
            rotate_left
            · intro w'
              go_simp
              with_reducible rfl
            rotate_left
            · simp only [Act.put, List.setIfInBounds_toArray, List.set_cons_zero, List.set_cons_succ, i64_w, i32_w]
              rfl
            refine pure_ (i := 16) (N := some 75) (v := ?_) (a' := ?_) #[true, true, true, true, true, true, true, true, true, true, true, true, false, true, true, true, true, false, false, false, false, false, false, false, false, false, false, false, false, false, false, false, false, false, false, false, false, false, false, false] rfl rfl (by kernel_rfl) (fun _ _ _ h => h) (Or.inl ⟨by rfl, ?_⟩) ?_ ?_
            rotate_left
            · intro w'
              go_simp
              with_reducible rfl
            rotate_left
            · simp only [Act.put, List.setIfInBounds_toArray, List.set_cons_zero, List.set_cons_succ, i64_w, i32_w]
              rfl
            refine take_ (i := 12) (N := some 71) (v := ?_) (a' := ?_) #[true, true, true, true, true, true, true, true, true, true, true, true, true, true, true, true, true, false, false, false, false, false, false, false, false, false, false, false, false, false, false, false, false, false, false, false, false, false, false, false] rfl rfl (by kernel_rfl) (fun _ _ _ h => h) (Or.inl ⟨by rfl, ?_⟩) hHeld ?_ ?_
            rotate_left
            · rintro w' ⟨s0, s1, s2, s3, s4, s5, s6, s7, s8, s9, s10, s11⟩
              go_simp
              with_reducible rfl
            rotate_left
            · simp only [Act.put, List.setIfInBounds_toArray, List.set_cons_zero, List.set_cons_succ, i64_w, i32_w]
              rfl
            refine take_ (i := 17) (N := some 76) (v := ?_) (a' := ?_) #[true, true, true, true, true, true, true, true, true, true, true, true, true, true, true, true, true, true, false, false, false, false, false, false, false, false, false, false, false, false, false, false, false, false, false, false, false, false, false, false] rfl rfl (by kernel_rfl) (fun _ _ _ h => h) (Or.inl ⟨by rfl, ?_⟩) hHeld ?_ ?_
            rotate_left
            · rintro w' ⟨s0, s1, s2, s3, s4, s5, s6, s7, s8, s9, s10, s11⟩
              go_simp
              with_reducible rfl
            rotate_left
            · simp only [Act.put, List.setIfInBounds_toArray, List.set_cons_zero, List.set_cons_succ, i64_w, i32_w]
              rfl
            refine pure_ (i := 18) (N := some 77) (v := ?_) (a' := ?_) #[true, true, true, true, true, true, true, true, true, true, true, true, true, true, true, true, true, true, true, false, false, false, false, false, false, false, false, false, false, false, false, false, false, false, false, false, false, false, false, false] rfl rfl (by kernel_rfl) (fun _ _ _ h => h) (Or.inl ⟨by rfl, ?_⟩) ?_ ?_
            rotate_left
            · intro w'
              go_simp
              with_reducible rfl
            rotate_left
            · simp only [Act.put, List.setIfInBounds_toArray, List.set_cons_zero, List.set_cons_succ, i64_w, i32_w]
              rfl
            refine pure_ (i := 19) (N := some 78) (v := ?_) (a' := ?_) #[true, true, true, true, true, true, true, true, true, true, true, true, true, true, true, true, true, true, true, true, false, false, false, false, false, false, false, false, false, false, false, false, false, false, false, false, false, false, false, false] rfl rfl (by kernel_rfl) (fun _ _ _ h => h) (Or.inl ⟨by rfl, ?_⟩) ?_ ?_
            rotate_left
            · intro w'
              go_simp
              with_reducible rfl
            rotate_left
            · simp only [Act.put, List.setIfInBounds_toArray, List.set_cons_zero, List.set_cons_succ, i64_w, i32_w]
              rfl
            refine pure_ (i := 20) (N := some 79) (v := ?_) (a' := ?_) #[true, true, true, true, true, true, true, true, true, true, true, true, true, true, true, true, true, true, true, true, true, false, false, false, false, false, false, false, false, false, false, false, false, false, false, false, false, false, false, false] rfl rfl (by kernel_rfl) (fun _ _ _ h => h) (Or.inl ⟨by rfl, ?_⟩) ?_ ?_
            rotate_left
            · intro w'
              go_simp
              with_reducible rfl
            rotate_left
            · simp only [Act.put, List.setIfInBounds_toArray, List.set_cons_zero, List.set_cons_succ, i64_w, i32_w]
              rfl
            refine pure_ (i := 21) (N := some 80) (v := ?_) (a' := ?_) #[true, true, true, true, true, true, true, true, true, true, true, true, true, true, true, true, true, true, true, true, true, true, false, false, false, false, false, false, false, false, false, false, false, false, false, false, false, false, false, false] rfl rfl (by kernel_rfl) (fun _ _ _ h => h) (Or.inl ⟨by rfl, ?_⟩) ?_ ?_
            rotate_left
            · intro w'
              go_simp
              with_reducible rfl
            rotate_left
            · simp only [Act.put, List.setIfInBounds_toArray, List.set_cons_zero, List.set_cons_succ, i64_w, i32_w]
              rfl
            refine pure_ (i := 22) (N := some 81) (v := ?_) (a' := ?_) #[true, true, true, true, true, true, true, true, true, true, true, true, true, true, true, true, true, true, true, true, true, true, true, false, false, false, false, false, false, false, false, false, false, false, false, false, false, false, false, false] rfl rfl (by kernel_rfl) (fun _ _ _ h => h) (Or.inl ⟨by rfl, ?_⟩) ?_ ?_
            rotate_left
            · intro w'
              go_simp
              with_reducible rfl
            rotate_left
            · simp only [Act.put, List.setIfInBounds_toArray, List.set_cons_zero, List.set_cons_succ, i64_w, i32_w]
              rfl
            refine pure_ (i := 24) (N := some 83) (v := ?_) (a' := ?_) #[true, true, true, true, true, true, true, true, true, true, true, true, true, true, true, true, true, true, true, true, true, true, true, false, true, false, false, false, false, false, false, false, false, false, false, false, false, false, false, false] rfl rfl (by kernel_rfl) (fun _ _ _ h => h) (Or.inl ⟨by rfl, ?_⟩) ?_ ?_
            rotate_left
            · intro w'
              go_simp
              with_reducible rfl
            rotate_left
            · simp only [Act.put, List.setIfInBounds_toArray, List.set_cons_zero, List.set_cons_succ, i64_w, i32_w]
              rfl
            refine pure_ (i := 25) (N := some 84) (v := ?_) (a' := ?_) #[true, true, true, true, true, true, true, true, true, true, true, true, true, true, true, true, true, true, true, true, true, true, true, false, true, true, false, false, false, false, false, false, false, false, false, false, false, false, false, false] rfl rfl (by kernel_rfl) (fun _ _ _ h => h) (Or.inl ⟨by rfl, ?_⟩) ?_ ?_
            rotate_left
            · intro w'
              go_simp
              with_reducible rfl
            rotate_left
            · simp only [Act.put, List.setIfInBounds_toArray, List.set_cons_zero, List.set_cons_succ, i64_w, i32_w]
              rfl
            refine pure_ (i := 26) (N := some 85) (v := ?_) (a' := ?_) #[true, true, true, true, true, true, true, true, true, true, true, true, true, true, true, true, true, true, true, true, true, true, true, false, true, true, true, false, false, false, false, false, false, false, false, false, false, false, false, false] rfl rfl (by kernel_rfl) (fun _ _ _ h => h) (Or.inl ⟨by rfl, ?_⟩) ?_ ?_
            rotate_left
            · intro w'
              go_simp
              with_reducible rfl
            rotate_left
            · simp only [Act.put, List.setIfInBounds_toArray, List.set_cons_zero, List.set_cons_succ, i64_w, i32_w]
              rfl
            refine pure_ (i := 27) (N := some 86) (v := ?_) (a' := ?_) #[true, true, true, true, true, true, true, true, true, true, true, true, true, true, true, true, true, true, true, true, true, true, true, false, true, true, true, true, false, false, false, false, false, false, false, false, false, false, false, false] rfl rfl (by kernel_rfl) (fun _ _ _ h => h) (Or.inl ⟨by rfl, ?_⟩) ?_ ?_
            rotate_left
            · intro w'
              go_simp
              with_reducible rfl
            rotate_left
            · simp only [Act.put, List.setIfInBounds_toArray, List.set_cons_zero, List.set_cons_succ, i64_w, i32_w]
              rfl
            refine take_ (i := 23) (N := some 82) (v := ?_) (a' := ?_) #[true, true, true, true, true, true, true, true, true, true, true, true, true, true, true, true, true, true, true, true, true, true, true, true, true, true, true, true, false, false, false, false, false, false, false, false, false, false, false, false] rfl rfl (by kernel_rfl) (fun _ _ _ h => h) (Or.inl ⟨by rfl, ?_⟩) hHeld ?_ ?_
            rotate_left
            · rintro w' ⟨s0, s1, s2, s3, s4, s5, s6, s7, s8, s9, s10, s11⟩
              go_simp
              with_reducible rfl
            rotate_left
            · simp only [Act.put, List.setIfInBounds_toArray, List.set_cons_zero, List.set_cons_succ, i64_w, i32_w]
              rfl
            refine take_ (i := 28) (N := some 87) (v := ?_) (a' := ?_) #[true, true, true, true, true, true, true, true, true, true, true, true, true, true, true, true, true, true, true, true, true, true, true, true, true, true, true, true, true, false, false, false, false, false, false, false, false, false, false, false] rfl rfl (by kernel_rfl) (fun _ _ _ h => h) (Or.inl ⟨by rfl, ?_⟩) hHeld ?_ ?_
            rotate_left
            · rintro w' ⟨s0, s1, s2, s3, s4, s5, s6, s7, s8, s9, s10, s11⟩
              go_simp
              with_reducible rfl
            rotate_left
            · simp only [Act.put, List.setIfInBounds_toArray, List.set_cons_zero, List.set_cons_succ, i64_w, i32_w]
              rfl
            refine pure_ (i := 29) (N := some 88) (v := ?_) (a' := ?_) #[true, true, true, true, true, true, true, true, true, true, true, true, true, true, true, true, true, true, true, true, true, true, true, true, true, true, true, true, true, true, false, false, false, false, false, false, false, false, false, false] rfl rfl (by kernel_rfl) (fun _ _ _ h => h) (Or.inl ⟨by rfl, ?_⟩) ?_ ?_
            rotate_left
            · intro w'
              go_simp
              with_reducible rfl
            rotate_left
            · simp only [Act.put, List.setIfInBounds_toArray, List.set_cons_zero, List.set_cons_succ, i64_w, i32_w]
              rfl
            refine pure_ (i := 30) (N := some 89) (v := ?_) (a' := ?_) #[true, true, true, true, true, true, true, true, true, true, true, true, true, true, true, true, true, true, true, true, true, true, true, true, true, true, true, true, true, true, true, false, false, false, false, false, false, false, false, false] rfl rfl (by kernel_rfl) (fun _ _ _ h => h) (Or.inl ⟨by rfl, ?_⟩) ?_ ?_
            rotate_left
            · intro w'
              go_simp
              with_reducible rfl
            rotate_left
            · simp only [Act.put, List.setIfInBounds_toArray, List.set_cons_zero, List.set_cons_succ, i64_w, i32_w]
              rfl
            refine pure_ (i := 31) (N := some 90) (v := ?_) (a' := ?_) #[true, true, true, true, true, true, true, true, true, true, true, true, true, true, true, true, true, true, true, true, true, true, true, true, true, true, true, true, true, true, true, true, false, false, false, false, false, false, false, false] rfl rfl (by kernel_rfl) (fun _ _ _ h => h) (Or.inl ⟨by rfl, ?_⟩) ?_ ?_
            rotate_left
            · intro w'
              go_simp
              with_reducible rfl
            rotate_left
            · simp only [Act.put, List.setIfInBounds_toArray, List.set_cons_zero, List.set_cons_succ, i64_w, i32_w]
              rfl
            refine pure_ (i := 34) (N := some 93) (v := ?_) (a' := ?_) #[true, true, true, true, true, true, true, true, true, true, true, true, true, true, true, true, true, true, true, true, true, true, true, true, true, true, true, true, true, true, true, true, false, false, true, false, false, false, false, false] rfl rfl (by kernel_rfl) (fun _ _ _ h => h) (Or.inl ⟨by rfl, ?_⟩) ?_ ?_
            rotate_left
            · intro w'
              go_simp
              with_reducible rfl
            rotate_left
            · simp only [Act.put, List.setIfInBounds_toArray, List.set_cons_zero, List.set_cons_succ, i64_w, i32_w]
              rfl
            refine pure_ (i := 35) (N := some 94) (v := ?_) (a' := ?_) #[true, true, true, true, true, true, true, true, true, true, true, true, true, true, true, true, true, true, true, true, true, true, true, true, true, true, true, true, true, true, true, true, false, false, true, true, false, false, false, false] rfl rfl (by kernel_rfl) (fun _ _ _ h => h) (Or.inl ⟨by rfl, ?_⟩) ?_ ?_
            rotate_left
            · intro w'
              go_simp
              with_reducible rfl
            rotate_left
            · simp only [Act.put, List.setIfInBounds_toArray, List.set_cons_zero, List.set_cons_succ, i64_w, i32_w]
              rfl
            refine pure_ (i := 36) (N := some 95) (v := ?_) (a' := ?_) #[true, true, true, true, true, true, true, true, true, true, true, true, true, true, true, true, true, true, true, true, true, true, true, true, true, true, true, true, true, true, true, true, false, false, true, true, true, false, false, false] rfl rfl (by kernel_rfl) (fun _ _ _ h => h) (Or.inl ⟨by rfl, ?_⟩) ?_ ?_
            rotate_left
            · intro w'
              go_simp
              with_reducible rfl
            rotate_left
            · simp only [Act.put, List.setIfInBounds_toArray, List.set_cons_zero, List.set_cons_succ, i64_w, i32_w]
              rfl
            refine take_ (i := 32) (N := some 91) (v := ?_) (a' := ?_) #[true, true, true, true, true, true, true, true, true, true, true, true, true, true, true, true, true, true, true, true, true, true, true, true, true, true, true, true, true, true, true, true, true, false, true, true, true, false, false, false] rfl rfl (by kernel_rfl) (fun _ _ _ h => h) (Or.inl ⟨by rfl, ?_⟩) hHeld ?_ ?_
            rotate_left
            · rintro w' ⟨s0, s1, s2, s3, s4, s5, s6, s7, s8, s9, s10, s11⟩
              go_simp
              with_reducible rfl
            rotate_left
            · simp only [Act.put, List.setIfInBounds_toArray, List.set_cons_zero, List.set_cons_succ, i64_w, i32_w]
              rfl
            refine take_ (i := 37) (N := some 96) (v := ?_) (a' := ?_) #[true, true, true, true, true, true, true, true, true, true, true, true, true, true, true, true, true, true, true, true, true, true, true, true, true, true, true, true, true, true, true, true, true, false, true, true, true, true, false, false] rfl rfl (by kernel_rfl) (fun _ _ _ h => h) (Or.inl ⟨by rfl, ?_⟩) hHeld ?_ ?_
            rotate_left
            · rintro w' ⟨s0, s1, s2, s3, s4, s5, s6, s7, s8, s9, s10, s11⟩
              go_simp
              with_reducible rfl
            rotate_left
            · simp only [Act.put, List.setIfInBounds_toArray, List.set_cons_zero, List.set_cons_succ, i64_w, i32_w]
              rfl
            refine one_ (i := 33) (N := some 92) #[true, true, true, true, true, true, true, true, true, true, true, true, true, true, true, true, true, true, true, true, true, true, true, true, true, true, true, true, true, true, true, true, true, true, true, true, true, true, false, false] rfl rfl (by kernel_rfl) (by decide) (fun K hK => ?_)
            refine goes_ Try.func92 (by kernel_rfl) rfl #[.agg #[.int .u64 y.v.set, .int .i64 y.v.num, .int .i64 y.v.cnt, .bool y.v.sp, .int .i64 y.v.whole, .int .i64 y.v.off, .int .i64 y.v.size, .slice y.A y.v.b.length y.c]] (by rfl) rfl rfl (by simp only [List.map_toArray, List.map_cons, List.map_nil]; rfl) ?_
            with_reducible refine ((HSY.out wd HBD.out.bel)).mono ?_
            rintro e w7 ⟨rfl, b7⟩
            refine ⟨_, rfl, ?_⟩
            have HB7 := Aside0.mk b7
            clear b7
            refine hK.out _ _ ⟨(pw_cell_below HB7.out q0), (pw_cell_below HB7.out q1), (pw_cell_below HB7.out q2), (pw_cell_below HB7.out q3), (pw_cell_below HB7.out q4), (pw_cell_below HB7.out q5), (pw_cell_below HB7.out q6), (pw_cell_below HB7.out q7), (pw_cell_below HB7.out z0), (pw_cell_below HB7.out z2), (pw_cell_below HB7.out z4), (pw_cell_below HB7.out z7)⟩ (fun hHeld => ?_)
            clear hK K
            refine norm_ (a' := ?_) ?_ ?_
            rotate_left
            · show Act.put _ (some 92) _ = _
              simp only [Act.put, List.setIfInBounds_toArray, List.set_cons_zero, List.set_cons_succ, i64_w, i32_w]
              rfl
            refine pure_ (i := 38) (N := some 97) (v := ?_) (a' := ?_) #[true, true, true, true, true, true, true, true, true, true, true, true, true, true, true, true, true, true, true, true, true, true, true, true, true, true, true, true, true, true, true, true, true, true, true, true, true, true, true, false] rfl rfl (by kernel_rfl) (fun _ _ _ h => h) (Or.inl ⟨by rfl, ?_⟩) ?_ ?_
            rotate_left
            · intro w'
              go_simp
              with_reducible rfl
            rotate_left
            · simp only [Act.put, List.setIfInBounds_toArray, List.set_cons_zero, List.set_cons_succ, i64_w, i32_w]
              rfl
            refine pure_ (i := 39) (N := some 98) (v := ?_) (a' := ?_) #[true, true, true, true, true, true, true, true, true, true, true, true, true, true, true, true, true, true, true, true, true, true, true, true, true, true, true, true, true, true, true, true, true, true, true, true, true, true, true, true] rfl rfl (by kernel_rfl) (fun _ _ _ h => h) (Or.inl ⟨by rfl, ?_⟩) ?_ ?_
            rotate_left
            · intro w'
              go_simp
              with_reducible rfl
            rotate_left
            · simp only [Act.put, List.setIfInBounds_toArray, List.set_cons_zero, List.set_cons_succ, i64_w, i32_w]
              rfl
            refine done_ (by kernel_rfl) ?_
            have HJ7 := Aside0.mk (HBD.out.below HB7.out)
            have HG7 := Aside0.mk ((HB7.out.block _ (blk_lt HGQd.out)).trans HGQd.out)
            clear q0 q1 q2 q3 q4 q5 q6 q7 z0 z2 z4 z7 t0 t1 t2 t3 hHeld
            clear HBD HB7 HGQd
            obtain ⟨m, hm⟩ : ∃ m : Nat, y.v.num = (m : Int) := ⟨y.v.num.toNat, by have := HYN.out; omega⟩
            have hcn : y.v.cnt = x.v.cnt := by
              have h := HAG.out
              unfold agree at h
              simp only [Bool.and_eq_true, beq_iff_eq] at h
              exact h.1.1.2
            have hmn : m < n := by have := HYN.out; have := HNX.out; omega
            have HMY := Aside0.mk hm
            have HMN := Aside0.mk hmn
            obtain ⟨ps, hps, hmat⟩ := HJ7.out.rowP
            have a8 : w7.drew.cell? ⟨gw, 8, none⟩ = some (.slice (some ⟨gl, 0, none⟩) n cl) := cell_of_row w7.drew _ 8 _ 119 (0, 0) HJ7.out.blk
            have a1 : w7.drew.cell? ⟨gq, 1, none⟩ = some (.int .i64 (m : Int)) := by rw [← hm]; exact cell_of_row w7.drew _ 1 _ 88 (0, 0) HG7.out
            have am : w7.drew.cell? ⟨gl, m, none⟩ = some (.pointer (ps.getD m none)) := by
              have h := (Kd.R_celln (enc := Value.pointer) (h1 := fun _ => rfl) (none : Option Addr) (Kd.R_drew hps) (m : Int) (by omega) (by omega)).1
              rw [Int.toNat_natCast] at h
              exact h
            have dm : (m : Int) < (n : Int) := by omega
            have HMT := Aside0.mk (hmat m hmn)
            clear hm hcn hps hmat
            obtain ⟨po, hpo⟩ : ∃ po, po = ps.getD m none := ⟨_, rfl⟩
            rw [← hpo] at am HMT
            have HPO := Aside0.mk hpo
            clear hpo
            go_upto_region 18 with fail
            refine start_ (n := 10) (S := fun w' => w'.cell? ⟨gw, 8, none⟩ = some (.slice (some ⟨gl, 0, none⟩) n cl) ∧ w'.cell? ⟨gq, 1, none⟩ = some (.int .i64 (m : Int)) ∧ w'.cell? ⟨gl, m, none⟩ = some (.pointer po)) (ds := []) #[false, false, false, false, false, false, false, false, false, false] (by kernel_rfl) rfl rfl ⟨a8, a1, am⟩ (fun hHeld => ?_)
            refine pure_ (i := 0) (N := some 99) (v := ?_) (a' := ?_) #[true, false, false, false, false, false, false, false, false, false] rfl rfl (by kernel_rfl) (fun _ _ _ h => h) (Or.inl ⟨by rfl, ?_⟩) ?_ ?_
            rotate_left
            · intro w'
              go_simp
              with_reducible rfl
            rotate_left
            · simp only [Act.put, List.setIfInBounds_toArray, List.set_cons_zero, List.set_cons_succ, i64_w, i32_w]
              rfl
            refine pure_ (i := 1) (N := some 100) (v := ?_) (a' := ?_) #[true, true, false, false, false, false, false, false, false, false] rfl rfl (by kernel_rfl) (fun _ _ _ h => h) (Or.inl ⟨by rfl, ?_⟩) ?_ ?_
            rotate_left
            · intro w'
              go_simp
              with_reducible rfl
            rotate_left
            · simp only [Act.put, List.setIfInBounds_toArray, List.set_cons_zero, List.set_cons_succ, i64_w, i32_w]
              rfl
            refine pure_ (i := 2) (N := some 101) (v := ?_) (a' := ?_) #[true, true, true, false, false, false, false, false, false, false] rfl rfl (by kernel_rfl) (fun _ _ _ h => h) (Or.inl ⟨by rfl, ?_⟩) ?_ ?_
            rotate_left
            · intro w'
              go_simp
              with_reducible rfl
            rotate_left
            · simp only [Act.put, List.setIfInBounds_toArray, List.set_cons_zero, List.set_cons_succ, i64_w, i32_w]
              rfl
            refine pure_ (i := 4) (N := some 103) (v := ?_) (a' := ?_) #[true, true, true, false, true, false, false, false, false, false] rfl rfl (by kernel_rfl) (fun _ _ _ h => h) (Or.inl ⟨by rfl, ?_⟩) ?_ ?_
            rotate_left
            · intro w'
              go_simp
              with_reducible rfl
            rotate_left
            · simp only [Act.put, List.setIfInBounds_toArray, List.set_cons_zero, List.set_cons_succ, i64_w, i32_w]
              rfl
            refine pure_ (i := 5) (N := some 104) (v := ?_) (a' := ?_) #[true, true, true, false, true, true, false, false, false, false] rfl rfl (by kernel_rfl) (fun _ _ _ h => h) (Or.inl ⟨by rfl, ?_⟩) ?_ ?_
            rotate_left
            · intro w'
              go_simp
              with_reducible rfl
            rotate_left
            · simp only [Act.put, List.setIfInBounds_toArray, List.set_cons_zero, List.set_cons_succ, i64_w, i32_w]
              rfl
            refine take_ (i := 3) (N := some 102) (v := ?_) (a' := ?_) #[true, true, true, true, true, true, false, false, false, false] rfl rfl (by kernel_rfl) (fun _ _ _ h => h) (Or.inl ⟨by rfl, ?_⟩) hHeld ?_ ?_
            rotate_left
            · rintro w' ⟨s0, s1, s2⟩
              go_simp
              with_reducible rfl
            rotate_left
            · simp only [Act.put, List.setIfInBounds_toArray, List.set_cons_zero, List.set_cons_succ, i64_w, i32_w]
              rfl
            refine take_ (i := 6) (N := some 105) (v := ?_) (a' := ?_) #[true, true, true, true, true, true, true, false, false, false] rfl rfl (by kernel_rfl) (fun _ _ _ h => h) (Or.inl ⟨by rfl, ?_⟩) hHeld ?_ ?_
            rotate_left
            · rintro w' ⟨s0, s1, s2⟩
              go_simp
              with_reducible rfl
            rotate_left
            · simp only [Act.put, List.setIfInBounds_toArray, List.set_cons_zero, List.set_cons_succ, i64_w, i32_w]
              rfl
            refine pure_ (i := 7) (N := some 106) (v := ?_) (a' := ?_) #[true, true, true, true, true, true, true, true, false, false] rfl rfl (by kernel_rfl) (fun _ _ _ h => h) (Or.inl ⟨by rfl, ?_⟩) ?_ ?_
            rotate_left
            · intro w'
              go_simp
              with_reducible rfl
            rotate_left
            · simp only [Act.put, List.setIfInBounds_toArray, List.set_cons_zero, List.set_cons_succ, i64_w, i32_w]
              rfl
            refine take_ (i := 8) (N := some 107) (v := ?_) (a' := ?_) #[true, true, true, true, true, true, true, true, true, false] rfl rfl (by kernel_rfl) (fun _ _ _ h => h) (Or.inl ⟨by rfl, ?_⟩) hHeld ?_ ?_
            rotate_left
            · rintro w' ⟨s0, s1, s2⟩
              go_simp
              with_reducible rfl
            rotate_left
            · simp only [Act.put, List.setIfInBounds_toArray, List.set_cons_zero, List.set_cons_succ, i64_w, i32_w]
              rfl
            refine pure_ (i := 9) (N := some 12) (v := ?_) (a' := ?_) #[true, true, true, true, true, true, true, true, true, true] rfl rfl (by kernel_rfl) (fun _ _ _ h => h) (Or.inl ⟨by rfl, ?_⟩) ?_ ?_
            rotate_left
            · intro w'
              go_simp
              with_reducible rfl
            rotate_left
            · simp only [Act.put, List.setIfInBounds_toArray, List.set_cons_zero, List.set_cons_succ, i64_w, i32_w]
              rfl
            refine done_ (by kernel_rfl) ?_
            have HJ8 := Aside0.mk (HJ7.out.below (below_drew (Below.refl w7.heap.size w7)))
            have HG8 := Aside0.mk (show w7.drew.heap[gq]? = some (.cells #[.int .u64 y.v.set, .int .i64 y.v.num, .int .i64 y.v.cnt, .bool y.v.sp, .int .i64 y.v.whole, .int .i64 y.v.off, .int .i64 y.v.size, .slice y.A y.v.b.length y.c] 88 (0, 0)) from HG7.out)
            generalize w7.drew = w8 at HJ8 HG8 ⊢
            clear HJ7 HG7 a8 a1 am hHeld
            rcases HMT.out with ⟨rfl, hP⟩ | ⟨j, hj, rfl, hP⟩
            · have HPP := Aside0.mk (show slot P m = none ∨ slot P m = some y.v.b from .inl hP)
              clear hP
              go_upto_region 19 with fail
              refine start_ (n := 12) (S := fun w' => True) (ds := []) #[false, false, false, false, false, false, false, false, false, false, false, false] (by kernel_rfl) rfl rfl trivial (fun hHeld => ?_)
              refine pure_ (i := 0) (N := some 108) (v := ?_) (a' := ?_) #[true, false, false, false, false, false, false, false, false, false, false, false] rfl rfl (by kernel_rfl) (fun _ _ _ h => h) (Or.inl ⟨by rfl, ?_⟩) ?_ ?_
              rotate_left
              · intro w'
                go_simp
                with_reducible rfl
              rotate_left
              · simp only [Act.put, List.setIfInBounds_toArray, List.set_cons_zero, List.set_cons_succ, i64_w, i32_w]
                rfl
              refine pure_ (i := 1) (N := some 109) (v := ?_) (a' := ?_) #[true, true, false, false, false, false, false, false, false, false, false, false] rfl rfl (by kernel_rfl) (fun _ _ _ h => h) (Or.inl ⟨by rfl, ?_⟩) ?_ ?_
              rotate_left
              · intro w'
                go_simp
                with_reducible rfl
              rotate_left
              · simp only [Act.put, List.setIfInBounds_toArray, List.set_cons_zero, List.set_cons_succ, i64_w, i32_w]
                rfl
              refine pure_ (i := 2) (N := some 110) (v := ?_) (a' := ?_) #[true, true, true, false, false, false, false, false, false, false, false, false] rfl rfl (by kernel_rfl) (fun _ _ _ h => h) (Or.inl ⟨by rfl, ?_⟩) ?_ ?_
              rotate_left
              · intro w'
                go_simp
                with_reducible rfl
              rotate_left
              · simp only [Act.put, List.setIfInBounds_toArray, List.set_cons_zero, List.set_cons_succ, i64_w, i32_w]
                rfl
              refine pure_ (i := 3) (N := some 111) (v := undef) (a' := ?_) #[true, true, true, true, false, false, false, false, false, false, false, false] rfl rfl (by kernel_rfl) (fun _ _ _ h => h) (Or.inr ⟨by rfl, rfl⟩) ?_ ?_
              rotate_left
              · simp only [Act.put, List.setIfInBounds_toArray, List.set_cons_zero, List.set_cons_succ, i64_w, i32_w]
                rfl
              refine pure_ (i := 4) (N := some 112) (v := undef) (a' := ?_) #[true, true, true, true, true, false, false, false, false, false, false, false] rfl rfl (by kernel_rfl) (fun _ _ _ h => h) (Or.inr ⟨by rfl, rfl⟩) ?_ ?_
              rotate_left
              · simp only [Act.put, List.setIfInBounds_toArray, List.set_cons_zero, List.set_cons_succ, i64_w, i32_w]
                rfl
              refine pure_ (i := 5) (N := some 113) (v := undef) (a' := ?_) #[true, true, true, true, true, true, false, false, false, false, false, false] rfl rfl (by kernel_rfl) (fun _ _ _ h => h) (Or.inr ⟨by rfl, rfl⟩) ?_ ?_
              rotate_left
              · simp only [Act.put, List.setIfInBounds_toArray, List.set_cons_zero, List.set_cons_succ, i64_w, i32_w]
                rfl
              refine pure_ (i := 6) (N := some 114) (v := undef) (a' := ?_) #[true, true, true, true, true, true, true, false, false, false, false, false] rfl rfl (by kernel_rfl) (fun _ _ _ h => h) (Or.inr ⟨by rfl, rfl⟩) ?_ ?_
              rotate_left
              · simp only [Act.put, List.setIfInBounds_toArray, List.set_cons_zero, List.set_cons_succ, i64_w, i32_w]
                rfl
              refine pure_ (i := 7) (N := some 115) (v := undef) (a' := ?_) #[true, true, true, true, true, true, true, true, false, false, false, false] rfl rfl (by kernel_rfl) (fun _ _ _ h => h) (Or.inr ⟨by rfl, rfl⟩) ?_ ?_
              rotate_left
              · simp only [Act.put, List.setIfInBounds_toArray, List.set_cons_zero, List.set_cons_succ, i64_w, i32_w]
                rfl
              refine pure_ (i := 8) (N := some 116) (v := undef) (a' := ?_) #[true, true, true, true, true, true, true, true, true, false, false, false] rfl rfl (by kernel_rfl) (fun _ _ _ h => h) (Or.inr ⟨by rfl, rfl⟩) ?_ ?_
              rotate_left
              · simp only [Act.put, List.setIfInBounds_toArray, List.set_cons_zero, List.set_cons_succ, i64_w, i32_w]
                rfl
              refine pure_ (i := 9) (N := some 117) (v := undef) (a' := ?_) #[true, true, true, true, true, true, true, true, true, true, false, false] rfl rfl (by kernel_rfl) (fun _ _ _ h => h) (Or.inr ⟨by rfl, rfl⟩) ?_ ?_
              rotate_left
              · simp only [Act.put, List.setIfInBounds_toArray, List.set_cons_zero, List.set_cons_succ, i64_w, i32_w]
                rfl
              refine pure_ (i := 10) (N := some 118) (v := undef) (a' := ?_) #[true, true, true, true, true, true, true, true, true, true, true, false] rfl rfl (by kernel_rfl) (fun _ _ _ h => h) (Or.inr ⟨by rfl, rfl⟩) ?_ ?_
              rotate_left
              · simp only [Act.put, List.setIfInBounds_toArray, List.set_cons_zero, List.set_cons_succ, i64_w, i32_w]
                rfl
              refine pure_ (i := 11) (N := some 119) (v := ?_) (a' := ?_) #[true, true, true, true, true, true, true, true, true, true, true, true] rfl rfl (by kernel_rfl) (fun _ _ _ h => h) (Or.inl ⟨by rfl, ?_⟩) ?_ ?_
              rotate_left
              · intro w'
                go_simp
                with_reducible rfl
              rotate_left
              · simp only [Act.put, List.setIfInBounds_toArray, List.set_cons_zero, List.set_cons_succ, i64_w, i32_w]
                rfl
              refine done_ (by kernel_rfl) ?_
              go_upto_region 21 with fail
              have HJ9 := Aside0.mk (HJ8.out.below (below_drew (Below.refl w8.heap.size w8)))
              have HG9 := Aside0.mk (show w8.drew.heap[gq]? = some (.cells #[.int .u64 y.v.set, .int .i64 y.v.num, .int .i64 y.v.cnt, .bool y.v.sp, .int .i64 y.v.whole, .int .i64 y.v.off, .int .i64 y.v.size, .slice y.A y.v.b.length y.c] 88 (0, 0)) from HG8.out)
              generalize w8.drew = w9 at HJ9 HG9 ⊢
              clear HJ8 HG8
              have a8 : w9.drew.cell? ⟨gw, 8, none⟩ = some (.slice (some ⟨gl, 0, none⟩) n cl) := cell_of_row w9.drew _ 8 _ 119 (0, 0) HJ9.out.blk
              have a1 : w9.drew.cell? ⟨gq, 1, none⟩ = some (.int .i64 (m : Int)) := by rw [← HMY.out]; exact cell_of_row w9.drew _ 1 _ 88 (0, 0) HG9.out
              obtain ⟨ps2, hps2, _⟩ := HJ9.out.rowP
              have am := Kd.R_celln (enc := Value.pointer) (h1 := fun _ => rfl) (none : Option Addr) (Kd.R_drew hps2) (m : Int) (by omega) (by have := HMN.out; omega)
              rw [Int.toNat_natCast] at am
              obtain ⟨am, fm⟩ := am
              have HJB := Aside0.mk (HJ9.out.below (below_drew (Below.refl w9.heap.size w9)))
              clear hps2
              refine start_ (n := 12) (S := fun w' => w'.cell? ⟨gw, 8, none⟩ = some (.slice (some ⟨gl, 0, none⟩) n cl) ∧ w'.cell? ⟨gq, 1, none⟩ = some (.int .i64 (m : Int))) (ds := [11]) #[false, false, false, false, false, false, false, false, false, false, false, false] (by kernel_rfl) rfl rfl ⟨a8, a1⟩ (fun hHeld => ?_)
              generalize w9.drew = wd at HJB hHeld a8 a1 am fm ⊢
              refine pure_ (i := 0) (N := some 120) (v := ?_) (a' := ?_) #[true, false, false, false, false, false, false, false, false, false, false, false] rfl rfl (by kernel_rfl) (fun _ _ _ h => h) (Or.inl ⟨by rfl, ?_⟩) ?_ ?_
              rotate_left
              · intro w'
                go_simp
                with_reducible rfl
              rotate_left
              · simp only [Act.put, List.setIfInBounds_toArray, List.set_cons_zero, List.set_cons_succ, i64_w, i32_w]
                rfl
              refine pure_ (i := 1) (N := some 121) (v := ?_) (a' := ?_) #[true, true, false, false, false, false, false, false, false, false, false, false] rfl rfl (by kernel_rfl) (fun _ _ _ h => h) (Or.inl ⟨by rfl, ?_⟩) ?_ ?_
              rotate_left
              · intro w'
                go_simp
                with_reducible rfl
              rotate_left
              · simp only [Act.put, List.setIfInBounds_toArray, List.set_cons_zero, List.set_cons_succ, i64_w, i32_w]
                rfl
              refine pure_ (i := 2) (N := some 122) (v := ?_) (a' := ?_) #[true, true, true, false, false, false, false, false, false, false, false, false] rfl rfl (by kernel_rfl) (fun _ _ _ h => h) (Or.inl ⟨by rfl, ?_⟩) ?_ ?_
              rotate_left
              · intro w'
                go_simp
                with_reducible rfl
              rotate_left
              · simp only [Act.put, List.setIfInBounds_toArray, List.set_cons_zero, List.set_cons_succ, i64_w, i32_w]
                rfl
              refine pure_ (i := 4) (N := some 124) (v := ?_) (a' := ?_) #[true, true, true, false, true, false, false, false, false, false, false, false] rfl rfl (by kernel_rfl) (fun _ _ _ h => h) (Or.inl ⟨by rfl, ?_⟩) ?_ ?_
              rotate_left
              · intro w'
                go_simp
                with_reducible rfl
              rotate_left
              · simp only [Act.put, List.setIfInBounds_toArray, List.set_cons_zero, List.set_cons_succ, i64_w, i32_w]
                rfl
              refine pure_ (i := 5) (N := some 125) (v := ?_) (a' := ?_) #[true, true, true, false, true, true, false, false, false, false, false, false] rfl rfl (by kernel_rfl) (fun _ _ _ h => h) (Or.inl ⟨by rfl, ?_⟩) ?_ ?_
              rotate_left
              · intro w'
                go_simp
                with_reducible rfl
              rotate_left
              · simp only [Act.put, List.setIfInBounds_toArray, List.set_cons_zero, List.set_cons_succ, i64_w, i32_w]
                rfl
              refine pure_ (i := 7) (N := some 127) (v := ?_) (a' := ?_) #[true, true, true, false, true, true, false, true, false, false, false, false] rfl rfl (by kernel_rfl) (fun _ _ _ h => h) (Or.inl ⟨by rfl, ?_⟩) ?_ ?_
              rotate_left
              · intro w'
                go_simp
                with_reducible rfl
              rotate_left
              · simp only [Act.put, List.setIfInBounds_toArray, List.set_cons_zero, List.set_cons_succ, i64_w, i32_w]
                rfl
              refine pure_ (i := 8) (N := some 128) (v := ?_) (a' := ?_) #[true, true, true, false, true, true, false, true, true, false, false, false] rfl rfl (by kernel_rfl) (fun _ _ _ h => h) (Or.inl ⟨by rfl, ?_⟩) ?_ ?_
              rotate_left
              · intro w'
                go_simp
                with_reducible rfl
              rotate_left
              · simp only [Act.put, List.setIfInBounds_toArray, List.set_cons_zero, List.set_cons_succ, i64_w, i32_w]
                rfl
              refine pure_ (i := 9) (N := some 129) (v := ?_) (a' := ?_) #[true, true, true, false, true, true, false, true, true, true, false, false] rfl rfl (by kernel_rfl) (fun _ _ _ h => h) (Or.inl ⟨by rfl, ?_⟩) ?_ ?_
              rotate_left
              · intro w'
                go_simp
                with_reducible rfl
              rotate_left
              · simp only [Act.put, List.setIfInBounds_toArray, List.set_cons_zero, List.set_cons_succ, i64_w, i32_w]
                rfl
              refine take_ (i := 3) (N := some 123) (v := ?_) (a' := ?_) #[true, true, true, true, true, true, false, true, true, true, false, false] rfl rfl (by kernel_rfl) (fun _ _ _ h => h) (Or.inl ⟨by rfl, ?_⟩) hHeld ?_ ?_
              rotate_left
              · rintro w' ⟨s0, s1⟩
                go_simp
                with_reducible rfl
              rotate_left
              · simp only [Act.put, List.setIfInBounds_toArray, List.set_cons_zero, List.set_cons_succ, i64_w, i32_w]
                rfl
              refine take_ (i := 6) (N := some 126) (v := ?_) (a' := ?_) #[true, true, true, true, true, true, true, true, true, true, false, false] rfl rfl (by kernel_rfl) (fun _ _ _ h => h) (Or.inl ⟨by rfl, ?_⟩) hHeld ?_ ?_
              rotate_left
              · rintro w' ⟨s0, s1⟩
                go_simp
                with_reducible rfl
              rotate_left
              · simp only [Act.put, List.setIfInBounds_toArray, List.set_cons_zero, List.set_cons_succ, i64_w, i32_w]
                rfl
              refine pure_ (i := 10) (N := some 130) (v := ?_) (a' := ?_) #[true, true, true, true, true, true, true, true, true, true, true, false] rfl rfl (by kernel_rfl) (fun _ _ _ h => h) (Or.inl ⟨by rfl, ?_⟩) ?_ ?_
              rotate_left
              · intro w'
                go_simp
                with_reducible rfl
              rotate_left
              · simp only [Act.put, List.setIfInBounds_toArray, List.set_cons_zero, List.set_cons_succ, i64_w, i32_w]
                rfl
              refine last_ (i := 11) (N := none) #[true, true, true, true, true, true, true, true, true, true, true, true] rfl rfl (by kernel_rfl) (by decide) (fun K hK => ?_)
              refine skip_ (w1 := ?_) (by rfl) rfl ?_ ?_
              rotate_left
              · go_simp
                rfl
              refine hK.out _ _ ?_
              clear hK K
              refine done_ (by kernel_rfl) ?_
              go_wp2
              go_roundg k2
              case measure => have := HM2.out; omega
              case rel => exact ⟨i + 1, P.set m (some y.v.b), by first | rfl | (rw [wrap_succ _ (by have := HM2.out; have := HLN.out; have := HN.out; omega)]), ⟨HJB.out.step (by have := HM2.out; omega) HYE.out HMY.out HMN.out HAG.out HPP.out⟩, ⟨by have := HM2.out; omega, by have := HM2.out; omega⟩⟩
            · have HP2 := Aside0.mk hP
              obtain ⟨z, hz⟩ : ∃ z, z = ll.getD j zVol := ⟨_, rfl⟩
              have hjl : j < ll.length := by omega
              have hzm : z ∈ ll := by rw [hz, List.getD_eq_getElem?_getD, List.getElem?_eq_getElem hjl, Option.getD_some]; exact List.getElem_mem _
              obtain ⟨cc, _, hM, hcc, _⟩ := Kd.R_elem (Kd.R_drew HJ8.out.rowV) zVol (j : Int) (by omega) (by omega)
              rw [Int.toNat_natCast, ← hz] at hM
              rw [Int.toNat_natCast] at hcc
              obtain rfl : cc = z.cells := hM
              have b7 : w8.drew.cell? ⟨g4, j * 8 + 7, none⟩ = some (.slice z.A z.v.b.length z.c) := hcc 7 _ rfl
              have c7 : w8.drew.cell? ⟨gq, 7, none⟩ = some (.slice y.A y.v.b.length y.c) := cell_of_row w8.drew _ 7 _ 88 (0, 0) HG8.out
              have HEQ := Aside0.mk (fun (W : World) (hW : Below w.heap.size w W) => equal_calls z.A z.c z.v.b y.A y.c y.v.b W ((HVW.out z hzm).1.below hW) ((HVW.out y HYM.out).1.below hW) (HVW.out z hzm).2.2.2 (HVW.out y HYM.out).2.2.2)
              rw [← hz] at HP2
              clear hcc hzm hz hP hj hjl
              (try clear hM)
              have heq : z.v.b = y.v.b := by
                have h2 := HCD.out.2
                rw [HMY.out, Int.toNat_natCast, HP2.out] at h2
                rcases h2 with h2 | h2
                · exact absurd h2 (by simp)
                · injection h2
              have hde : decide (z.v.b = y.v.b) = true := decide_eq_true heq
              have HPP := Aside0.mk (show slot P m = none ∨ slot P m = some y.v.b from .inr (by rw [HP2.out, heq]))
              clear heq
              rw [hde] at HEQ
              clear hde
              go_upto_region 19 with fail
              have HJA := Aside0.mk (HJ8.out.below (below_drew (Below.refl w8.heap.size w8)))
              have HGA := Aside0.mk (show w8.drew.heap[gq]? = some (.cells #[.int .u64 y.v.set, .int .i64 y.v.num, .int .i64 y.v.cnt, .bool y.v.sp, .int .i64 y.v.whole, .int .i64 y.v.off, .int .i64 y.v.size, .slice y.A y.v.b.length y.c] 88 (0, 0)) from HG8.out)
              refine start_ (n := 12) (S := fun w' => w'.cell? ⟨g4, j * 8 + 7, none⟩ = some (.slice z.A z.v.b.length z.c) ∧ w'.cell? ⟨gq, 7, none⟩ = some (.slice y.A y.v.b.length y.c)) (ds := []) #[false, false, false, false, false, false, false, false, false, false, false, false] (by kernel_rfl) rfl rfl ⟨b7, c7⟩ (fun hHeld => ?_)
              generalize w8.drew = wd at HJA HGA hHeld b7 c7 ⊢
              refine pure_ (i := 0) (N := some 108) (v := ?_) (a' := ?_) #[true, false, false, false, false, false, false, false, false, false, false, false] rfl rfl (by kernel_rfl) (fun _ _ _ h => h) (Or.inl ⟨by rfl, ?_⟩) ?_ ?_
              rotate_left
              · intro w'
                go_simp
                with_reducible rfl
              rotate_left
              · simp only [Act.put, List.setIfInBounds_toArray, List.set_cons_zero, List.set_cons_succ, i64_w, i32_w]
                rfl
              refine pure_ (i := 1) (N := some 109) (v := ?_) (a' := ?_) #[true, true, false, false, false, false, false, false, false, false, false, false] rfl rfl (by kernel_rfl) (fun _ _ _ h => h) (Or.inl ⟨by rfl, ?_⟩) ?_ ?_
              rotate_left
              · intro w'
                go_simp
                with_reducible rfl
              rotate_left
              · simp only [Act.put, List.setIfInBounds_toArray, List.set_cons_zero, List.set_cons_succ, i64_w, i32_w]
                rfl
              refine pure_ (i := 2) (N := some 110) (v := ?_) (a' := ?_) #[true, true, true, false, false, false, false, false, false, false, false, false] rfl rfl (by kernel_rfl) (fun _ _ _ h => h) (Or.inl ⟨by rfl, ?_⟩) ?_ ?_
              rotate_left
              · intro w'
                go_simp
                with_reducible rfl
              rotate_left
              · simp only [Act.put, List.setIfInBounds_toArray, List.set_cons_zero, List.set_cons_succ, i64_w, i32_w]
                rfl
              refine pure_ (i := 3) (N := some 111) (v := ?_) (a' := ?_) #[true, true, true, true, false, false, false, false, false, false, false, false] rfl rfl (by kernel_rfl) (fun _ _ _ h => h) (Or.inl ⟨by rfl, ?_⟩) ?_ ?_
              rotate_left
              · intro w'
                go_simp
                with_reducible rfl
              rotate_left
              · simp only [Act.put, List.setIfInBounds_toArray, List.set_cons_zero, List.set_cons_succ, i64_w, i32_w]
                rfl
              refine pure_ (i := 4) (N := some 112) (v := ?_) (a' := ?_) #[true, true, true, true, true, false, false, false, false, false, false, false] rfl rfl (by kernel_rfl) (fun _ _ _ h => h) (Or.inl ⟨by rfl, ?_⟩) ?_ ?_
              rotate_left
              · intro w'
                go_simp
                with_reducible rfl
              rotate_left
              · simp only [Act.put, List.setIfInBounds_toArray, List.set_cons_zero, List.set_cons_succ, i64_w, i32_w]
                rfl
              refine pure_ (i := 5) (N := some 113) (v := ?_) (a' := ?_) #[true, true, true, true, true, true, false, false, false, false, false, false] rfl rfl (by kernel_rfl) (fun _ _ _ h => h) (Or.inl ⟨by rfl, ?_⟩) ?_ ?_
              rotate_left
              · intro w'
                go_simp
                with_reducible rfl
              rotate_left
              · simp only [Act.put, List.setIfInBounds_toArray, List.set_cons_zero, List.set_cons_succ, i64_w, i32_w]
                rfl
              refine pure_ (i := 7) (N := some 115) (v := ?_) (a' := ?_) #[true, true, true, true, true, true, false, true, false, false, false, false] rfl rfl (by kernel_rfl) (fun _ _ _ h => h) (Or.inl ⟨by rfl, ?_⟩) ?_ ?_
              rotate_left
              · intro w'
                go_simp
                with_reducible rfl
              rotate_left
              · simp only [Act.put, List.setIfInBounds_toArray, List.set_cons_zero, List.set_cons_succ, i64_w, i32_w]
                rfl
              refine take_ (i := 6) (N := some 114) (v := ?_) (a' := ?_) #[true, true, true, true, true, true, true, true, false, false, false, false] rfl rfl (by kernel_rfl) (fun _ _ _ h => h) (Or.inl ⟨by rfl, ?_⟩) hHeld ?_ ?_
              rotate_left
              · rintro w' ⟨s0, s1⟩
                go_simp
                with_reducible rfl
              rotate_left
              · simp only [Act.put, List.setIfInBounds_toArray, List.set_cons_zero, List.set_cons_succ, i64_w, i32_w]
                rfl
              refine take_ (i := 8) (N := some 116) (v := ?_) (a' := ?_) #[true, true, true, true, true, true, true, true, true, false, false, false] rfl rfl (by kernel_rfl) (fun _ _ _ h => h) (Or.inl ⟨by rfl, ?_⟩) hHeld ?_ ?_
              rotate_left
              · rintro w' ⟨s0, s1⟩
                go_simp
                with_reducible rfl
              rotate_left
              · simp only [Act.put, List.setIfInBounds_toArray, List.set_cons_zero, List.set_cons_succ, i64_w, i32_w]
                rfl
              refine one_ (i := 9) (N := some 117) #[true, true, true, true, true, true, true, true, true, true, false, false] rfl rfl (by kernel_rfl) (by decide) (fun K hK => ?_)
              refine goes_ Try.func93 (by kernel_rfl) rfl #[.slice z.A z.v.b.length z.c, .slice y.A y.v.b.length y.c] (by rfl) rfl rfl (by simp only [List.map_toArray, List.map_cons, List.map_nil]; rfl) ?_
              with_reducible refine ((HEQ.out wd HJA.out.bel)).mono ?_
              rintro e w9 ⟨rfl, b9⟩
              refine ⟨_, rfl, ?_⟩
              have HB9 := Aside0.mk b9
              clear b9
              refine hK.out _ _ ⟨(pw_cell_below HB9.out b7), (pw_cell_below HB9.out c7)⟩ (fun hHeld => ?_)
              clear hK K
              refine norm_ (a' := ?_) ?_ ?_
              rotate_left
              · show Act.put _ (some 117) _ = _
                simp only [Act.put, List.setIfInBounds_toArray, List.set_cons_zero, List.set_cons_succ, i64_w, i32_w]
                rfl
              refine pure_ (i := 10) (N := some 118) (v := ?_) (a' := ?_) #[true, true, true, true, true, true, true, true, true, true, true, false] rfl rfl (by kernel_rfl) (fun _ _ _ h => h) (Or.inl ⟨by rfl, ?_⟩) ?_ ?_
              rotate_left
              · intro w'
                go_simp
                with_reducible rfl
              rotate_left
              · simp only [Act.put, List.setIfInBounds_toArray, List.set_cons_zero, List.set_cons_succ, i64_w, i32_w]
                rfl
              refine pure_ (i := 11) (N := some 119) (v := ?_) (a' := ?_) #[true, true, true, true, true, true, true, true, true, true, true, true] rfl rfl (by kernel_rfl) (fun _ _ _ h => h) (Or.inl ⟨by rfl, ?_⟩) ?_ ?_
              rotate_left
              · intro w'
                go_simp
                with_reducible rfl
              rotate_left
              · simp only [Act.put, List.setIfInBounds_toArray, List.set_cons_zero, List.set_cons_succ, i64_w, i32_w]
                rfl
              refine done_ (by kernel_rfl) ?_
              have HJ9 := Aside0.mk (HJA.out.below HB9.out)
              have HG9 := Aside0.mk ((HB9.out.block _ (blk_lt HGA.out)).trans HGA.out)
              clear HJ8 HG8 HJA HGA HB9 b7 c7 hHeld
              go_upto_region 21 with fail
              have a8 : w9.drew.cell? ⟨gw, 8, none⟩ = some (.slice (some ⟨gl, 0, none⟩) n cl) := cell_of_row w9.drew _ 8 _ 119 (0, 0) HJ9.out.blk
              have a1 : w9.drew.cell? ⟨gq, 1, none⟩ = some (.int .i64 (m : Int)) := by rw [← HMY.out]; exact cell_of_row w9.drew _ 1 _ 88 (0, 0) HG9.out
              obtain ⟨ps2, hps2, _⟩ := HJ9.out.rowP
              have am := Kd.R_celln (enc := Value.pointer) (h1 := fun _ => rfl) (none : Option Addr) (Kd.R_drew hps2) (m : Int) (by omega) (by have := HMN.out; omega)
              rw [Int.toNat_natCast] at am
              obtain ⟨am, fm⟩ := am
              have HJB := Aside0.mk (HJ9.out.below (below_drew (Below.refl w9.heap.size w9)))
              clear hps2
              refine start_ (n := 12) (S := fun w' => w'.cell? ⟨gw, 8, none⟩ = some (.slice (some ⟨gl, 0, none⟩) n cl) ∧ w'.cell? ⟨gq, 1, none⟩ = some (.int .i64 (m : Int))) (ds := [11]) #[false, false, false, false, false, false, false, false, false, false, false, false] (by kernel_rfl) rfl rfl ⟨a8, a1⟩ (fun hHeld => ?_)
              generalize w9.drew = wd at HJB hHeld a8 a1 am fm ⊢
              refine pure_ (i := 0) (N := some 120) (v := ?_) (a' := ?_) #[true, false, false, false, false, false, false, false, false, false, false, false] rfl rfl (by kernel_rfl) (fun _ _ _ h => h) (Or.inl ⟨by rfl, ?_⟩) ?_ ?_
              rotate_left
              · intro w'
                go_simp
                with_reducible rfl
              rotate_left
              · simp only [Act.put, List.setIfInBounds_toArray, List.set_cons_zero, List.set_cons_succ, i64_w, i32_w]
                rfl
              refine pure_ (i := 1) (N := some 121) (v := ?_) (a' := ?_) #[true, true, false, false, false, false, false, false, false, false, false, false] rfl rfl (by kernel_rfl) (fun _ _ _ h => h) (Or.inl ⟨by rfl, ?_⟩) ?_ ?_
              rotate_left
              · intro w'
                go_simp
                with_reducible rfl
              rotate_left
              · simp only [Act.put, List.setIfInBounds_toArray, List.set_cons_zero, List.set_cons_succ, i64_w, i32_w]
                rfl
              refine pure_ (i := 2) (N := some 122) (v := ?_) (a' := ?_) #[true, true, true, false, false, false, false, false, false, false, false, false] rfl rfl (by kernel_rfl) (fun _ _ _ h => h) (Or.inl ⟨by rfl, ?_⟩) ?_ ?_
              rotate_left
              · intro w'
                go_simp
                with_reducible rfl
              rotate_left
              · simp only [Act.put, List.setIfInBounds_toArray, List.set_cons_zero, List.set_cons_succ, i64_w, i32_w]
                rfl
              refine pure_ (i := 4) (N := some 124) (v := ?_) (a' := ?_) #[true, true, true, false, true, false, false, false, false, false, false, false] rfl rfl (by kernel_rfl) (fun _ _ _ h => h) (Or.inl ⟨by rfl, ?_⟩) ?_ ?_
              rotate_left
              · intro w'
                go_simp
                with_reducible rfl
              rotate_left
              · simp only [Act.put, List.setIfInBounds_toArray, List.set_cons_zero, List.set_cons_succ, i64_w, i32_w]
                rfl
              refine pure_ (i := 5) (N := some 125) (v := ?_) (a' := ?_) #[true, true, true, false, true, true, false, false, false, false, false, false] rfl rfl (by kernel_rfl) (fun _ _ _ h => h) (Or.inl ⟨by rfl, ?_⟩) ?_ ?_
              rotate_left
              · intro w'
                go_simp
                with_reducible rfl
              rotate_left
              · simp only [Act.put, List.setIfInBounds_toArray, List.set_cons_zero, List.set_cons_succ, i64_w, i32_w]
                rfl
              refine pure_ (i := 7) (N := some 127) (v := ?_) (a' := ?_) #[true, true, true, false, true, true, false, true, false, false, false, false] rfl rfl (by kernel_rfl) (fun _ _ _ h => h) (Or.inl ⟨by rfl, ?_⟩) ?_ ?_
              rotate_left
              · intro w'
                go_simp
                with_reducible rfl
              rotate_left
              · simp only [Act.put, List.setIfInBounds_toArray, List.set_cons_zero, List.set_cons_succ, i64_w, i32_w]
                rfl
              refine pure_ (i := 8) (N := some 128) (v := ?_) (a' := ?_) #[true, true, true, false, true, true, false, true, true, false, false, false] rfl rfl (by kernel_rfl) (fun _ _ _ h => h) (Or.inl ⟨by rfl, ?_⟩) ?_ ?_
              rotate_left
              · intro w'
                go_simp
                with_reducible rfl
              rotate_left
              · simp only [Act.put, List.setIfInBounds_toArray, List.set_cons_zero, List.set_cons_succ, i64_w, i32_w]
                rfl
              refine pure_ (i := 9) (N := some 129) (v := ?_) (a' := ?_) #[true, true, true, false, true, true, false, true, true, true, false, false] rfl rfl (by kernel_rfl) (fun _ _ _ h => h) (Or.inl ⟨by rfl, ?_⟩) ?_ ?_
              rotate_left
              · intro w'
                go_simp
                with_reducible rfl
              rotate_left
              · simp only [Act.put, List.setIfInBounds_toArray, List.set_cons_zero, List.set_cons_succ, i64_w, i32_w]
                rfl
              refine take_ (i := 3) (N := some 123) (v := ?_) (a' := ?_) #[true, true, true, true, true, true, false, true, true, true, false, false] rfl rfl (by kernel_rfl) (fun _ _ _ h => h) (Or.inl ⟨by rfl, ?_⟩) hHeld ?_ ?_
              rotate_left
              · rintro w' ⟨s0, s1⟩
                go_simp
                with_reducible rfl
              rotate_left
              · simp only [Act.put, List.setIfInBounds_toArray, List.set_cons_zero, List.set_cons_succ, i64_w, i32_w]
                rfl
              refine take_ (i := 6) (N := some 126) (v := ?_) (a' := ?_) #[true, true, true, true, true, true, true, true, true, true, false, false] rfl rfl (by kernel_rfl) (fun _ _ _ h => h) (Or.inl ⟨by rfl, ?_⟩) hHeld ?_ ?_
              rotate_left
              · rintro w' ⟨s0, s1⟩
                go_simp
                with_reducible rfl
              rotate_left
              · simp only [Act.put, List.setIfInBounds_toArray, List.set_cons_zero, List.set_cons_succ, i64_w, i32_w]
                rfl
              refine pure_ (i := 10) (N := some 130) (v := ?_) (a' := ?_) #[true, true, true, true, true, true, true, true, true, true, true, false] rfl rfl (by kernel_rfl) (fun _ _ _ h => h) (Or.inl ⟨by rfl, ?_⟩) ?_ ?_
              rotate_left
              · intro w'
                go_simp
                with_reducible rfl
              rotate_left
              · simp only [Act.put, List.setIfInBounds_toArray, List.set_cons_zero, List.set_cons_succ, i64_w, i32_w]
                rfl
              refine last_ (i := 11) (N := none) #[true, true, true, true, true, true, true, true, true, true, true, true] rfl rfl (by kernel_rfl) (by decide) (fun K hK => ?_)
              refine skip_ (w1 := ?_) (by rfl) rfl ?_ ?_
              rotate_left
              · go_simp
                rfl
              refine hK.out _ _ ?_
              clear hK K
              refine done_ (by kernel_rfl) ?_
              go_wp2
              go_roundg k2
              case measure => have := HM2.out; omega
              case rel => exact ⟨i + 1, P.set m (some y.v.b), by first | rfl | (rw [wrap_succ _ (by have := HM2.out; have := HLN.out; have := HN.out; omega)]), ⟨HJB.out.step (by have := HM2.out; omega) HYE.out HMY.out HMN.out HAG.out HPP.out⟩, ⟨by have := HM2.out; omega, by have := HM2.out; omega⟩⟩
          · have hd : decide (i < ll.length) = false := decide_eq_false hi
            have hie : i = ll.length := by have := HM2.out; omega
            subst hie
            have hfl := HJ.out.fill
            rw [List.drop_length, List.map_nil] at hfl
            have hgr := gather_eq gE vO L x cs ll n HFE.out HLL.out HCM.out (by have := HNX.out; omega)
            rw [hfl] at hgr
            have HGR := Aside0.mk (show gatherR gE vO L = (0, x.v, P) from hgr)
            clear hgr hfl hi
            rw [HGR.out] at HQ
            go_wp2
            have HWW := HJ.out.whole (by have := HNX.out; omega) HVW.out HLW.out
            refine HQ.out _ _ ⟨by repeat (first | exact HJ.out.bel | apply below_alloc | apply pw_below_drewN | apply below_drew1), fun h => absurd rfl h, fun _ => ⟨gw, rfl, HWW⟩⟩
end Go.Proofs.Ytnkcbkfccbfjpaa.Z
/- Volumes: Clone of bytes (f68), gone (f70), place (f71). -/

namespace Go.Proofs.Ytnkcbkfccbfjpaa.Z
open Go.RowKit Go.Proofs.Ytnkcbkfccbfjpaa.XxhW Go.Proofs.Ytnkcbkfccbfjpaa.QVolumesCuts Go.Proofs.YtnkcbkfccbfjpaaW.PrintWords Go.Proofs.YtnkcbkfccbfjpaaW.PrintLast Go.Proofs.YtnkcbkfccbfjpaaW.PrintMore
attribute [local go_sem] max2_int min2_int max_two min_two max_three min_three max_four min_four
set_option linter.unusedVariables false
set_option linter.unusedSimpArgs false
/-- x[:j], within the capacity. -/
theorem slice_run {P : Program} (t e : TypeId) {i : TypeInfo} (ht : P.underlying t = some (.slice e)) (hi : P.info? e = some i) (hsz : i.size = 1) (A : Option Addr) (n c j : Nat) (hj : j ≤ c) (W : World) :
    (Instr.slice t (.slice A n c) none (some (.int .i64 (j : Int))) none).run P W = .ok (.slice A j c) W := by
  have hel : P.elem t = e := by simp [Program.elem, ht]
  have hu : P.underlying t = some (.slice (P.elem t)) := by rw [hel]; exact ht
  have ha : (A.map fun x => x.add 0) = A := by cases A <;> simp [Addr.add]
  rw [run_slice_h W t A n c hu .i64 (j : Int) (by omega) (by omega), hel]
  simp [sizeOf, typeInfo, hi, hsz, sliced, Result.andThen, ha]
theorem info3 : (Try.prog.info? 3).map (fun i => (i.zero, i.size, i.bytes)) = some (some (.int .i64 0), 1, 8) := by kernel_rfl
def goneI (ps : List (Option Addr)) : Nat → List Int
  | 0 => []
  | i + 1 => goneI ps i ++ (if ps.getD i none = none then [(i : Int)] else [])
theorem goneI_succ (ps : List (Option Addr)) (i : Nat) : goneI ps (i + 1) = goneI ps i ++ (if ps.getD i none = none then [(i : Int)] else []) := rfl
theorem goneI_len (ps : List (Option Addr)) : ∀ i, (goneI ps i).length ≤ i
  | 0 => Nat.le_refl _
  | i + 1 => by
    have := goneI_len ps i
    unfold goneI
    rw [List.length_append]
    split <;> simp <;> omega
set_option maxHeartbeats 4000000 in
set_option maxRecDepth 100000 in
theorem gone_calls (v0 : Vol) (gw gl n cap c : Nat) (ps : List (Option Addr)) (base : Nat) (ok : Nat → Prop) (w : World) (hblk : w.heap[gw]? = some (.cells #[.int .u64 v0.set, .int .i64 v0.num, .int .i64 v0.cnt, .bool v0.sp, .int .i64 v0.whole, .int .i64 v0.off, .int .i64 v0.size, .int .i64 (stepV v0), .slice (some ⟨gl, 0, none⟩) n cap] 119 (0, 0))) (hrow : Kd.R kP 116 w base ok (.slice (some ⟨gl, 0, none⟩) n cap) ps) (hc : v0.cnt = (c : Int)) (hcn : c < n) (hc2 : c ≤ 1000) :
    Calls Try.prog 70 #[.pointer (some ⟨gw, 0, none⟩)] w fun e w' => ∃ v, e = .returned v ∧ Kd.R (Kd.int .i64) 3 w' w.heap.size (fun _ => True) v (goneI ps c) ∧ Below w.heap.size w w' := by
  obtain ⟨hlp, hnc, _⟩ := Kd.R_reads' hrow
  obtain ⟨i0, hi, _, hsz, _⟩ := info_parts info116
  have kS : ∀ W : World, (Instr.slice 117 (.slice (some ⟨gl, 0, none⟩) n cap) none (some (.int .i64 (c : Int))) none).run Try.prog W = .ok (.slice (some ⟨gl, 0, none⟩) c cap) W := fun W => slice_run 117 116 Try.underlying117 hi hsz _ n cap c (by omega) W
  have HBK := Aside0.mk hblk
  have HRW := Aside0.mk hrow
  have HC2 := Aside0.mk hc2
  have HCN := Aside0.mk hcn
  have c8 : w.drew.cell? ⟨gw, 8, none⟩ = some (.slice (some ⟨gl, 0, none⟩) n cap) := cell_of_row w.drew _ 8 _ 119 (0, 0) hblk
  have c2 : w.drew.cell? ⟨gw, 2, none⟩ = some (.int .i64 (c : Int)) := by rw [← hc]; exact cell_of_row w.drew _ 2 _ 119 (0, 0) hblk
  have HB := Aside0.mk (below_drew (Below.refl w.heap.size w))
  clear hblk hrow hc hlp hnc hi hsz hc2 hcn
  go_enter Try.func70, Try.ntmps70
  go_upto_region 2 with fail
  refine start_ (n := 12) (S := fun w' => w'.cell? ⟨gw, 8, none⟩ = some (.slice (some ⟨gl, 0, none⟩) n cap) ∧ w'.cell? ⟨gw, 2, none⟩ = some (.int .i64 (c : Int))) (ds := []) #[false, false, false, false, false, false, false, false, false, false, false, false] (by kernel_rfl) rfl rfl ⟨c8, c2⟩ (fun hHeld => ?_)
  refine pure_ (i := 0) (N := some 6) (v := ?_) (a' := ?_) #[true, false, false, false, false, false, false, false, false, false, false, false] rfl rfl (by kernel_rfl) (fun _ _ _ h => h) (Or.inl ⟨by rfl, ?_⟩) ?_ ?_
  rotate_left
  · intro w'
    go_simp
    with_reducible rfl
  rotate_left
  · simp only [Act.put, List.setIfInBounds_toArray, List.set_cons_zero, List.set_cons_succ, i64_w, i32_w]
    rfl
  refine pure_ (i := 1) (N := some 7) (v := ?_) (a' := ?_) #[true, true, false, false, false, false, false, false, false, false, false, false] rfl rfl (by kernel_rfl) (fun _ _ _ h => h) (Or.inl ⟨by rfl, ?_⟩) ?_ ?_
  rotate_left
  · intro w'
    go_simp
    with_reducible rfl
  rotate_left
  · simp only [Act.put, List.setIfInBounds_toArray, List.set_cons_zero, List.set_cons_succ, i64_w, i32_w]
    rfl
  refine pure_ (i := 2) (N := some 8) (v := ?_) (a' := ?_) #[true, true, true, false, false, false, false, false, false, false, false, false] rfl rfl (by kernel_rfl) (fun _ _ _ h => h) (Or.inl ⟨by rfl, ?_⟩) ?_ ?_
  rotate_left
  · intro w'
    go_simp
    with_reducible rfl
  rotate_left
  · simp only [Act.put, List.setIfInBounds_toArray, List.set_cons_zero, List.set_cons_succ, i64_w, i32_w]
    rfl
  refine pure_ (i := 4) (N := some 10) (v := ?_) (a' := ?_) #[true, true, true, false, true, false, false, false, false, false, false, false] rfl rfl (by kernel_rfl) (fun _ _ _ h => h) (Or.inl ⟨by rfl, ?_⟩) ?_ ?_
  rotate_left
  · intro w'
    go_simp
    with_reducible rfl
  rotate_left
  · simp only [Act.put, List.setIfInBounds_toArray, List.set_cons_zero, List.set_cons_succ, i64_w, i32_w]
    rfl
  refine pure_ (i := 5) (N := some 11) (v := ?_) (a' := ?_) #[true, true, true, false, true, true, false, false, false, false, false, false] rfl rfl (by kernel_rfl) (fun _ _ _ h => h) (Or.inl ⟨by rfl, ?_⟩) ?_ ?_
  rotate_left
  · intro w'
    go_simp
    with_reducible rfl
  rotate_left
  · simp only [Act.put, List.setIfInBounds_toArray, List.set_cons_zero, List.set_cons_succ, i64_w, i32_w]
    rfl
  refine pure_ (i := 6) (N := some 12) (v := ?_) (a' := ?_) #[true, true, true, false, true, true, true, false, false, false, false, false] rfl rfl (by kernel_rfl) (fun _ _ _ h => h) (Or.inl ⟨by rfl, ?_⟩) ?_ ?_
  rotate_left
  · intro w'
    go_simp
    with_reducible rfl
  rotate_left
  · simp only [Act.put, List.setIfInBounds_toArray, List.set_cons_zero, List.set_cons_succ, i64_w, i32_w]
    rfl
  refine pure_ (i := 7) (N := some 13) (v := ?_) (a' := ?_) #[true, true, true, false, true, true, true, true, false, false, false, false] rfl rfl (by kernel_rfl) (fun _ _ _ h => h) (Or.inl ⟨by rfl, ?_⟩) ?_ ?_
  rotate_left
  · intro w'
    go_simp
    with_reducible rfl
  rotate_left
  · simp only [Act.put, List.setIfInBounds_toArray, List.set_cons_zero, List.set_cons_succ, i64_w, i32_w]
    rfl
  refine pure_ (i := 11) (N := some 17) (v := ?_) (a' := ?_) #[true, true, true, false, true, true, true, true, false, false, false, true] rfl rfl (by kernel_rfl) (fun _ _ _ h => h) (Or.inl ⟨by rfl, ?_⟩) ?_ ?_
  rotate_left
  · intro w'
    go_simp
    with_reducible rfl
  rotate_left
  · simp only [Act.put, List.setIfInBounds_toArray, List.set_cons_zero, List.set_cons_succ, i64_w, i32_w]
    rfl
  refine take_ (i := 3) (N := some 9) (v := ?_) (a' := ?_) #[true, true, true, true, true, true, true, true, false, false, false, true] rfl rfl (by kernel_rfl) (fun _ _ _ h => h) (Or.inl ⟨by rfl, ?_⟩) hHeld ?_ ?_
  rotate_left
  · rintro w' ⟨s0, s1⟩
    go_simp
    with_reducible rfl
  rotate_left
  · simp only [Act.put, List.setIfInBounds_toArray, List.set_cons_zero, List.set_cons_succ, i64_w, i32_w]
    rfl
  refine take_ (i := 8) (N := some 14) (v := ?_) (a' := ?_) #[true, true, true, true, true, true, true, true, true, false, false, true] rfl rfl (by kernel_rfl) (fun _ _ _ h => h) (Or.inl ⟨by rfl, ?_⟩) hHeld ?_ ?_
  rotate_left
  · rintro w' ⟨s0, s1⟩
    go_simp
    with_reducible rfl
  rotate_left
  · simp only [Act.put, List.setIfInBounds_toArray, List.set_cons_zero, List.set_cons_succ, i64_w, i32_w]
    rfl
  refine pure_ (i := 9) (N := some 15) (v := ?_) (a' := ?_) #[true, true, true, true, true, true, true, true, true, true, false, true] rfl rfl (by kernel_rfl) (fun _ _ _ h => h) (Or.inl ⟨by rfl, ?_⟩) ?_ ?_
  rotate_left
  · intro w'
    go_simp
    with_reducible rfl
  rotate_left
  · simp only [Act.put, List.setIfInBounds_toArray, List.set_cons_zero, List.set_cons_succ, i64_w, i32_w]
    rfl
  refine pure_ (i := 10) (N := some 16) (v := ?_) (a' := ?_) #[true, true, true, true, true, true, true, true, true, true, true, true] rfl rfl (by kernel_rfl) (fun _ _ _ h => h) (Or.inl ⟨by rfl, ?_⟩) ?_ ?_
  rotate_left
  · intro w'
    go_simp
    with_reducible rfl
  rotate_left
  · simp only [Act.put, List.setIfInBounds_toArray, List.set_cons_zero, List.set_cons_succ, i64_w, i32_w]
    rfl
  refine done_ (by kernel_rfl) ?_
  go_upto_region 3 with fail
  clear kS hHeld
  obtain ⟨kf, hkf⟩ : ∃ kf, kf = c + 1 := ⟨_, rfl⟩
  have HK := Aside0.mk hkf
  clear hkf c8 c2
  go_loopg [3, 17] kf (fun kq v3 v17 w' => ∃ i : Nat, v17 = .int .i64 (i : Int) ∧ Aside0 (Kd.R (Kd.int .i64) 3 w' w.heap.size (fun _ => True) v3 (goneI ps i)) ∧ Aside0 (Below w.heap.size w w') ∧ Aside0 (i ≤ c ∧ c < i + kq))
  case atStart => exact ⟨0, by first | rfl | (simp; done), ⟨Kd.R_nil _ _ _ _ _⟩, HB, ⟨Nat.zero_le _, by have := HK.out; omega⟩⟩
  case round =>
    obtain ⟨i, rfl, HO, HBW, HM⟩ := hrel
    cases gk with
    | zero => exact absurd HM.out (by omega)
    | succ k1 =>
    by_cases hi : i < c
    · have hd : decide (i < c) = true := decide_eq_true hi
      have hdi : (i : Int) < (c : Int) := by omega
      have am : wr.cell? ⟨gl, i, none⟩ = some (.pointer (ps.getD i none)) := by
        have h := (Kd.R_celln (enc := Value.pointer) (h1 := fun _ => rfl) (none : Option Addr) HRW.out (i : Int) (by omega) (by have := HCN.out; omega)).1
        rw [Int.toNat_natCast] at h
        exact pw_cell_below HBW.out h
      obtain ⟨po, hpo⟩ : ∃ po, po = ps.getD i none := ⟨_, rfl⟩
      rw [← hpo] at am
      cases po with
      | some ad =>
        have hg : goneI ps (i + 1) = goneI ps i := by rw [goneI_succ, if_neg (by rw [← hpo]; simp), List.append_nil]
        have HG := Aside0.mk hg
        clear hg hpo
        go_wp2
        go_roundg k1
        case measure => have := HM.out; omega
        case rel => exact ⟨i + 1, by first | rfl | (rw [wrap_succ _ (by have := HC2.out; omega)]), ⟨by rw [HG.out]; exact HO.out⟩, HBW, ⟨by have := HM.out; omega, by have := HM.out; omega⟩⟩
      | none =>
        have hg : goneI ps (i + 1) = goneI ps i ++ [(i : Int)] := by rw [goneI_succ, if_pos hpo.symm]
        have HG := Aside0.mk hg
        have hln : (goneI ps i).length ≤ 1000 := by have := goneI_len ps i; have := HC2.out; omega
        clear hg hpo
        go_wp2_with ((with_reducible refine gate_builtin (b := .append) (xs := #[.tmp 24, .tmp 26]) rfl ?_); at_builtin; refine Kd.R_append (Kd.int .i64) (w0 := w) w.heap.size rfl (.tmp 24) (.tmp 26) 73 3 (.int .i64 0) 8 rfl Try.underlying73 info3 rfl (by decide) (by omega) _ (goneI ps i) (i : Int) [.int .i64 (i : Int)] (fun _ => True) (fun _ => False) rfl (by first | (go_simp; done) | (go_simp; rfl)) ?aP (fun _ hk => hk.elim) (fun _ _ => trivial) ?aO ?aB ?aS ?aL ?_; (case aP => exact rfl); (case aB => exact HBW.out); (case aO => exact HO.out); (case aS => exact HBW.out.size); (case aL => omega); intro v9 w9 ho hb hg hat; have HO9 := Aside0.mk ho; have HB9 := Aside0.mk hb; clear ho hb hg hat)
        go_roundg k1
        case measure => have := HM.out; omega
        case rel => exact ⟨i + 1, by first | rfl | (rw [wrap_succ _ (by have := HC2.out; omega)]), ⟨by rw [HG.out]; exact HO9.out⟩, HB9, ⟨by have := HM.out; omega, by have := HM.out; omega⟩⟩
    · have hd : decide (i < c) = false := decide_eq_false hi
      have hie : i = c := by have := HM.out; omega
      subst hie
      go_wp2
      go_ret
      exact ⟨_, rfl, HO.out, HBW.out⟩
/-- Where a volume's bytes lie. -/
def placeP (v0 : Vol) (i : Nat) : Int × Int := if v0.cnt = 1 then (0, v0.whole) else ((i : Int) * stepV v0, if v0.whole < (i : Int) * stepV v0 + stepV v0 then v0.whole else (i : Int) * stepV v0 + stepV v0)
set_option maxHeartbeats 4000000 in
set_option maxRecDepth 100000 in
theorem place_calls (v0 : Vol) (gw gl n cap i : Nat) (w : World) (hblk : w.heap[gw]? = some (.cells #[.int .u64 v0.set, .int .i64 v0.num, .int .i64 v0.cnt, .bool v0.sp, .int .i64 v0.whole, .int .i64 v0.off, .int .i64 v0.size, .int .i64 (stepV v0), .slice (some ⟨gl, 0, none⟩) n cap] 119 (0, 0))) (hs : 0 ≤ stepV v0 ∧ stepV v0 ≤ 4194304) (hi : i ≤ 1000) (hc : 1 ≤ v0.cnt ∧ v0.cnt ≤ 1000) :
    Calls Try.prog 71 #[.pointer (some ⟨gw, 0, none⟩), .int .i64 (i : Int)] w fun e w' => e = .returned (.agg #[.int .i64 (placeP v0 i).1, .int .i64 (placeP v0 i).2]) ∧ Below w.heap.size w w' := by
  have c2 : w.cell? ⟨gw, 2, none⟩ = some (.int .i64 v0.cnt) := cell_of_row w _ 2 _ 119 (0, 0) hblk
  have c4 : w.cell? ⟨gw, 4, none⟩ = some (.int .i64 v0.whole) := cell_of_row w _ 4 _ 119 (0, 0) hblk
  have c7 : w.cell? ⟨gw, 7, none⟩ = some (.int .i64 (stepV v0)) := cell_of_row w _ 7 _ 119 (0, 0) hblk
  have hlt := blk_lt hblk
  have hne : gw ≠ w.heap.size := by omega
  obtain ⟨p, hp⟩ : ∃ p, p = placeP v0 i := ⟨_, rfl⟩
  rw [← hp]
  unfold placeP at hp
  by_cases h1 : v0.cnt = 1
  · rw [if_pos h1] at hp
    rw [h1] at c2
    have HV1 := Aside0.mk h1
    have HBK := Aside0.mk hblk
    clear hs hi hc hlt h1 c7 hne hblk c2 c4
    subst hp
    go_enter Try.func71, Try.ntmps71
    go_upto_region 1 with fail
    have HQB := Aside0.mk (below_alloc (Below.refl w.heap.size w) (.cells #[.int .i64 0, .int .i64 0] 82))
    have HGQ := Aside0.mk (heap_alloc_new w (.cells #[.int .i64 0, .int .i64 0] 82))
    obtain ⟨wq, hwq⟩ : ∃ wq, wq = w.alloc (.cells #[.int .i64 0, .int .i64 0] 82) := ⟨_, rfl⟩
    rw [← hwq] at HQB HGQ ⊢
    clear hwq
    have HGE := Aside0.mk (Nat.le_refl w.heap.size)
    have HBQ := Aside0.mk ((HQB.out.block _ (blk_lt HBK.out)).trans HBK.out)
    obtain ⟨gv, hgv⟩ : ∃ gv, gv = w.heap.size := ⟨_, rfl⟩
    have HGV := Aside0.mk hgv
    rw [← hgv] at HGQ ⊢
    clear hgv HGE
    have c2 : wq.cell? ⟨gw, 2, none⟩ = some (.int .i64 1) := by rw [← HV1.out]; exact cell_of_row wq _ 2 _ 119 (0, 0) HBQ.out
    have c4 : wq.cell? ⟨gw, 4, none⟩ = some (.int .i64 v0.whole) := cell_of_row wq _ 4 _ 119 (0, 0) HBQ.out
    have z0 : wq.cell? ⟨gv, 0, none⟩ = some (.int .i64 0) := cell_of_row wq _ 0 _ 82 (0, 0) HGQ.out
    have z1 : wq.cell? ⟨gv, 1, none⟩ = some (.int .i64 0) := cell_of_row wq _ 1 _ 82 (0, 0) HGQ.out
    have f0 := blk_frozen HGQ.out 0
    have f1 := blk_frozen HGQ.out 1
    have g1 := blk_set HGQ.out 0 (.int .i64 0)
    have g2 := blk_set g1 1 (.int .i64 v0.whole)
    have HBX := Aside0.mk (below_set (below_set HQB.out (g := gv) (j := 0) (v := .int .i64 0) (Nat.le_of_eq HGV.out.symm)) (g := gv) (j := 1) (v := .int .i64 v0.whole) (Nat.le_of_eq HGV.out.symm))
    have x0 : ((wq.setCell ⟨gv, 0, none⟩ (.int .i64 0)).setCell ⟨gv, 1, none⟩ (.int .i64 v0.whole)).cell? ⟨gv, 0, none⟩ = some (.int .i64 0) := cell_of_row _ _ 0 _ 82 (0, 0) g2
    have x1 : ((wq.setCell ⟨gv, 0, none⟩ (.int .i64 0)).setCell ⟨gv, 1, none⟩ (.int .i64 v0.whole)).cell? ⟨gv, 1, none⟩ = some (.int .i64 v0.whole) := cell_of_row _ _ 1 _ 82 (0, 0) g2
    clear g1 g2
    go_wp2
    refine bodyPost_ret (by simp [results, Try.results71, go_sem, x0, x1]; try rfl) rfl ?_
    exact ⟨rfl, HBX.out⟩
  · rw [if_neg h1] at hp
    have hcb : (v0.cnt == 1) = false := by rw [beq_eq_false_iff_ne]; exact h1
    obtain ⟨s, hsn⟩ : ∃ s : Int, s = stepV v0 := ⟨_, rfl⟩
    rw [← hsn] at hp c7 hs hblk
    have hm : 0 ≤ (i : Int) * s ∧ (i : Int) * s ≤ 1000 * 4194304 := ⟨Int.mul_nonneg (by omega) (by omega), Int.mul_le_mul (by omega) (by omega) (by omega) (by omega)⟩
    have hw1 : wrap64 ((i : Int) * s) = (i : Int) * s := IntWalk.wrap64_in _ (by omega)
    obtain ⟨f, hf⟩ : ∃ f, f = (i : Int) * s := ⟨_, rfl⟩
    rw [← hf] at hp hm hw1
    have hw2 : wrap64 (f + s) = f + s := IntWalk.wrap64_in _ (by omega)
    have HW1 := Aside0.mk hw1
    have HW2 := Aside0.mk hw2
    have HFF := Aside0.mk hf
    have HBK := Aside0.mk hblk
    obtain ⟨ti, hti⟩ : ∃ ti, ti = if v0.whole < f + s then v0.whole else f + s := ⟨_, rfl⟩
    rw [← hti] at hp
    have HTI := Aside0.mk hti
    subst hp
    clear hs hi hc hlt h1 c7 hne hblk c2 c4 hm hw1 hw2 hsn hf hti
    go_enter Try.func71, Try.ntmps71
    go_upto_region 1 with fail
    have HQB := Aside0.mk (below_alloc (Below.refl w.heap.size w) (.cells #[.int .i64 0, .int .i64 0] 82))
    have HGQ := Aside0.mk (heap_alloc_new w (.cells #[.int .i64 0, .int .i64 0] 82))
    obtain ⟨wq, hwq⟩ : ∃ wq, wq = w.alloc (.cells #[.int .i64 0, .int .i64 0] 82) := ⟨_, rfl⟩
    rw [← hwq] at HQB HGQ ⊢
    clear hwq
    have HBQ := Aside0.mk ((HQB.out.block _ (blk_lt HBK.out)).trans HBK.out)
    obtain ⟨gv, hgv⟩ : ∃ gv, gv = w.heap.size := ⟨_, rfl⟩
    have HGV := Aside0.mk hgv
    rw [← hgv] at HGQ ⊢
    clear hgv
    have c2 : wq.cell? ⟨gw, 2, none⟩ = some (.int .i64 v0.cnt) := cell_of_row wq _ 2 _ 119 (0, 0) HBQ.out
    have c7 : wq.cell? ⟨gw, 7, none⟩ = some (.int .i64 s) := cell_of_row wq _ 7 _ 119 (0, 0) HBQ.out
    go_upto_region 4 with fail
    clear c2 c7
    rw [← HFF.out]
    have hw1 := HW1.out
    have hw2 := HW2.out
    rw [hw1]
    clear hw1
    have c4 : wq.drew.cell? ⟨gw, 4, none⟩ = some (.int .i64 v0.whole) := cell_of_row wq.drew _ 4 _ 119 (0, 0) HBQ.out
    have c7 : wq.drew.cell? ⟨gw, 7, none⟩ = some (.int .i64 s) := cell_of_row wq.drew _ 7 _ 119 (0, 0) HBQ.out
    have z0 : wq.cell? ⟨gv, 0, none⟩ = some (.int .i64 0) := cell_of_row wq _ 0 _ 82 (0, 0) HGQ.out
    have z1 : wq.cell? ⟨gv, 1, none⟩ = some (.int .i64 0) := cell_of_row wq _ 1 _ 82 (0, 0) HGQ.out
    have f0 : wq.frozen? ⟨gv, 0, none⟩ = false := blk_frozen HGQ.out 0
    have f1 : wq.frozen? ⟨gv, 1, none⟩ = false := blk_frozen HGQ.out 1
    have g1 := blk_set HGQ.out 0 (.int .i64 f)
    have g2 := blk_set g1 1 (.int .i64 (if v0.whole < f + s then v0.whole else f + s))
    have HBX := Aside0.mk (below_drew (below_set (below_set HQB.out (g := gv) (j := 0) (v := .int .i64 f) (Nat.le_of_eq HGV.out.symm)) (g := gv) (j := 1) (v := .int .i64 (if v0.whole < f + s then v0.whole else f + s)) (Nat.le_of_eq HGV.out.symm)))
    have x0 : ((wq.setCell ⟨gv, 0, none⟩ (.int .i64 f)).setCell ⟨gv, 1, none⟩ (.int .i64 (if v0.whole < f + s then v0.whole else f + s))).drew.cell? ⟨gv, 0, none⟩ = some (.int .i64 f) := cell_of_row _ _ 0 _ 82 (0, 0) g2
    have x1 : ((wq.setCell ⟨gv, 0, none⟩ (.int .i64 f)).setCell ⟨gv, 1, none⟩ (.int .i64 (if v0.whole < f + s then v0.whole else f + s))).drew.cell? ⟨gv, 1, none⟩ = some (.int .i64 (if v0.whole < f + s then v0.whole else f + s)) := cell_of_row _ _ 1 _ 82 (0, 0) g2
    clear g1 g2
    refine start_ (n := 15) (S := fun w' => w'.cell? ⟨gw, 4, none⟩ = some (.int .i64 v0.whole) ∧ w'.cell? ⟨gw, 7, none⟩ = some (.int .i64 s)) (ds := [14]) #[false, false, false, false, false, false, false, false, false, false, false, false, false, false, false] (by kernel_rfl) rfl rfl ⟨c4, c7⟩ (fun hHeld => ?_)
    refine pure_ (i := 0) (N := some 24) (v := ?_) (a' := ?_) #[true, false, false, false, false, false, false, false, false, false, false, false, false, false, false] rfl rfl (by kernel_rfl) (fun _ _ _ h => h) (Or.inl ⟨by rfl, ?_⟩) ?_ ?_
    rotate_left
    · intro w'
      go_simp
      with_reducible rfl
    rotate_left
    · simp only [Act.put, List.setIfInBounds_toArray, List.set_cons_zero, List.set_cons_succ, i64_w, i32_w]
      rfl
    refine pure_ (i := 1) (N := some 25) (v := ?_) (a' := ?_) #[true, true, false, false, false, false, false, false, false, false, false, false, false, false, false] rfl rfl (by kernel_rfl) (fun _ _ _ h => h) (Or.inl ⟨by rfl, ?_⟩) ?_ ?_
    rotate_left
    · intro w'
      go_simp
      with_reducible rfl
    rotate_left
    · simp only [Act.put, List.setIfInBounds_toArray, List.set_cons_zero, List.set_cons_succ, i64_w, i32_w]
      rfl
    refine pure_ (i := 2) (N := some 26) (v := ?_) (a' := ?_) #[true, true, true, false, false, false, false, false, false, false, false, false, false, false, false] rfl rfl (by kernel_rfl) (fun _ _ _ h => h) (Or.inl ⟨by rfl, ?_⟩) ?_ ?_
    rotate_left
    · intro w'
      go_simp
      with_reducible rfl
    rotate_left
    · simp only [Act.put, List.setIfInBounds_toArray, List.set_cons_zero, List.set_cons_succ, i64_w, i32_w]
      rfl
    refine pure_ (i := 3) (N := some 27) (v := ?_) (a' := ?_) #[true, true, true, true, false, false, false, false, false, false, false, false, false, false, false] rfl rfl (by kernel_rfl) (fun _ _ _ h => h) (Or.inl ⟨by rfl, ?_⟩) ?_ ?_
    rotate_left
    · intro w'
      go_simp
      with_reducible rfl
    rotate_left
    · simp only [Act.put, List.setIfInBounds_toArray, List.set_cons_zero, List.set_cons_succ, i64_w, i32_w]
      rfl
    refine pure_ (i := 4) (N := some 28) (v := ?_) (a' := ?_) #[true, true, true, true, true, false, false, false, false, false, false, false, false, false, false] rfl rfl (by kernel_rfl) (fun _ _ _ h => h) (Or.inl ⟨by rfl, ?_⟩) ?_ ?_
    rotate_left
    · intro w'
      go_simp
      with_reducible rfl
    rotate_left
    · simp only [Act.put, List.setIfInBounds_toArray, List.set_cons_zero, List.set_cons_succ, i64_w, i32_w]
      rfl
    refine pure_ (i := 7) (N := some 31) (v := ?_) (a' := ?_) #[true, true, true, true, true, false, false, true, false, false, false, false, false, false, false] rfl rfl (by kernel_rfl) (fun _ _ _ h => h) (Or.inl ⟨by rfl, ?_⟩) ?_ ?_
    rotate_left
    · intro w'
      go_simp
      with_reducible rfl
    rotate_left
    · simp only [Act.put, List.setIfInBounds_toArray, List.set_cons_zero, List.set_cons_succ, i64_w, i32_w]
      rfl
    refine pure_ (i := 8) (N := some 32) (v := ?_) (a' := ?_) #[true, true, true, true, true, false, false, true, true, false, false, false, false, false, false] rfl rfl (by kernel_rfl) (fun _ _ _ h => h) (Or.inl ⟨by rfl, ?_⟩) ?_ ?_
    rotate_left
    · intro w'
      go_simp
      with_reducible rfl
    rotate_left
    · simp only [Act.put, List.setIfInBounds_toArray, List.set_cons_zero, List.set_cons_succ, i64_w, i32_w]
      rfl
    refine pure_ (i := 9) (N := some 33) (v := ?_) (a' := ?_) #[true, true, true, true, true, false, false, true, true, true, false, false, false, false, false] rfl rfl (by kernel_rfl) (fun _ _ _ h => h) (Or.inl ⟨by rfl, ?_⟩) ?_ ?_
    rotate_left
    · intro w'
      go_simp
      with_reducible rfl
    rotate_left
    · simp only [Act.put, List.setIfInBounds_toArray, List.set_cons_zero, List.set_cons_succ, i64_w, i32_w]
      rfl
    refine pure_ (i := 10) (N := some 34) (v := ?_) (a' := ?_) #[true, true, true, true, true, false, false, true, true, true, true, false, false, false, false] rfl rfl (by kernel_rfl) (fun _ _ _ h => h) (Or.inl ⟨by rfl, ?_⟩) ?_ ?_
    rotate_left
    · intro w'
      go_simp
      with_reducible rfl
    rotate_left
    · simp only [Act.put, List.setIfInBounds_toArray, List.set_cons_zero, List.set_cons_succ, i64_w, i32_w]
      rfl
    refine take_ (i := 5) (N := some 29) (v := ?_) (a' := ?_) #[true, true, true, true, true, true, false, true, true, true, true, false, false, false, false] rfl rfl (by kernel_rfl) (fun _ _ _ h => h) (Or.inl ⟨by rfl, ?_⟩) hHeld ?_ ?_
    rotate_left
    · rintro w' ⟨s0, s1⟩
      go_simp
      with_reducible rfl
    rotate_left
    · simp only [Act.put, List.setIfInBounds_toArray, List.set_cons_zero, List.set_cons_succ, i64_w, i32_w]
      rfl
    refine pure_ (i := 6) (N := some 30) (v := ?_) (a' := ?_) #[true, true, true, true, true, true, true, true, true, true, true, false, false, false, false] rfl rfl (by kernel_rfl) (fun _ _ _ h => h) (Or.inl ⟨by rfl, ?_⟩) ?_ ?_
    rotate_left
    · intro w'
      go_simp
      with_reducible rfl
    rotate_left
    · simp only [Act.put, List.setIfInBounds_toArray, List.set_cons_zero, List.set_cons_succ, i64_w, i32_w]
      rfl
    refine take_ (i := 11) (N := some 35) (v := ?_) (a' := ?_) #[true, true, true, true, true, true, true, true, true, true, true, true, false, false, false] rfl rfl (by kernel_rfl) (fun _ _ _ h => h) (Or.inl ⟨by rfl, ?_⟩) hHeld ?_ ?_
    rotate_left
    · rintro w' ⟨s0, s1⟩
      go_simp
      with_reducible rfl
    rotate_left
    · simp only [Act.put, List.setIfInBounds_toArray, List.set_cons_zero, List.set_cons_succ, i64_w, i32_w]
      rfl
    refine pure_ (i := 12) (N := some 36) (v := ?_) (a' := ?_) #[true, true, true, true, true, true, true, true, true, true, true, true, true, false, false] rfl rfl (by kernel_rfl) (fun _ _ _ h => h) (Or.inl ⟨by rfl, ?_⟩) ?_ ?_
    rotate_left
    · intro w'
      go_simp
      with_reducible rfl
    rotate_left
    · simp only [Act.put, List.setIfInBounds_toArray, List.set_cons_zero, List.set_cons_succ, i64_w, i32_w]
      rfl
    refine pure_ (i := 13) (N := some 37) (v := ?_) (a' := ?_) #[true, true, true, true, true, true, true, true, true, true, true, true, true, true, false] rfl rfl (by kernel_rfl) (fun _ _ _ h => h) (Or.inl ⟨by rfl, ?_⟩) ?_ ?_
    rotate_left
    · intro w'
      go_simp
      with_reducible rfl
    rotate_left
    · simp only [Act.put, List.setIfInBounds_toArray, List.set_cons_zero, List.set_cons_succ, i64_w, i32_w]
      rfl
    refine last_ (i := 14) (N := none) #[true, true, true, true, true, true, true, true, true, true, true, true, true, true, true] rfl rfl (by kernel_rfl) (by decide) (fun K hK => ?_)
    refine skip_ (w1 := ?_) (by rfl) rfl ?_ ?_
    rotate_left
    · go_simp
      rfl
    refine hK.out _ _ ?_
    clear hK K
    refine done_ (by kernel_rfl) ?_
    rw [← HTI.out] at x0 x1 HBX
    rw [← HTI.out]
    generalize ((wq.setCell ⟨gv, 0, none⟩ (.int .i64 f)).setCell ⟨gv, 1, none⟩ (.int .i64 ti)).drew = wx at x0 x1 HBX ⊢
    go_wp2
    refine bodyPost_ret (by simp [results, Try.results71, go_sem, x0, x1]; try rfl) rfl ?_
    exact ⟨rfl, HBX.out⟩
end Go.Proofs.Ytnkcbkfccbfjpaa.Z
/- Volumes: gather (f69) at any bytes; what Join makes. -/
namespace Go.Proofs.Ytnkcbkfccbfjpaa.Z
open Go.RowKit Go.Proofs.Ytnkcbkfccbfjpaa.XxhW Go.Proofs.Ytnkcbkfccbfjpaa.QVolumesCuts Go.Proofs.YtnkcbkfccbfjpaaW.PrintWords Go.Proofs.YtnkcbkfccbfjpaaW.PrintLast Go.Proofs.YtnkcbkfccbfjpaaW.PrintMore
set_option linter.unusedVariables false
set_option linter.unusedSimpArgs false
theorem gatherV_calls (A : Option Addr) (c : Nat) (L : List (List Int)) (w : World) (hr : Kd.C (Kd.slice 5 (Kd.int .u8)) w A L.length L) (H0 : (gatherR getE volOf L).1 = 0 ∨ L = []) (hc : L.length ≤ c) (hL : ∀ b ∈ L, b.length ≤ 100000000 ∧ ∀ q ∈ b, 0 ≤ q ∧ q < 256) (hn : L.length ≤ 1000000000) :
    Calls Try.prog 69 #[.slice A L.length c] w fun e w' => Below w.heap.size w w' ∧ ((gatherR getE volOf L).1 ≠ 0 → e = .returned (.tuple #[.pointer none, .int .i64 (gatherR getE volOf L).1])) ∧
      ((gatherR getE volOf L).1 = 0 → ∃ gw, e = .returned (.tuple #[.pointer (some ⟨gw, 0, none⟩), .int .i64 0]) ∧ Whole w w' gw (gatherR getE volOf L).2.1 (gatherR getE volOf L).2.2) := by
  refine gather_calls getE volOf (fun A c b w h1 h2 h3 h4 h5 => ?_) (fun b hb => ?_) A c L w hr H0 hc hL hn
  · refine (get_ok A c b w h1 h2 h3 ((isByte_iff b).2 h4) h5).mono fun e w' ⟨g1, g3⟩ => ⟨g1, ?_⟩
    obtain ⟨A', he, hv⟩ := g3
    refine ⟨⟨volOf b, A', c - 64⟩, rfl, he, hv, ?_, ?_, fun q hq => h4 q (List.mem_of_mem_drop hq)⟩
    · show (b.drop 64).length ≤ c - 64
      rw [List.length_drop]; omega
    · show (b.drop 64).length ≤ 100000000
      rw [List.length_drop]; omega
  · have h := getE_ok hb
    exact ⟨h.step, h.cnt.1, h.cnt.2, h.num.1, h.num.2⟩
def goneP (P : List (Option (List Int))) : Nat → List Int
  | 0 => []
  | i + 1 => goneP P i ++ (if slot P i = none then [(i : Int)] else [])
theorem goneI_P {ps : List (Option Addr)} {P : List (Option (List Int))} : ∀ c, (∀ k, k < c → (ps.getD k none = none ↔ slot P k = none)) → goneI ps c = goneP P c
  | 0, _ => rfl
  | i + 1, h => by
    rw [goneI_succ, goneP, goneI_P i (fun k hk => h k (by omega))]
    by_cases e : slot P i = none
    · rw [if_pos e, if_pos ((h i (by omega)).2 e)]
    · rw [if_neg e, if_neg (fun x => e ((h i (by omega)).1 x))]
theorem goneP_mem (P : List (Option (List Int))) : ∀ (c : Nat) (g : Int), g ∈ goneP P c → ∃ k : Nat, g = (k : Int) ∧ k < c ∧ slot P k = none
  | 0, g, h => absurd h (by simp [goneP])
  | i + 1, g, h => by
    rw [goneP] at h
    rcases List.mem_append.1 h with h | h
    · obtain ⟨k, h1, h2, h3⟩ := goneP_mem P i g h
      exact ⟨k, h1, by omega, h3⟩
    · by_cases e : slot P i = none
      · rw [if_pos e, List.mem_singleton] at h
        exact ⟨i, h, by omega, e⟩
      · rw [if_neg e] at h; exact absurd h (by simp)
theorem mem_goneP (P : List (Option (List Int))) : ∀ (c k : Nat), k < c → slot P k = none → (k : Int) ∈ goneP P c
  | 0, k, h, _ => absurd h (Nat.not_lt_zero _)
  | i + 1, k, h, e => by
    rw [goneP, List.mem_append]
    by_cases hk : k = i
    · subst hk; rw [if_pos e]; exact .inr (by simp)
    · exact .inl (mem_goneP P i k (by omega) e)
def cat (P : List (Option (List Int))) : Nat → List Int
  | 0 => []
  | i + 1 => cat P i ++ (slot P i).getD []
def xorAll (P : List (Option (List Int))) (b : List Int) : Nat → List Int
  | 0 => b
  | i + 1 => match slot P i with | none => xorAll P b i | some o => xorR (xorAll P b i) o
theorem xorAll_len (P : List (Option (List Int))) (b : List Int) : ∀ i, (xorAll P b i).length = b.length
  | 0 => rfl
  | i + 1 => by
    rw [xorAll]
    split
    · exact xorAll_len P b i
    · rw [xorR_len]; exact xorAll_len P b i
def mended (v0 : Vol) (P : List (Option (List Int))) (b : List Int) (g : Nat) : List (Option (List Int)) :=
  P.set g (some ((xorAll P b v0.cnt.toNat).take ((placeP v0 g).2 - (placeP v0 g).1).toNat))
def joinW (v0 : Vol) (P : List (Option (List Int))) : List Int × Int :=
  match goneP P v0.cnt.toNat with
  | [] => (cat P v0.cnt.toNat, 0)
  | [g] => match slot P v0.cnt.toNat with
    | none => ([], 272)
    | some b => (cat (mended v0 P b g.toNat) v0.cnt.toNat, 0)
  | _ => ([], 272)
def joinR (L : List (List Int)) : List Int × Int :=
  if (gatherR getE volOf L).1 = 0 then joinW (gatherR getE volOf L).2.1 (gatherR getE volOf L).2.2 else ([], (gatherR getE volOf L).1)
/-- What must hold for Join not to fall. -/
structure Fit (v0 : Vol) (P : List (Option (List Int))) : Prop where
  cnt : 1 ≤ v0.cnt ∧ v0.cnt ≤ 1000
  step : 0 ≤ stepV v0 ∧ stepV v0 ≤ 4194304
  fits : ∀ b, slot P v0.cnt.toNat = some b → ∀ k, k < v0.cnt.toNat → ∀ o, slot P k = some o → o.length ≤ b.length
  room : ∀ b, slot P v0.cnt.toNat = some b → ∀ g, g < v0.cnt.toNat → 0 ≤ (placeP v0 g).2 - (placeP v0 g).1 ∧ (placeP v0 g).2 - (placeP v0 g).1 ≤ (b.length : Int)
end Go.Proofs.Ytnkcbkfccbfjpaa.Z
/- Join of volumes (f40), where gather finds a set. -/
namespace Go.Proofs.Ytnkcbkfccbfjpaa.Z
open Go.RowKit Go.Proofs.Ytnkcbkfccbfjpaa.XxhW Go.Proofs.Ytnkcbkfccbfjpaa.QVolumesCuts Go.Proofs.YtnkcbkfccbfjpaaW.PrintWords Go.Proofs.YtnkcbkfccbfjpaaW.PrintLast Go.Proofs.YtnkcbkfccbfjpaaW.PrintMore
set_option linter.unusedVariables false
set_option linter.unusedSimpArgs false
/-- A set's volumes, with the pointers. -/
structure WAt (w W : World) (gw gl cap c : Nat) (v0 : Vol) (ps : List (Option Addr)) (P : List (Option (List Int))) : Prop where
  bel : Below w.heap.size w W
  blk : W.heap[gw]? = some (.cells #[.int .u64 v0.set, .int .i64 v0.num, .int .i64 v0.cnt, .bool v0.sp, .int .i64 v0.whole, .int .i64 v0.off, .int .i64 v0.size, .int .i64 (stepV v0), .slice (some ⟨gl, 0, none⟩) (c + 1) cap] 119 (0, 0))
  row : Kd.R kP 116 W w.heap.size (fun _ => True) (.slice (some ⟨gl, 0, none⟩) (c + 1) cap) ps
  len : P.length = c + 1
  mat : ∀ k, k < c + 1 → (ps.getD k none = none ∧ slot P k = none) ∨ ∃ ad A o cc, ps.getD k none = some ad ∧ slot P k = some o ∧ W.cell? ⟨ad.block, ad.off + 7, none⟩ = some (.slice A o.length cc) ∧ ReadsInt w .u8 A o.length o ∧ o.length ≤ cc ∧ o.length ≤ 100000000 ∧ ad.block ≠ gl
theorem WAt.below {w W W' : World} {gw gl cap c : Nat} {v0 : Vol} {ps : List (Option Addr)} {P : List (Option (List Int))} (h : WAt w W gw gl cap c v0 ps P) (hb : Below W.heap.size W W') : WAt w W' gw gl cap c v0 ps P := by
  refine ⟨below_step h.bel hb, (hb.block _ (blk_lt h.blk)).trans h.blk, Kd.R_below h.row hb, h.len, fun k hk => ?_⟩
  rcases h.mat k hk with h1 | ⟨ad, A, o, cc, h1, h2, h3, h4⟩
  · exact .inl h1
  · exact .inr ⟨ad, A, o, cc, h1, h2, pw_cell_below hb h3, h4⟩
theorem Whole.wat {w W : World} {gw c : Nat} {v0 : Vol} {P : List (Option (List Int))} (h : Whole w W gw v0 P) (hb : Below w.heap.size w W) (hc : v0.cnt.toNat = c) : ∃ gl cap ps, WAt w W gw gl cap c v0 ps P := by
  obtain ⟨gl, cap, ps, h1, h2, h3, h4⟩ := h.row
  rw [hc] at h1 h2 h3 h4
  refine ⟨gl, cap, ps, hb, h1, h2, h3, fun k hk => ?_⟩
  rcases h4 k hk with h5 | ⟨ad, x, g1, g2, g3, g4, g5, g6, g7, g8, g9, g10⟩
  · exact .inl h5
  · exact .inr ⟨ad, x.A, x.v.b, x.c, g1, g2, g3.c7, g7, g8, g9, g5⟩
/-- All parts are there. -/
structure Fin (w W : World) (gw gl cap c : Nat) (v0 : Vol) (P : List (Option (List Int))) : Prop where
  bel : Below w.heap.size w W
  blk : W.heap[gw]? = some (.cells #[.int .u64 v0.set, .int .i64 v0.num, .int .i64 v0.cnt, .bool v0.sp, .int .i64 v0.whole, .int .i64 v0.off, .int .i64 v0.size, .int .i64 (stepV v0), .slice (some ⟨gl, 0, none⟩) (c + 1) cap] 119 (0, 0))
  row : ∃ ps, Kd.R kP 116 W w.heap.size (fun _ => True) (.slice (some ⟨gl, 0, none⟩) (c + 1) cap) ps ∧ ∀ k, k < c → ∃ ad A o cc, ps.getD k none = some ad ∧ slot P k = some o ∧ W.cell? ⟨ad.block, ad.off + 7, none⟩ = some (.slice A o.length cc) ∧ ReadsInt W .u8 A o.length o ∧ o.length ≤ cc ∧ o.length ≤ 100000000
theorem Fin.below {w W W' : World} {gw gl cap c : Nat} {v0 : Vol} {P : List (Option (List Int))} (h : Fin w W gw gl cap c v0 P) (hb : Below W.heap.size W W') : Fin w W' gw gl cap c v0 P := by
  obtain ⟨ps, h1, h2⟩ := h.row
  refine ⟨below_step h.bel hb, (hb.block _ (blk_lt h.blk)).trans h.blk, ps, Kd.R_below h1 hb, fun k hk => ?_⟩
  obtain ⟨ad, A, o, cc, g1, g2, g3, g4, g5⟩ := h2 k hk
  exact ⟨ad, A, o, cc, g1, g2, pw_cell_below hb g3, g4.below hb, g5⟩
theorem WAt.fin {w W : World} {gw gl cap c : Nat} {v0 : Vol} {ps : List (Option Addr)} {P : List (Option (List Int))} (h : WAt w W gw gl cap c v0 ps P) (ha : ∀ k, k < c → slot P k ≠ none) : Fin w W gw gl cap c v0 P := by
  refine ⟨h.bel, h.blk, ps, h.row, fun k hk => ?_⟩
  rcases h.mat k (by omega) with h1 | ⟨ad, A, o, cc, h1, h2, h3, h4, h5, h6, _⟩
  · exact absurd h1.2 (ha k hk)
  · exact ⟨ad, A, o, cc, h1, h2, h3, h4.below h.bel, h5, h6⟩
theorem WAt.mend {w W : World} {gw gl cap c : Nat} {v0 : Vol} {ps : List (Option Addr)} {P : List (Option (List Int))} (h : WAt w W gw gl cap c v0 ps P) {g : Nat} (hg : g < c) (ha : ∀ k, k < c → k ≠ g → slot P k ≠ none) {B d cc : Nat} {ok : Nat → Prop} {A : Option Addr} {l8 : List Int}
    (h8 : Kd.R (Kd.int .u8) 5 W B ok (.slice A l8.length cc) l8) (hd : d ≤ l8.length) (hl8 : l8.length ≤ 100000000) :
    Fin w ((W.alloc (.cells #[.int .u64 0, .int .i64 0, .int .i64 0, .bool false, .int .i64 0, .int .i64 0, .int .i64 0, .slice A d cc] 88)).setCell ⟨gl, g, none⟩ (.pointer (some ⟨W.heap.size, 0, none⟩))) gw gl cap c v0 (P.set g (some (l8.take d))) := by
  obtain ⟨W1, hW1⟩ : ∃ W1, W1 = W.alloc (.cells #[.int .u64 0, .int .i64 0, .int .i64 0, .bool false, .int .i64 0, .int .i64 0, .int .i64 0, .slice A d cc] 88) := ⟨_, rfl⟩
  have hb1 : Below W.heap.size W W1 := by rw [hW1]; exact below_alloc (Below.refl _ _) _
  have hnew : W1.heap[W.heap.size]? = some (.cells #[.int .u64 0, .int .i64 0, .int .i64 0, .bool false, .int .i64 0, .int .i64 0, .int .i64 0, .slice A d cc] 88 (0, 0)) := by rw [hW1]; exact heap_alloc_new W _
  rw [← hW1]
  have h1 := h.below hb1
  obtain ⟨cells, hcl⟩ := Kd.R_typed h1.row gl (by simp [Value.ownBlock])
  have hge : w.heap.size ≤ gl := Kd.R_base h1.row gl (by simp [Value.ownBlock])
  have hlt : gl < W.heap.size := Kd.R_lt h.row gl (by simp [Value.ownBlock])
  have hpl : ps.length = c + 1 := (Kd.R_reads' h.row).1.symm
  have hgw : gw ≠ gl := by
    rintro rfl
    have := h1.blk.symm.trans hcl
    injection this with this
    injection this with _ this
    exact absurd this (by decide)
  have hput : Kd.R kP 116 (W1.setCell ⟨gl, g, none⟩ (.pointer (some ⟨W.heap.size, 0, none⟩))) w.heap.size (fun _ => True) (.slice (some ⟨gl, 0, none⟩) (c + 1) cap) (ps.set g (some ⟨W.heap.size, 0, none⟩)) := Kd.R_putn (enc := Value.pointer) (h1 := fun _ => rfl) h1.row (g : Int) (some ⟨W.heap.size, 0, none⟩)
  have hbel : Below w.heap.size w (W1.setCell ⟨gl, g, none⟩ (.pointer (some ⟨W.heap.size, 0, none⟩))) := below_set h1.bel hge
  have hkept : Kept W1 (W1.setCell ⟨gl, g, none⟩ (.pointer (some ⟨W.heap.size, 0, none⟩))) (fun k => k = gl) := Kept.setCell (p := ⟨gl, g, none⟩) (Kept.refl W1 (fun k => k = gl)) (.inl rfl) _
  have h82 : Kd.R (Kd.int .u8) 5 (W1.setCell ⟨gl, g, none⟩ (.pointer (some ⟨W.heap.size, 0, none⟩))) B ok (.slice A l8.length cc) l8 := Kd.R_set (Kd.R_below h8 hb1) hcl (by decide) _ _
  refine ⟨hbel, (Below.heap_setCell W1 ⟨gl, g, none⟩ _ gw hgw).trans h1.blk, _, hput, fun k hk => ?_⟩
  rw [slot_set _ _ _ _ (by rw [h.len]; omega), List.getD_eq_getElem?_getD, List.getElem?_set]
  by_cases e : g = k
  · subst e
    rw [if_pos rfl, if_pos (by omega), if_pos rfl]
    have htl : (l8.take d).length = d := by rw [List.length_take]; omega
    have hcc := (Kd.R_reads' h8).2.1
    refine ⟨⟨W.heap.size, 0, none⟩, A, l8.take d, cc, rfl, rfl, ?_, ?_, by omega, by omega⟩
    · rw [htl]
      exact cell_kept (cell_of_row W1 _ 7 _ 88 (0, 0) hnew) hkept (show ¬ (W.heap.size = gl) by omega)
    · exact Kd.reads_of_C (enc := Value.int .u8) (d := (0 : Int)) (h1 := fun _ => rfl) (by have := Kd.R_take h82 hd; have h9 := (Kd.R_reads' this).2.2; exact h9)
  · rw [if_neg e, if_neg (fun x => e x.symm), ← List.getD_eq_getElem?_getD]
    rcases h1.mat k (by omega) with h2 | ⟨ad, A2, o, c2, h2, h3, h4, h5, h6, h7, h10⟩
    · exact absurd h2.2 (ha k hk (fun x => e x.symm))
    · exact ⟨ad, A2, o, c2, h2, h3, cell_kept h4 hkept h10, h5.below hbel, h6, h7⟩
end Go.Proofs.Ytnkcbkfccbfjpaa.Z
/- Join of volumes (f40), where gather finds a set: the walk. -/
namespace Go.Proofs.Ytnkcbkfccbfjpaa.Z
open Go.RowKit Go.Proofs.Ytnkcbkfccbfjpaa.XxhW Go.Proofs.Ytnkcbkfccbfjpaa.QVolumesCuts Go.Proofs.YtnkcbkfccbfjpaaW.PrintWords Go.Proofs.YtnkcbkfccbfjpaaW.PrintLast Go.Proofs.YtnkcbkfccbfjpaaW.PrintMore
set_option linter.unusedVariables false
set_option linter.unusedSimpArgs false
theorem goneP_len2 (P : List (Option (List Int))) (c : Nat) (h : goneP P c = []) : ∀ k, k < c → slot P k ≠ none := fun k hk e => by
  have := mem_goneP P c k hk e
  rw [h] at this
  exact absurd this (by simp)
theorem goneP_one (P : List (Option (List Int))) (c : Nat) (g : Int) (h : goneP P c = [g]) : ∃ m : Nat, g = (m : Int) ∧ m < c ∧ ∀ k, k < c → k ≠ m → slot P k ≠ none := by
  obtain ⟨m, h1, h2, h3⟩ := goneP_mem P c g (by rw [h]; simp)
  refine ⟨m, h1, h2, fun k hk hne e => ?_⟩
  have := mem_goneP P c k hk e
  rw [h, List.mem_singleton] at this
  omega
theorem cat_len (P : List (Option (List Int))) : ∀ i, (∀ k, k < i → ∀ o, slot P k = some o → o.length ≤ 100000000) → (cat P i).length ≤ i * 100000000
  | 0, _ => Nat.le_refl _
  | i + 1, h => by
    have := cat_len P i (fun k hk => h k (by omega))
    have h2 : ((slot P i).getD []).length ≤ 100000000 := by
      cases e : slot P i with
      | none => simp
      | some o => exact h i (by omega) o e
    rw [cat, List.length_append]
    omega
set_option maxHeartbeats 8000000 in
set_option maxRecDepth 100000 in
theorem join_ok (A : Option Addr) (cl nl : Nat) (w : World) (v0 : Vol) (P : List (Option (List Int))) (hf : Fit v0 P)
    (hg : Calls Try.prog 69 #[.slice A nl cl] w fun e w' => Below w.heap.size w w' ∧ ∃ gw, e = .returned (.tuple #[.pointer (some ⟨gw, 0, none⟩), .int .i64 0]) ∧ Whole w w' gw v0 P) :
    Calls Try.prog 40 #[.slice A nl cl] w fun e w' => ∃ v, e = .returned (.tuple #[v, .int .i64 (joinW v0 P).2]) ∧ Kd.R (Kd.int .u8) 5 w' w.heap.size (fun _ => True) v (joinW v0 P).1 ∧ Below w.heap.size w w' := by
  have HG := Aside0.mk hg
  have HF := Aside0.mk hf
  obtain ⟨c, hcc⟩ : ∃ c : Nat, v0.cnt = (c : Int) := ⟨v0.cnt.toNat, by have := hf.cnt; omega⟩
  have hct : v0.cnt.toNat = c := by omega
  have hc1 : 1 ≤ c ∧ c ≤ 1000 := by have := hf.cnt; omega
  have HCN := Aside0.mk hcc
  have HCT := Aside0.mk hct
  have HC1 := Aside0.mk hc1
  clear hg hf hcc hct
  refine hide_post (fun Q HQ => ?_)
  go_enter Try.func40, Try.ntmps40
  go_upto_region 4 with (go_at_call 69; refine HG.out.mono ?_; rintro e w1 ⟨hb, gw, rfl, hw⟩; have HWH := Aside0.mk hw; have HBW := Aside0.mk hb; clear hb hw)
  obtain ⟨gl, cap, ps, hwat⟩ := HWH.out.wat HBW.out HCT.out
  have HW1 := Aside0.mk hwat
  have hgs : goneI ps c = goneP P c := goneI_P c (fun k hk => by
    rcases hwat.mat k (by omega) with h | ⟨ad, A, o, cc, h1, h2, _⟩
    · exact ⟨fun _ => h.2, fun _ => h.1⟩
    · exact ⟨fun e => absurd (h1.symm.trans e) (by simp), fun e => absurd (h2.symm.trans e) (by simp)⟩)
  have HGN := Aside0.mk (gone_calls v0 gw gl (c + 1) cap c ps w.heap.size (fun _ => True) w1 hwat.blk hwat.row HCN.out (by omega) hc1.2)
  rw [hgs] at HGN
  clear hwat hgs HWH HBW
  obtain ⟨gs, hgs⟩ : ∃ gs, gs = goneP P c := ⟨_, rfl⟩
  rw [← hgs] at HGN
  have HGS := Aside0.mk hgs
  clear hgs
  go_upto_region 5 with (go_at_call 70; refine HGN.out.mono ?_; rintro e w2 ⟨v6, rfl, ho, hb⟩; have HO6 := Aside0.mk ho; have HB2 := Aside0.mk hb; clear ho hb)
  clear HGN
  have HW2 := Aside0.mk (HW1.out.below HB2.out)
  obtain ⟨A6, c6, rfl⟩ := Kd.R_slice HO6.out
  have c8 : w2.drew.cell? ⟨gw, 8, none⟩ = some (.slice (some ⟨gl, 0, none⟩) (c + 1) cap) := cell_of_row w2.drew _ 8 _ 119 (0, 0) HW2.out.blk
  have c2 : w2.drew.cell? ⟨gw, 2, none⟩ = some (.int .i64 (c : Int)) := by rw [← HCN.out]; exact cell_of_row w2.drew _ 2 _ 119 (0, 0) HW2.out.blk
  obtain ⟨po, hpo⟩ : ∃ po, po = ps.getD c none := ⟨_, rfl⟩
  have cm : w2.drew.cell? ⟨gl, c, none⟩ = some (.pointer po) := by
    have h := (Kd.R_celln (enc := Value.pointer) (h1 := fun _ => rfl) (none : Option Addr) (Kd.R_drew HW2.out.row) (c : Int) (by omega) (by omega)).1
    rw [Int.toNat_natCast] at h
    rw [hpo]
    exact h
  have HPO := Aside0.mk hpo
  have HW3 := Aside0.mk (HW2.out.below (below_drew (Below.refl w2.heap.size w2)))
  have HO3 := Aside0.mk (Kd.R_drew HO6.out)
  have HLE := Aside0.mk (show w.heap.size ≤ w1.heap.size from HW1.out.bel.size)
  have hcd : (c : Int) < ((c + 1 : Nat) : Int) := by omega
  clear hpo
  have hcd2 : (c : Int) < (c : Int) + 1 := by omega
  refine start_ (n := 12) (S := fun w' => w'.cell? ⟨gw, 8, none⟩ = some (.slice (some ⟨gl, 0, none⟩) (c + 1) cap) ∧ w'.cell? ⟨gw, 2, none⟩ = some (.int .i64 (c : Int)) ∧ w'.cell? ⟨gl, c, none⟩ = some (.pointer po)) (ds := []) #[false, false, false, false, false, false, false, false, false, false, false, false] (by kernel_rfl) rfl rfl ⟨c8, c2, cm⟩ (fun hHeld => ?_)
  generalize w2.drew = w3 at c8 c2 cm HW3 HO3 hHeld ⊢
  refine pure_ (i := 0) (N := some 25) (v := ?_) (a' := ?_) #[true, false, false, false, false, false, false, false, false, false, false, false] rfl rfl (by kernel_rfl) (fun _ _ _ h => h) (Or.inl ⟨by rfl, ?_⟩) ?_ ?_
  rotate_left
  · intro w'
    go_simp
    with_reducible rfl
  rotate_left
  · simp only [Act.put, List.setIfInBounds_toArray, List.set_cons_zero, List.set_cons_succ, i64_w, i32_w]
    rfl
  refine pure_ (i := 1) (N := some 26) (v := ?_) (a' := ?_) #[true, true, false, false, false, false, false, false, false, false, false, false] rfl rfl (by kernel_rfl) (fun _ _ _ h => h) (Or.inl ⟨by rfl, ?_⟩) ?_ ?_
  rotate_left
  · intro w'
    go_simp
    with_reducible rfl
  rotate_left
  · simp only [Act.put, List.setIfInBounds_toArray, List.set_cons_zero, List.set_cons_succ, i64_w, i32_w]
    rfl
  refine pure_ (i := 2) (N := some 27) (v := ?_) (a' := ?_) #[true, true, true, false, false, false, false, false, false, false, false, false] rfl rfl (by kernel_rfl) (fun _ _ _ h => h) (Or.inl ⟨by rfl, ?_⟩) ?_ ?_
  rotate_left
  · intro w'
    go_simp
    with_reducible rfl
  rotate_left
  · simp only [Act.put, List.setIfInBounds_toArray, List.set_cons_zero, List.set_cons_succ, i64_w, i32_w]
    rfl
  refine pure_ (i := 4) (N := some 29) (v := ?_) (a' := ?_) #[true, true, true, false, true, false, false, false, false, false, false, false] rfl rfl (by kernel_rfl) (fun _ _ _ h => h) (Or.inl ⟨by rfl, ?_⟩) ?_ ?_
  rotate_left
  · intro w'
    go_simp
    with_reducible rfl
  rotate_left
  · simp only [Act.put, List.setIfInBounds_toArray, List.set_cons_zero, List.set_cons_succ, i64_w, i32_w]
    rfl
  refine pure_ (i := 5) (N := some 30) (v := ?_) (a' := ?_) #[true, true, true, false, true, true, false, false, false, false, false, false] rfl rfl (by kernel_rfl) (fun _ _ _ h => h) (Or.inl ⟨by rfl, ?_⟩) ?_ ?_
  rotate_left
  · intro w'
    go_simp
    with_reducible rfl
  rotate_left
  · simp only [Act.put, List.setIfInBounds_toArray, List.set_cons_zero, List.set_cons_succ, i64_w, i32_w]
    rfl
  refine pure_ (i := 6) (N := some 31) (v := ?_) (a' := ?_) #[true, true, true, false, true, true, true, false, false, false, false, false] rfl rfl (by kernel_rfl) (fun _ _ _ h => h) (Or.inl ⟨by rfl, ?_⟩) ?_ ?_
  rotate_left
  · intro w'
    go_simp
    with_reducible rfl
  rotate_left
  · simp only [Act.put, List.setIfInBounds_toArray, List.set_cons_zero, List.set_cons_succ, i64_w, i32_w]
    rfl
  refine pure_ (i := 7) (N := some 32) (v := ?_) (a' := ?_) #[true, true, true, false, true, true, true, true, false, false, false, false] rfl rfl (by kernel_rfl) (fun _ _ _ h => h) (Or.inl ⟨by rfl, ?_⟩) ?_ ?_
  rotate_left
  · intro w'
    go_simp
    with_reducible rfl
  rotate_left
  · simp only [Act.put, List.setIfInBounds_toArray, List.set_cons_zero, List.set_cons_succ, i64_w, i32_w]
    rfl
  refine take_ (i := 3) (N := some 28) (v := ?_) (a' := ?_) #[true, true, true, true, true, true, true, true, false, false, false, false] rfl rfl (by kernel_rfl) (fun _ _ _ h => h) (Or.inl ⟨by rfl, ?_⟩) hHeld ?_ ?_
  rotate_left
  · rintro w' ⟨s0, s1, s2⟩
    go_simp
    with_reducible rfl
  rotate_left
  · simp only [Act.put, List.setIfInBounds_toArray, List.set_cons_zero, List.set_cons_succ, i64_w, i32_w]
    rfl
  refine take_ (i := 8) (N := some 33) (v := ?_) (a' := ?_) #[true, true, true, true, true, true, true, true, true, false, false, false] rfl rfl (by kernel_rfl) (fun _ _ _ h => h) (Or.inl ⟨by rfl, ?_⟩) hHeld ?_ ?_
  rotate_left
  · rintro w' ⟨s0, s1, s2⟩
    go_simp
    with_reducible rfl
  rotate_left
  · simp only [Act.put, List.setIfInBounds_toArray, List.set_cons_zero, List.set_cons_succ, i64_w, i32_w]
    rfl
  refine pure_ (i := 9) (N := some 34) (v := ?_) (a' := ?_) #[true, true, true, true, true, true, true, true, true, true, false, false] rfl rfl (by kernel_rfl) (fun _ _ _ h => h) (Or.inl ⟨by rfl, ?_⟩) ?_ ?_
  rotate_left
  · intro w'
    go_simp
    with_reducible rfl
  rotate_left
  · simp only [Act.put, List.setIfInBounds_toArray, List.set_cons_zero, List.set_cons_succ, i64_w, i32_w]
    rfl
  refine take_ (i := 10) (N := some 35) (v := ?_) (a' := ?_) #[true, true, true, true, true, true, true, true, true, true, true, false] rfl rfl (by kernel_rfl) (fun _ _ _ h => h) (Or.inl ⟨by rfl, ?_⟩) hHeld ?_ ?_
  rotate_left
  · rintro w' ⟨s0, s1, s2⟩
    go_simp
    with_reducible rfl
  rotate_left
  · simp only [Act.put, List.setIfInBounds_toArray, List.set_cons_zero, List.set_cons_succ, i64_w, i32_w]
    rfl
  refine pure_ (i := 11) (N := some 7) (v := ?_) (a' := ?_) #[true, true, true, true, true, true, true, true, true, true, true, true] rfl rfl (by kernel_rfl) (fun _ _ _ h => h) (Or.inl ⟨by rfl, ?_⟩) ?_ ?_
  rotate_left
  · intro w'
    go_simp
    with_reducible rfl
  rotate_left
  · simp only [Act.put, List.setIfInBounds_toArray, List.set_cons_zero, List.set_cons_succ, i64_w, i32_w]
    rfl
  refine done_ (by kernel_rfl) ?_
  clear hHeld c8 c2 cm HW1 HW2 HO6 HB2 hcd hcd2
  by_cases hbad : 2 ≤ gs.length ∨ (gs.length = 1 ∧ po = none)
  · have hjw : joinW v0 P = ([], 272) := by
      have hs : po = none → slot P c = none := fun e => by
        rcases HW3.out.mat c (by omega) with h | ⟨ad, A, o, cc, h1, h2, _⟩
        · exact h.2
        · rw [← HPO.out, e] at h1; exact absurd h1 (by simp)
      unfold joinW
      rw [HCT.out, ← HGS.out]
      rcases hbad with h | ⟨h, e⟩
      · match gs, h with
        | _ :: _ :: _, _ => rfl
      · match gs, h with
        | [g], _ => dsimp only; rw [hs e]
    rw [hjw] at HQ
    clear hjw
    have HBX := Aside0.mk HW3.out.bel
    rcases hbad with h | ⟨h, e⟩
    · have d1 : decide (1 < gs.length) = true := decide_eq_true (by omega)
      have d2 : decide ((1 : Int) < (gs.length : Int)) = true := decide_eq_true (by omega)
      clear h
      go_wp2
      exact HQ.out _ _ ⟨_, rfl, Kd.R_nil _ _ _ _ _, by repeat (first | exact HBX.out | apply below_alloc | apply pw_below_drewN | apply below_drew1)⟩
    · subst e
      have d1 : decide (1 < gs.length) = false := decide_eq_false (by omega)
      have d2 : decide ((1 : Int) < (gs.length : Int)) = false := decide_eq_false (by omega)
      have d3 : ((gs.length : Int) == 1) = true := by rw [h]; rfl
      clear h
      go_wp2
      exact HQ.out _ _ ⟨_, rfl, Kd.R_nil _ _ _ _ _, by repeat (first | exact HBX.out | apply below_alloc | apply pw_below_drewN | apply below_drew1)⟩
  · have HBD := Aside0.mk hbad
    obtain ⟨i0, hi, _, hsz, _⟩ := info_parts info116
    have hcap := (Kd.R_reads' HW3.out.row).2.1
    have kS : ∀ W : World, (Instr.slice 117 (.slice (some ⟨gl, 0, none⟩) (c + 1) cap) none (some (.int .i64 (c : Int))) none).run Try.prog W = .ok (.slice (some ⟨gl, 0, none⟩) c cap) W := fun W => slice_run 117 116 Try.underlying117 hi hsz _ (c + 1) cap c (by omega) W
    clear hi hsz hcap
    cases gs with
    | nil =>
      clear hbad
      have hjw : joinW v0 P = (cat P c, 0) := by unfold joinW; rw [HCT.out, ← HGS.out]
      have HFN := Aside0.mk (HW3.out.fin (goneP_len2 P c HGS.out.symm))
      rw [hjw] at HQ
      clear hjw
      obtain ⟨P2, hP2⟩ : ∃ P2, P2 = P := ⟨_, rfl⟩
      rw [← hP2] at HFN HQ
      clear hP2
      go_upto_region 19 with fail
      have c8 : w3.drew.cell? ⟨gw, 8, none⟩ = some (.slice (some ⟨gl, 0, none⟩) (c + 1) cap) := cell_of_row w3.drew _ 8 _ 119 (0, 0) HFN.out.blk
      have c2 : w3.drew.cell? ⟨gw, 2, none⟩ = some (.int .i64 (c : Int)) := by rw [← HCN.out]; exact cell_of_row w3.drew _ 2 _ 119 (0, 0) HFN.out.blk
      have HFd := Aside0.mk (HFN.out.below (below_drew (Below.refl w3.heap.size w3)))
      refine start_ (n := 12) (S := fun w' => w'.cell? ⟨gw, 8, none⟩ = some (.slice (some ⟨gl, 0, none⟩) (c + 1) cap) ∧ w'.cell? ⟨gw, 2, none⟩ = some (.int .i64 (c : Int))) (ds := []) #[false, false, false, false, false, false, false, false, false, false, false, false] (by kernel_rfl) rfl rfl ⟨c8, c2⟩ (fun hHeld => ?_)
      generalize w3.drew = wd at c8 c2 HFd hHeld ⊢
      refine pure_ (i := 0) (N := some 102) (v := ?_) (a' := ?_) #[true, false, false, false, false, false, false, false, false, false, false, false] rfl rfl (by kernel_rfl) (fun _ _ _ h => h) (Or.inl ⟨by rfl, ?_⟩) ?_ ?_
      rotate_left
      · intro w'
        go_simp
        with_reducible rfl
      rotate_left
      · simp only [Act.put, List.setIfInBounds_toArray, List.set_cons_zero, List.set_cons_succ, i64_w, i32_w]
        rfl
      refine pure_ (i := 1) (N := some 103) (v := ?_) (a' := ?_) #[true, true, false, false, false, false, false, false, false, false, false, false] rfl rfl (by kernel_rfl) (fun _ _ _ h => h) (Or.inl ⟨by rfl, ?_⟩) ?_ ?_
      rotate_left
      · intro w'
        go_simp
        with_reducible rfl
      rotate_left
      · simp only [Act.put, List.setIfInBounds_toArray, List.set_cons_zero, List.set_cons_succ, i64_w, i32_w]
        rfl
      refine pure_ (i := 2) (N := some 104) (v := ?_) (a' := ?_) #[true, true, true, false, false, false, false, false, false, false, false, false] rfl rfl (by kernel_rfl) (fun _ _ _ h => h) (Or.inl ⟨by rfl, ?_⟩) ?_ ?_
      rotate_left
      · intro w'
        go_simp
        with_reducible rfl
      rotate_left
      · simp only [Act.put, List.setIfInBounds_toArray, List.set_cons_zero, List.set_cons_succ, i64_w, i32_w]
        rfl
      refine pure_ (i := 4) (N := some 106) (v := ?_) (a' := ?_) #[true, true, true, false, true, false, false, false, false, false, false, false] rfl rfl (by kernel_rfl) (fun _ _ _ h => h) (Or.inl ⟨by rfl, ?_⟩) ?_ ?_
      rotate_left
      · intro w'
        go_simp
        with_reducible rfl
      rotate_left
      · simp only [Act.put, List.setIfInBounds_toArray, List.set_cons_zero, List.set_cons_succ, i64_w, i32_w]
        rfl
      refine pure_ (i := 5) (N := some 107) (v := ?_) (a' := ?_) #[true, true, true, false, true, true, false, false, false, false, false, false] rfl rfl (by kernel_rfl) (fun _ _ _ h => h) (Or.inl ⟨by rfl, ?_⟩) ?_ ?_
      rotate_left
      · intro w'
        go_simp
        with_reducible rfl
      rotate_left
      · simp only [Act.put, List.setIfInBounds_toArray, List.set_cons_zero, List.set_cons_succ, i64_w, i32_w]
        rfl
      refine pure_ (i := 6) (N := some 108) (v := ?_) (a' := ?_) #[true, true, true, false, true, true, true, false, false, false, false, false] rfl rfl (by kernel_rfl) (fun _ _ _ h => h) (Or.inl ⟨by rfl, ?_⟩) ?_ ?_
      rotate_left
      · intro w'
        go_simp
        with_reducible rfl
      rotate_left
      · simp only [Act.put, List.setIfInBounds_toArray, List.set_cons_zero, List.set_cons_succ, i64_w, i32_w]
        rfl
      refine pure_ (i := 7) (N := some 109) (v := ?_) (a' := ?_) #[true, true, true, false, true, true, true, true, false, false, false, false] rfl rfl (by kernel_rfl) (fun _ _ _ h => h) (Or.inl ⟨by rfl, ?_⟩) ?_ ?_
      rotate_left
      · intro w'
        go_simp
        with_reducible rfl
      rotate_left
      · simp only [Act.put, List.setIfInBounds_toArray, List.set_cons_zero, List.set_cons_succ, i64_w, i32_w]
        rfl
      refine pure_ (i := 11) (N := some 113) (v := ?_) (a' := ?_) #[true, true, true, false, true, true, true, true, false, false, false, true] rfl rfl (by kernel_rfl) (fun _ _ _ h => h) (Or.inl ⟨by rfl, ?_⟩) ?_ ?_
      rotate_left
      · intro w'
        go_simp
        with_reducible rfl
      rotate_left
      · simp only [Act.put, List.setIfInBounds_toArray, List.set_cons_zero, List.set_cons_succ, i64_w, i32_w]
        rfl
      refine take_ (i := 3) (N := some 105) (v := ?_) (a' := ?_) #[true, true, true, true, true, true, true, true, false, false, false, true] rfl rfl (by kernel_rfl) (fun _ _ _ h => h) (Or.inl ⟨by rfl, ?_⟩) hHeld ?_ ?_
      rotate_left
      · rintro w' ⟨s0, s1⟩
        go_simp
        with_reducible rfl
      rotate_left
      · simp only [Act.put, List.setIfInBounds_toArray, List.set_cons_zero, List.set_cons_succ, i64_w, i32_w]
        rfl
      refine take_ (i := 8) (N := some 110) (v := ?_) (a' := ?_) #[true, true, true, true, true, true, true, true, true, false, false, true] rfl rfl (by kernel_rfl) (fun _ _ _ h => h) (Or.inl ⟨by rfl, ?_⟩) hHeld ?_ ?_
      rotate_left
      · rintro w' ⟨s0, s1⟩
        go_simp
        with_reducible rfl
      rotate_left
      · simp only [Act.put, List.setIfInBounds_toArray, List.set_cons_zero, List.set_cons_succ, i64_w, i32_w]
        rfl
      refine pure_ (i := 9) (N := some 111) (v := ?_) (a' := ?_) #[true, true, true, true, true, true, true, true, true, true, false, true] rfl rfl (by kernel_rfl) (fun _ _ _ h => h) (Or.inl ⟨by rfl, ?_⟩) ?_ ?_
      rotate_left
      · intro w'
        go_simp
        with_reducible rfl
      rotate_left
      · simp only [Act.put, List.setIfInBounds_toArray, List.set_cons_zero, List.set_cons_succ, i64_w, i32_w]
        rfl
      refine pure_ (i := 10) (N := some 112) (v := ?_) (a' := ?_) #[true, true, true, true, true, true, true, true, true, true, true, true] rfl rfl (by kernel_rfl) (fun _ _ _ h => h) (Or.inl ⟨by rfl, ?_⟩) ?_ ?_
      rotate_left
      · intro w'
        go_simp
        with_reducible rfl
      rotate_left
      · simp only [Act.put, List.setIfInBounds_toArray, List.set_cons_zero, List.set_cons_succ, i64_w, i32_w]
        rfl
      refine done_ (by kernel_rfl) ?_
      go_upto_region 20 with fail
      clear c8 c2 hHeld HFN
      obtain ⟨kz, hkz⟩ : ∃ kz, kz = c + 1 := ⟨_, rfl⟩
      have HKZ := Aside0.mk hkz
      clear hkz
      go_loopg [12, 113] kz (fun kq v12 v113 w' => ∃ i : Nat, v113 = .int .i64 (i : Int) ∧ Aside0 (Kd.R (Kd.int .u8) 5 w' wd.heap.size (fun _ => True) v12 (cat P2 i)) ∧ Aside0 (Below wd.heap.size wd w') ∧ Aside0 (i ≤ c ∧ c < i + kq))
      case atStart => exact ⟨0, by first | rfl | (simp; done), ⟨Kd.R_nil _ _ _ _ _⟩, ⟨Below.refl _ _⟩, ⟨Nat.zero_le _, by have := HKZ.out; omega⟩⟩
      case round =>
        obtain ⟨i, rfl, HOI, HBI, HMI⟩ := hrel
        cases gk with
        | zero => exact absurd HMI.out (by omega)
        | succ k1 =>
        by_cases hi : i < c
        · have hd : decide (i < c) = true := decide_eq_true hi
          have hdi : (i : Int) < (c : Int) := by omega
          obtain ⟨ps2, hp2, hm2⟩ := HFd.out.row
          obtain ⟨ad, A2, o2, cc2, e1, e2, e3, e4, e5, e6⟩ := hm2 i hi
          have am : wr.cell? ⟨gl, i, none⟩ = some (.pointer (some ad)) := by
            have h := (Kd.R_celln (enc := Value.pointer) (h1 := fun _ => rfl) (none : Option Addr) hp2 (i : Int) (by omega) (by omega)).1
            rw [Int.toNat_natCast] at h
            rw [← e1]
            exact pw_cell_below HBI.out h
          have x7 := pw_cell_below HBI.out e3
          have hcl := cat_len P2 i (fun k hk o ho => by
            obtain ⟨_, _, o3, _, _, g2, _, _, _, g6⟩ := hm2 k (by omega)
            rw [g2] at ho
            injection ho with ho
            rw [← ho]; exact g6)
          have hln : (cat P2 i).length + o2.length < 140737488355328 := by have := HC1.out; omega
          have HCT2 := Aside0.mk (show cat P2 (i + 1) = cat P2 i ++ o2 by rw [cat, e2]; rfl)
          have HR2 := Aside0.mk (e4.below HBI.out)
          have HC2 := Aside0.mk e5
          clear hp2 hm2 e1 e2 e3 e4 e5 e6 hcl
          have HLN := Aside0.mk hln
          go_wp2_with ((with_reducible refine gate_builtin (b := .append) (xs := #[.tmp 117, .tmp 121]) rfl ?_); at_builtin; refine Kd.R_append_rows (Kd.int .u8) (w0 := wd) wd.heap.size rfl (.tmp 117) (.tmp 121) 22 5 (.int .u8 0) 1 rfl Try.underlying22 QVolumesCuts.info5 rfl (by decide) (by omega) _ (cat P2 i) o2 _ _ _ (fun _ => True) (fun _ => False) rfl rfl ?aO ?aR (fun _ _ h => h) (fun _ h => h.elim) ?aF ?aB ?aS ?aL ?_; (case aR => exact Kd.C_of_reads (enc := Value.int .u8) (d := (0 : Int)) (h1 := fun _ => rfl) HR2.out); (case aB => exact HBI.out); (case aF => exact (fun _ _ => trivial)); (case aO => exact HOI.out); (case aS => exact HBI.out.size); (case aL => have := HLN.out; omega); intro v9 w9 ho hb hg hat; have HO9 := Aside0.mk ho; have HB9 := Aside0.mk hb; clear ho hb hg hat)
          go_roundg k1
          case measure => have := HMI.out; omega
          case rel => exact ⟨i + 1, by first | rfl | (rw [wrap_succ _ (by have := HC1.out; omega)]), ⟨by rw [HCT2.out]; exact HO9.out⟩, HB9, ⟨by have := HMI.out; omega, by have := HMI.out; omega⟩⟩
        · have hd : decide (i < c) = false := decide_eq_false hi
          have hie : i = c := by have := HMI.out; omega
          subst hie
          go_wp2
          exact HQ.out _ _ ⟨_, rfl, Kd.R_lower HOI.out HFd.out.bel.size, by repeat (first | exact (below_step HFd.out.bel HBI.out) | apply below_alloc | apply pw_below_drewN | apply below_drew1)⟩
    | cons g gs =>
      have hgs1 : gs = [] := by
        match gs, hbad with
        | [], _ => rfl
        | _ :: _, h => exact absurd (.inl (by simp)) h
      subst hgs1
      have hpn : po ≠ none := fun e => hbad (.inr ⟨rfl, e⟩)
      clear hbad
      obtain ⟨m, hgm, hmc, hall⟩ := goneP_one P c g HGS.out.symm
      subst hgm
      obtain ⟨adc, Ab, b, cb, e1, e2, e3, e4, e5, e6, _⟩ := (HW3.out.mat c (by omega)).resolve_left (fun h => hpn (HPO.out.trans h.1))
      have hpo : po = some adc := HPO.out.trans e1
      subst hpo
      have HSL := Aside0.mk e2
      have hjw : joinW v0 P = (cat (mended v0 P b m) c, 0) := by unfold joinW; rw [HCT.out, ← HGS.out]; dsimp only; rw [e2]; rfl
      rw [hjw] at HQ
      obtain ⟨fr, tq, hft⟩ : ∃ fr tq, placeP v0 m = (fr, tq) := ⟨_, _, rfl⟩
      have hroom := HF.out.room b (by rw [HCT.out]; exact e2) m (by rw [HCT.out]; exact hmc)
      rw [hft] at hroom
      dsimp only at hroom
      have hmd : mended v0 P b m = P.set m (some ((xorAll P b c).take (tq - fr).toNat)) := by unfold mended; rw [HCT.out, hft]
      rw [hmd] at HQ
      obtain ⟨d, hdd⟩ : ∃ d : Nat, tq - fr = (d : Int) := ⟨(tq - fr).toNat, by omega⟩
      rw [hdd, Int.toNat_natCast] at HQ
      have HDL := Aside0.mk (show d ≤ b.length by omega)
      have HMC := Aside0.mk hmc
      have HAL := Aside0.mk hall
      have HFT := Aside0.mk hft
      have HBL := Aside0.mk e6
      have HDD := Aside0.mk hdd
      have x9 := e3
      have HCL := Aside0.mk (clone_any Ab cb b w3 (e4.below HW3.out.bel) (by omega))
      obtain ⟨g6, c6', hv6, _⟩ := Kd.R_form HO3.out (by simp)
      injection hv6 with hv6 _ hv6b
      subst hv6
      subst hv6b
      clear hjw hmd hroom hft hall e1 e2 e3 e4 e5 e6 hpn hdd
      go_upto_region 10 with (go_at_call 68; refine HCL.out.mono ?_; rintro e w4 ⟨A8, c8, rfl, ho8, hb8⟩; have HO8 := Aside0.mk ho8; have HB8 := Aside0.mk hb8; clear ho8 hb8)
      clear x9 HCL
      have HX8 : Aside0 (Kd.R (Kd.int .u8) 5 w4 w3.heap.size (fun k => some k = (Value.slice A8 b.length c8).ownBlock) (.slice A8 b.length c8) b) := ⟨Kd.R_tight rfl (Kd.R_of_own (enc := Value.int .u8) (h1 := fun _ => rfl) (ok := fun _ => True) HO8.out (fun _ _ => trivial))⟩
      have HW4 := Aside0.mk (HW3.out.below HB8.out)
      clear HO8
      obtain ⟨u8, hu8⟩ : ∃ u8, u8 = c8 := ⟨_, rfl⟩
      rw [← hu8] at HX8 ⊢
      clear hu8
      have c8 : w4.drew.cell? ⟨gw, 8, none⟩ = some (.slice (some ⟨gl, 0, none⟩) (c + 1) cap) := cell_of_row w4.drew _ 8 _ 119 (0, 0) HW4.out.blk
      have c2 : w4.drew.cell? ⟨gw, 2, none⟩ = some (.int .i64 (c : Int)) := by rw [← HCN.out]; exact cell_of_row w4.drew _ 2 _ 119 (0, 0) HW4.out.blk
      have HB4d := Aside0.mk (below_step HB8.out (below_drew (Below.refl w4.heap.size w4)))
      have HX4d := Aside0.mk (Kd.R_drew HX8.out)
      refine start_ (n := 12) (S := fun w' => w'.cell? ⟨gw, 8, none⟩ = some (.slice (some ⟨gl, 0, none⟩) (c + 1) cap) ∧ w'.cell? ⟨gw, 2, none⟩ = some (.int .i64 (c : Int))) (ds := []) #[false, false, false, false, false, false, false, false, false, false, false, false] (by kernel_rfl) rfl rfl ⟨c8, c2⟩ (fun hHeld => ?_)
      generalize w4.drew = wc at c8 c2 HB4d HX4d hHeld ⊢
      refine pure_ (i := 0) (N := some 56) (v := ?_) (a' := ?_) #[true, false, false, false, false, false, false, false, false, false, false, false] rfl rfl (by kernel_rfl) (fun _ _ _ h => h) (Or.inl ⟨by rfl, ?_⟩) ?_ ?_
      rotate_left
      · intro w'
        go_simp
        with_reducible rfl
      rotate_left
      · simp only [Act.put, List.setIfInBounds_toArray, List.set_cons_zero, List.set_cons_succ, i64_w, i32_w]
        rfl
      refine pure_ (i := 1) (N := some 57) (v := ?_) (a' := ?_) #[true, true, false, false, false, false, false, false, false, false, false, false] rfl rfl (by kernel_rfl) (fun _ _ _ h => h) (Or.inl ⟨by rfl, ?_⟩) ?_ ?_
      rotate_left
      · intro w'
        go_simp
        with_reducible rfl
      rotate_left
      · simp only [Act.put, List.setIfInBounds_toArray, List.set_cons_zero, List.set_cons_succ, i64_w, i32_w]
        rfl
      refine pure_ (i := 2) (N := some 58) (v := ?_) (a' := ?_) #[true, true, true, false, false, false, false, false, false, false, false, false] rfl rfl (by kernel_rfl) (fun _ _ _ h => h) (Or.inl ⟨by rfl, ?_⟩) ?_ ?_
      rotate_left
      · intro w'
        go_simp
        with_reducible rfl
      rotate_left
      · simp only [Act.put, List.setIfInBounds_toArray, List.set_cons_zero, List.set_cons_succ, i64_w, i32_w]
        rfl
      refine pure_ (i := 4) (N := some 60) (v := ?_) (a' := ?_) #[true, true, true, false, true, false, false, false, false, false, false, false] rfl rfl (by kernel_rfl) (fun _ _ _ h => h) (Or.inl ⟨by rfl, ?_⟩) ?_ ?_
      rotate_left
      · intro w'
        go_simp
        with_reducible rfl
      rotate_left
      · simp only [Act.put, List.setIfInBounds_toArray, List.set_cons_zero, List.set_cons_succ, i64_w, i32_w]
        rfl
      refine pure_ (i := 5) (N := some 61) (v := ?_) (a' := ?_) #[true, true, true, false, true, true, false, false, false, false, false, false] rfl rfl (by kernel_rfl) (fun _ _ _ h => h) (Or.inl ⟨by rfl, ?_⟩) ?_ ?_
      rotate_left
      · intro w'
        go_simp
        with_reducible rfl
      rotate_left
      · simp only [Act.put, List.setIfInBounds_toArray, List.set_cons_zero, List.set_cons_succ, i64_w, i32_w]
        rfl
      refine pure_ (i := 6) (N := some 62) (v := ?_) (a' := ?_) #[true, true, true, false, true, true, true, false, false, false, false, false] rfl rfl (by kernel_rfl) (fun _ _ _ h => h) (Or.inl ⟨by rfl, ?_⟩) ?_ ?_
      rotate_left
      · intro w'
        go_simp
        with_reducible rfl
      rotate_left
      · simp only [Act.put, List.setIfInBounds_toArray, List.set_cons_zero, List.set_cons_succ, i64_w, i32_w]
        rfl
      refine pure_ (i := 7) (N := some 63) (v := ?_) (a' := ?_) #[true, true, true, false, true, true, true, true, false, false, false, false] rfl rfl (by kernel_rfl) (fun _ _ _ h => h) (Or.inl ⟨by rfl, ?_⟩) ?_ ?_
      rotate_left
      · intro w'
        go_simp
        with_reducible rfl
      rotate_left
      · simp only [Act.put, List.setIfInBounds_toArray, List.set_cons_zero, List.set_cons_succ, i64_w, i32_w]
        rfl
      refine pure_ (i := 11) (N := some 67) (v := ?_) (a' := ?_) #[true, true, true, false, true, true, true, true, false, false, false, true] rfl rfl (by kernel_rfl) (fun _ _ _ h => h) (Or.inl ⟨by rfl, ?_⟩) ?_ ?_
      rotate_left
      · intro w'
        go_simp
        with_reducible rfl
      rotate_left
      · simp only [Act.put, List.setIfInBounds_toArray, List.set_cons_zero, List.set_cons_succ, i64_w, i32_w]
        rfl
      refine take_ (i := 3) (N := some 59) (v := ?_) (a' := ?_) #[true, true, true, true, true, true, true, true, false, false, false, true] rfl rfl (by kernel_rfl) (fun _ _ _ h => h) (Or.inl ⟨by rfl, ?_⟩) hHeld ?_ ?_
      rotate_left
      · rintro w' ⟨s0, s1⟩
        go_simp
        with_reducible rfl
      rotate_left
      · simp only [Act.put, List.setIfInBounds_toArray, List.set_cons_zero, List.set_cons_succ, i64_w, i32_w]
        rfl
      refine take_ (i := 8) (N := some 64) (v := ?_) (a' := ?_) #[true, true, true, true, true, true, true, true, true, false, false, true] rfl rfl (by kernel_rfl) (fun _ _ _ h => h) (Or.inl ⟨by rfl, ?_⟩) hHeld ?_ ?_
      rotate_left
      · rintro w' ⟨s0, s1⟩
        go_simp
        with_reducible rfl
      rotate_left
      · simp only [Act.put, List.setIfInBounds_toArray, List.set_cons_zero, List.set_cons_succ, i64_w, i32_w]
        rfl
      refine pure_ (i := 9) (N := some 65) (v := ?_) (a' := ?_) #[true, true, true, true, true, true, true, true, true, true, false, true] rfl rfl (by kernel_rfl) (fun _ _ _ h => h) (Or.inl ⟨by rfl, ?_⟩) ?_ ?_
      rotate_left
      · intro w'
        go_simp
        with_reducible rfl
      rotate_left
      · simp only [Act.put, List.setIfInBounds_toArray, List.set_cons_zero, List.set_cons_succ, i64_w, i32_w]
        rfl
      refine pure_ (i := 10) (N := some 66) (v := ?_) (a' := ?_) #[true, true, true, true, true, true, true, true, true, true, true, true] rfl rfl (by kernel_rfl) (fun _ _ _ h => h) (Or.inl ⟨by rfl, ?_⟩) ?_ ?_
      rotate_left
      · intro w'
        go_simp
        with_reducible rfl
      rotate_left
      · simp only [Act.put, List.setIfInBounds_toArray, List.set_cons_zero, List.set_cons_succ, i64_w, i32_w]
        rfl
      refine done_ (by kernel_rfl) ?_
      go_upto_region 11 with fail
      clear c8 c2 hHeld
      obtain ⟨kf, hkf⟩ : ∃ kf, kf = c + 1 := ⟨_, rfl⟩
      have HKF := Aside0.mk hkf
      clear hkf
      go_loopg [67] kf (fun kq v67 w' => ∃ i : Nat, v67 = .int .i64 (i : Int) ∧ Aside0 (Kd.R (Kd.int .u8) 5 w' w3.heap.size (fun k => some k = (Value.slice A8 b.length u8).ownBlock) (.slice A8 b.length u8) (xorAll P b i)) ∧ Aside0 (Below w3.heap.size w3 w') ∧ Aside0 (i ≤ c ∧ c < i + kq))
      case atStart => exact ⟨0, by first | rfl | (simp; done), HX4d, HB4d, ⟨Nat.zero_le _, by have := HKF.out; omega⟩⟩
      case round =>
        obtain ⟨i, rfl, HXI, HBI, HMI⟩ := hrel
        cases gk with
        | zero => exact absurd HMI.out (by omega)
        | succ k1 =>
        by_cases hi : i < c
        · have hd : decide (i < c) = true := decide_eq_true hi
          have hdi : (i : Int) < (c : Int) := by omega
          obtain ⟨pi, hpi⟩ : ∃ pi, pi = ps.getD i none := ⟨_, rfl⟩
          have am : wr.cell? ⟨gl, i, none⟩ = some (.pointer pi) := by
            have h := (Kd.R_celln (enc := Value.pointer) (h1 := fun _ => rfl) (none : Option Addr) HW3.out.row (i : Int) (by omega) (by omega)).1
            rw [Int.toNat_natCast] at h
            rw [hpi]
            exact pw_cell_below HBI.out h
          rcases HW3.out.mat i (by omega) with h | ⟨adi, Ai, oi, ci, f1, f2, f3, f4, f5, f6, _⟩
          · rw [← hpi] at h
            obtain ⟨rfl, hsl⟩ := h
            have hxa : xorAll P b (i + 1) = xorAll P b i := by rw [xorAll, hsl]
            have HXA := Aside0.mk hxa
            clear hxa hsl hpi
            go_wp2
            go_roundg k1
            case measure => have := HMI.out; omega
            case rel => exact ⟨i + 1, by first | rfl | (rw [wrap_succ _ (by have := HC1.out; omega)]), ⟨by rw [HXA.out]; exact HXI.out⟩, HBI, ⟨by have := HMI.out; omega, by have := HMI.out; omega⟩⟩
          · rw [← hpi] at f1
            subst f1
            have hxa : xorAll P b (i + 1) = xorR (xorAll P b i) oi := by rw [xorAll, f2]
            have HXA := Aside0.mk hxa
            have x7 := pw_cell_below HBI.out f3
            have hbl : (xorAll P b i).length = b.length := xorAll_len P b i
            have hfl := HF.out.fits b (by rw [HCT.out]; exact HSL.out) i (by rw [HCT.out]; exact hi) oi f2
            have HXC := Aside0.mk (volumes_xor.calls (oi.length + 1) (fun k => some k = (Value.slice A8 b.length u8).ownBlock) (.slice A8 b.length u8) (xorAll P b i) Ai ci oi (xorR (xorAll P b i) oi) w3 wr HBI.out HXI.out
              (Kd.C_kept_came (Kd.heap_int .u8) (Kd.C_of_reads (enc := Value.int .u8) (d := (0 : Int)) (h1 := fun _ => rfl) (f4.below HW3.out.bel)) HBI.out (fun k hk => Kd.R_base HXI.out k hk.symm)) f5 (xor_f _ _ _ (by omega) (by omega) (by omega)))
            clear hxa hpi f2 f3 f4 f5 f6 hbl hfl
            go_wp2_with (go_at_call 46; refine HXC.out.mono ?_; rintro e w5 ⟨rfl, ho, hb, hk⟩; have HXJ := Aside0.mk (Kd.R_tight rfl ho); have HBJ := Aside0.mk hb; clear ho hb hk)
            go_roundg k1
            case measure => have := HMI.out; omega
            case rel => exact ⟨i + 1, by first | rfl | (rw [wrap_succ _ (by have := HC1.out; omega)]), ⟨by rw [HXA.out]; exact HXJ.out⟩, HBJ, ⟨by have := HMI.out; omega, by have := HMI.out; omega⟩⟩
        · have hd : decide (i < c) = false := decide_eq_false hi
          have hie : i = c := by have := HMI.out; omega
          have HX9 := Aside0.mk (show Kd.R (Kd.int .u8) 5 wr w3.heap.size (fun k => some k = (Value.slice A8 b.length u8).ownBlock) (.slice A8 b.length u8) (xorAll P b c) by rw [← hie]; exact HXI.out)
          clear hi hie HXI
          have HWR := Aside0.mk (HW3.out.below HBI.out)
          have HO9 := Aside0.mk (Kd.R_below HO3.out HBI.out)
          have y6 : wr.cell? ⟨g6, 0, none⟩ = some (.int .i64 (m : Int)) := (Kd.R_celln (enc := Value.int .i64) (h1 := fun _ => rfl) (0 : Int) HO9.out 0 (by decide) (by simp)).1
          have hpc := place_calls v0 gw gl (c + 1) cap m wr HWR.out.blk HF.out.step (by have := HMC.out; omega) HF.out.cnt
          rw [HFT.out] at hpc
          have HPC := Aside0.mk hpc
          clear hpc
          go_upto_region 17 with (go_at_call 71; refine HPC.out.mono ?_; rintro e w6 ⟨rfl, hb⟩; have HB6 := Aside0.mk hb; clear hb)
          clear y6 HPC
          have HB7 := Aside0.mk (below_alloc HB6.out (.cells #[.int .i64 fr, .int .i64 tq] 82))
          have HG7 := Aside0.mk (heap_alloc_new w6 (.cells #[.int .i64 fr, .int .i64 tq] 82))
          obtain ⟨w7, hw7⟩ : ∃ w7, w7 = w6.alloc (.cells #[.int .i64 fr, .int .i64 tq] 82) := ⟨_, rfl⟩
          rw [← hw7] at HB7 HG7 ⊢
          clear hw7 HB6
          generalize w6.heap.size = gb at HG7 ⊢
          have HW7 := Aside0.mk (HWR.out.below (below_drew HB7.out))
          have HX7 := Aside0.mk (Kd.R_below HX9.out (below_drew HB7.out))
          have c8 : w7.drew.cell? ⟨gw, 8, none⟩ = some (.slice (some ⟨gl, 0, none⟩) (c + 1) cap) := cell_of_row w7.drew _ 8 _ 119 (0, 0) HW7.out.blk
          have y6 : w7.drew.cell? ⟨g6, 0, none⟩ = some (.int .i64 (m : Int)) := (Kd.R_celln (enc := Value.int .i64) (h1 := fun _ => rfl) (0 : Int) (Kd.R_below HO9.out (below_drew HB7.out)) 0 (by decide) (by simp)).1
          have q0 : w7.drew.cell? ⟨gb, 0, none⟩ = some (.int .i64 fr) := cell_of_row w7.drew _ 0 _ 82 (0, 0) HG7.out
          have q1 : w7.drew.cell? ⟨gb, 1, none⟩ = some (.int .i64 tq) := cell_of_row w7.drew _ 1 _ 82 (0, 0) HG7.out
          have hdw : wrap64 (tq - fr) = (d : Int) := by rw [HDD.out]; exact IntWalk.wrap64_in _ (by have := HDL.out; have := HBL.out; omega)
          obtain ⟨i5, hi5, _, hsz5, _⟩ := info_parts QVolumesCuts.info5
          have hu8 := (Kd.R_reads' HX9.out).2.1
          have kS2 : ∀ W : World, (Instr.slice 22 (.slice A8 b.length u8) none (some (.int .i64 (wrap64 (tq - fr)))) none).run Try.prog W = .ok (.slice A8 d u8) W := fun W => by rw [hdw]; exact slice_run 22 5 Try.underlying22 hi5 hsz5 _ b.length u8 d (by have := HDL.out; omega) W
          clear hdw hi5 hsz5 hu8
          have hm1 : (m : Int) < (c : Int) + 1 := by have := HMC.out; omega
          generalize hwd : w7.drew = wb at HW7 HX7 c8 y6 q0 q1
          have HWA := Aside0.mk (HW7.out.below (below_alloc (Below.refl wb.heap.size wb) (.cells #[.int .u64 0, .int .i64 0, .int .i64 0, .bool false, .int .i64 0, .int .i64 0, .int .i64 0, .slice A8 d u8] 88)))
          have am := Kd.R_celln (enc := Value.pointer) (h1 := fun _ => rfl) (none : Option Addr) HWA.out.row (m : Int) (by omega) (by have := HMC.out; omega)
          rw [Int.toNat_natCast] at am
          obtain ⟨am, fm⟩ := am
          rw [← hwd] at HW7 HX7 c8 y6 q0 q1 am fm
          clear hwd HWA
          refine start_ (n := 18) (S := fun w' => w'.cell? ⟨gw, 8, none⟩ = some (.slice (some ⟨gl, 0, none⟩) (c + 1) cap) ∧ w'.cell? ⟨g6, 0, none⟩ = some (.int .i64 (m : Int)) ∧ w'.cell? ⟨gb, 0, none⟩ = some (.int .i64 fr) ∧ w'.cell? ⟨gb, 1, none⟩ = some (.int .i64 tq)) (ds := [17]) #[false, false, false, false, false, false, false, false, false, false, false, false, false, false, false, false, false, false] (by kernel_rfl) rfl rfl ⟨c8, y6, q0, q1⟩ (fun hHeld => ?_)
          generalize w7.drew = wb at HW7 HX7 c8 y6 q0 q1 am fm hHeld ⊢
          refine pure_ (i := 0) (N := some 85) (v := ?_) (a' := ?_) #[true, false, false, false, false, false, false, false, false, false, false, false, false, false, false, false, false, false] rfl rfl (by kernel_rfl) (fun _ _ _ h => h) (Or.inl ⟨by rfl, ?_⟩) ?_ ?_
          rotate_left
          · intro w'
            go_simp
            with_reducible rfl
          rotate_left
          · simp only [Act.put, List.setIfInBounds_toArray, List.set_cons_zero, List.set_cons_succ, i64_w, i32_w]
            rfl
          refine pure_ (i := 1) (N := some 86) (v := ?_) (a' := ?_) #[true, true, false, false, false, false, false, false, false, false, false, false, false, false, false, false, false, false] rfl rfl (by kernel_rfl) (fun _ _ _ h => h) (Or.inl ⟨by rfl, ?_⟩) ?_ ?_
          rotate_left
          · intro w'
            go_simp
            with_reducible rfl
          rotate_left
          · simp only [Act.put, List.setIfInBounds_toArray, List.set_cons_zero, List.set_cons_succ, i64_w, i32_w]
            rfl
          refine pure_ (i := 2) (N := some 87) (v := ?_) (a' := ?_) #[true, true, true, false, false, false, false, false, false, false, false, false, false, false, false, false, false, false] rfl rfl (by kernel_rfl) (fun _ _ _ h => h) (Or.inl ⟨by rfl, ?_⟩) ?_ ?_
          rotate_left
          · intro w'
            go_simp
            with_reducible rfl
          rotate_left
          · simp only [Act.put, List.setIfInBounds_toArray, List.set_cons_zero, List.set_cons_succ, i64_w, i32_w]
            rfl
          refine pure_ (i := 4) (N := some 89) (v := ?_) (a' := ?_) #[true, true, true, false, true, false, false, false, false, false, false, false, false, false, false, false, false, false] rfl rfl (by kernel_rfl) (fun _ _ _ h => h) (Or.inl ⟨by rfl, ?_⟩) ?_ ?_
          rotate_left
          · intro w'
            go_simp
            with_reducible rfl
          rotate_left
          · simp only [Act.put, List.setIfInBounds_toArray, List.set_cons_zero, List.set_cons_succ, i64_w, i32_w]
            rfl
          refine pure_ (i := 5) (N := some 90) (v := ?_) (a' := ?_) #[true, true, true, false, true, true, false, false, false, false, false, false, false, false, false, false, false, false] rfl rfl (by kernel_rfl) (fun _ _ _ h => h) (Or.inl ⟨by rfl, ?_⟩) ?_ ?_
          rotate_left
          · intro w'
            go_simp
            with_reducible rfl
          rotate_left
          · simp only [Act.put, List.setIfInBounds_toArray, List.set_cons_zero, List.set_cons_succ, i64_w, i32_w]
            rfl
          refine pure_ (i := 7) (N := some 92) (v := ?_) (a' := ?_) #[true, true, true, false, true, true, false, true, false, false, false, false, false, false, false, false, false, false] rfl rfl (by kernel_rfl) (fun _ _ _ h => h) (Or.inl ⟨by rfl, ?_⟩) ?_ ?_
          rotate_left
          · intro w'
            go_simp
            with_reducible rfl
          rotate_left
          · simp only [Act.put, List.setIfInBounds_toArray, List.set_cons_zero, List.set_cons_succ, i64_w, i32_w]
            rfl
          refine pure_ (i := 8) (N := some 93) (v := ?_) (a' := ?_) #[true, true, true, false, true, true, false, true, true, false, false, false, false, false, false, false, false, false] rfl rfl (by kernel_rfl) (fun _ _ _ h => h) (Or.inl ⟨by rfl, ?_⟩) ?_ ?_
          rotate_left
          · intro w'
            go_simp
            with_reducible rfl
          rotate_left
          · simp only [Act.put, List.setIfInBounds_toArray, List.set_cons_zero, List.set_cons_succ, i64_w, i32_w]
            rfl
          refine pure_ (i := 10) (N := some 95) (v := ?_) (a' := ?_) #[true, true, true, false, true, true, false, true, true, false, true, false, false, false, false, false, false, false] rfl rfl (by kernel_rfl) (fun _ _ _ h => h) (Or.inl ⟨by rfl, ?_⟩) ?_ ?_
          rotate_left
          · intro w'
            go_simp
            with_reducible rfl
          rotate_left
          · simp only [Act.put, List.setIfInBounds_toArray, List.set_cons_zero, List.set_cons_succ, i64_w, i32_w]
            rfl
          refine take_ (i := 3) (N := some 88) (v := ?_) (a' := ?_) #[true, true, true, true, true, true, false, true, true, false, true, false, false, false, false, false, false, false] rfl rfl (by kernel_rfl) (fun _ _ _ h => h) (Or.inl ⟨by rfl, ?_⟩) hHeld ?_ ?_
          rotate_left
          · rintro w' ⟨s0, s1, s2, s3⟩
            go_simp
            with_reducible rfl
          rotate_left
          · simp only [Act.put, List.setIfInBounds_toArray, List.set_cons_zero, List.set_cons_succ, i64_w, i32_w]
            rfl
          refine take_ (i := 6) (N := some 91) (v := ?_) (a' := ?_) #[true, true, true, true, true, true, true, true, true, false, true, false, false, false, false, false, false, false] rfl rfl (by kernel_rfl) (fun _ _ _ h => h) (Or.inl ⟨by rfl, ?_⟩) hHeld ?_ ?_
          rotate_left
          · rintro w' ⟨s0, s1, s2, s3⟩
            go_simp
            with_reducible rfl
          rotate_left
          · simp only [Act.put, List.setIfInBounds_toArray, List.set_cons_zero, List.set_cons_succ, i64_w, i32_w]
            rfl
          refine take_ (i := 9) (N := some 94) (v := ?_) (a' := ?_) #[true, true, true, true, true, true, true, true, true, true, true, false, false, false, false, false, false, false] rfl rfl (by kernel_rfl) (fun _ _ _ h => h) (Or.inl ⟨by rfl, ?_⟩) hHeld ?_ ?_
          rotate_left
          · rintro w' ⟨s0, s1, s2, s3⟩
            go_simp
            with_reducible rfl
          rotate_left
          · simp only [Act.put, List.setIfInBounds_toArray, List.set_cons_zero, List.set_cons_succ, i64_w, i32_w]
            rfl
          refine take_ (i := 11) (N := some 96) (v := ?_) (a' := ?_) #[true, true, true, true, true, true, true, true, true, true, true, true, false, false, false, false, false, false] rfl rfl (by kernel_rfl) (fun _ _ _ h => h) (Or.inl ⟨by rfl, ?_⟩) hHeld ?_ ?_
          rotate_left
          · rintro w' ⟨s0, s1, s2, s3⟩
            go_simp
            with_reducible rfl
          rotate_left
          · simp only [Act.put, List.setIfInBounds_toArray, List.set_cons_zero, List.set_cons_succ, i64_w, i32_w]
            rfl
          refine pure_ (i := 12) (N := some 97) (v := ?_) (a' := ?_) #[true, true, true, true, true, true, true, true, true, true, true, true, true, false, false, false, false, false] rfl rfl (by kernel_rfl) (fun _ _ _ h => h) (Or.inl ⟨by rfl, ?_⟩) ?_ ?_
          rotate_left
          · intro w'
            go_simp
            with_reducible rfl
          rotate_left
          · simp only [Act.put, List.setIfInBounds_toArray, List.set_cons_zero, List.set_cons_succ, i64_w, i32_w]
            rfl
          refine pure_ (i := 13) (N := some 98) (v := ?_) (a' := ?_) #[true, true, true, true, true, true, true, true, true, true, true, true, true, true, false, false, false, false] rfl rfl (by kernel_rfl) (fun _ _ _ h => h) (Or.inl ⟨by rfl, ?_⟩) ?_ ?_
          rotate_left
          · intro w'
            go_simp
            with_reducible rfl
          rotate_left
          · simp only [Act.put, List.setIfInBounds_toArray, List.set_cons_zero, List.set_cons_succ, i64_w, i32_w]
            rfl
          refine pure_ (i := 14) (N := some 99) (v := ?_) (a' := ?_) #[true, true, true, true, true, true, true, true, true, true, true, true, true, true, true, false, false, false] rfl rfl (by kernel_rfl) (fun _ _ _ h => h) (Or.inl ⟨by rfl, ?_⟩) ?_ ?_
          rotate_left
          · intro w'
            go_simp
            with_reducible rfl
          rotate_left
          · simp only [Act.put, List.setIfInBounds_toArray, List.set_cons_zero, List.set_cons_succ, i64_w, i32_w]
            rfl
          refine one_ (i := 15) (N := some 100) #[true, true, true, true, true, true, true, true, true, true, true, true, true, true, true, true, false, false] rfl rfl (by kernel_rfl) (by decide) (fun K hK => ?_)
          refine value_ (w1 := ?_) (v := ?_) (by rfl) rfl ?_ ?_
          rotate_left 2
          · go_simp
            constructor
            · rfl
            · rfl
          refine hK.out _ _ ⟨(pw_cell_below (below_alloc (Below.refl _ _) _) c8), (pw_cell_below (below_alloc (Below.refl _ _) _) y6), (pw_cell_below (below_alloc (Below.refl _ _) _) q0), (pw_cell_below (below_alloc (Below.refl _ _) _) q1)⟩ (fun hHeld => ?_)
          clear hK K
          refine norm_ (a' := ?_) ?_ ?_
          rotate_left
          · show Act.put _ (some 100) _ = _
            simp only [Act.put, List.setIfInBounds_toArray, List.set_cons_zero, List.set_cons_succ, i64_w, i32_w]
            rfl
          refine pure_ (i := 16) (N := some 101) (v := ?_) (a' := ?_) #[true, true, true, true, true, true, true, true, true, true, true, true, true, true, true, true, true, false] rfl rfl (by kernel_rfl) (fun _ _ _ h => h) (Or.inl ⟨by rfl, ?_⟩) ?_ ?_
          rotate_left
          · intro w'
            go_simp
            with_reducible rfl
          rotate_left
          · simp only [Act.put, List.setIfInBounds_toArray, List.set_cons_zero, List.set_cons_succ, i64_w, i32_w]
            rfl
          refine last_ (i := 17) (N := none) #[true, true, true, true, true, true, true, true, true, true, true, true, true, true, true, true, true, true] rfl rfl (by kernel_rfl) (by decide) (fun K hK => ?_)
          refine skip_ (w1 := ?_) (by rfl) rfl ?_ ?_
          rotate_left
          · go_simp
            rfl
          refine hK.out _ _ ?_
          clear hK K
          refine done_ (by kernel_rfl) ?_
          have HFN := Aside0.mk (HW7.out.mend HMC.out HAL.out (l8 := xorAll P b c) (A := A8) (d := d) (cc := u8) (by rw [xorAll_len]; exact HX7.out) (by rw [xorAll_len]; exact HDL.out) (by rw [xorAll_len]; exact HBL.out))
          clear c8 y6 q0 q1 am fm hHeld kS2 hm1 HX7 HX9 HWR HO9 HB7 HG7
          obtain ⟨P2, hP2⟩ : ∃ P2, P2 = P.set m (some ((xorAll P b c).take d)) := ⟨_, rfl⟩
          rw [← hP2] at HFN HQ
          clear hP2
          generalize ((wb.alloc (.cells #[.int .u64 0, .int .i64 0, .int .i64 0, .bool false, .int .i64 0, .int .i64 0, .int .i64 0, .slice A8 d u8] 88)).setCell ⟨gl, m, none⟩ (.pointer (some ⟨wb.heap.size, 0, none⟩))) = wz at HFN ⊢
          go_upto_region 19 with fail
          have c8 : wz.drew.cell? ⟨gw, 8, none⟩ = some (.slice (some ⟨gl, 0, none⟩) (c + 1) cap) := cell_of_row wz.drew _ 8 _ 119 (0, 0) HFN.out.blk
          have c2 : wz.drew.cell? ⟨gw, 2, none⟩ = some (.int .i64 (c : Int)) := by rw [← HCN.out]; exact cell_of_row wz.drew _ 2 _ 119 (0, 0) HFN.out.blk
          have HFd := Aside0.mk (HFN.out.below (below_drew (Below.refl wz.heap.size wz)))
          refine start_ (n := 12) (S := fun w' => w'.cell? ⟨gw, 8, none⟩ = some (.slice (some ⟨gl, 0, none⟩) (c + 1) cap) ∧ w'.cell? ⟨gw, 2, none⟩ = some (.int .i64 (c : Int))) (ds := []) #[false, false, false, false, false, false, false, false, false, false, false, false] (by kernel_rfl) rfl rfl ⟨c8, c2⟩ (fun hHeld => ?_)
          generalize wz.drew = wd at c8 c2 HFd hHeld ⊢
          refine pure_ (i := 0) (N := some 102) (v := ?_) (a' := ?_) #[true, false, false, false, false, false, false, false, false, false, false, false] rfl rfl (by kernel_rfl) (fun _ _ _ h => h) (Or.inl ⟨by rfl, ?_⟩) ?_ ?_
          rotate_left
          · intro w'
            go_simp
            with_reducible rfl
          rotate_left
          · simp only [Act.put, List.setIfInBounds_toArray, List.set_cons_zero, List.set_cons_succ, i64_w, i32_w]
            rfl
          refine pure_ (i := 1) (N := some 103) (v := ?_) (a' := ?_) #[true, true, false, false, false, false, false, false, false, false, false, false] rfl rfl (by kernel_rfl) (fun _ _ _ h => h) (Or.inl ⟨by rfl, ?_⟩) ?_ ?_
          rotate_left
          · intro w'
            go_simp
            with_reducible rfl
          rotate_left
          · simp only [Act.put, List.setIfInBounds_toArray, List.set_cons_zero, List.set_cons_succ, i64_w, i32_w]
            rfl
          refine pure_ (i := 2) (N := some 104) (v := ?_) (a' := ?_) #[true, true, true, false, false, false, false, false, false, false, false, false] rfl rfl (by kernel_rfl) (fun _ _ _ h => h) (Or.inl ⟨by rfl, ?_⟩) ?_ ?_
          rotate_left
          · intro w'
            go_simp
            with_reducible rfl
          rotate_left
          · simp only [Act.put, List.setIfInBounds_toArray, List.set_cons_zero, List.set_cons_succ, i64_w, i32_w]
            rfl
          refine pure_ (i := 4) (N := some 106) (v := ?_) (a' := ?_) #[true, true, true, false, true, false, false, false, false, false, false, false] rfl rfl (by kernel_rfl) (fun _ _ _ h => h) (Or.inl ⟨by rfl, ?_⟩) ?_ ?_
          rotate_left
          · intro w'
            go_simp
            with_reducible rfl
          rotate_left
          · simp only [Act.put, List.setIfInBounds_toArray, List.set_cons_zero, List.set_cons_succ, i64_w, i32_w]
            rfl
          refine pure_ (i := 5) (N := some 107) (v := ?_) (a' := ?_) #[true, true, true, false, true, true, false, false, false, false, false, false] rfl rfl (by kernel_rfl) (fun _ _ _ h => h) (Or.inl ⟨by rfl, ?_⟩) ?_ ?_
          rotate_left
          · intro w'
            go_simp
            with_reducible rfl
          rotate_left
          · simp only [Act.put, List.setIfInBounds_toArray, List.set_cons_zero, List.set_cons_succ, i64_w, i32_w]
            rfl
          refine pure_ (i := 6) (N := some 108) (v := ?_) (a' := ?_) #[true, true, true, false, true, true, true, false, false, false, false, false] rfl rfl (by kernel_rfl) (fun _ _ _ h => h) (Or.inl ⟨by rfl, ?_⟩) ?_ ?_
          rotate_left
          · intro w'
            go_simp
            with_reducible rfl
          rotate_left
          · simp only [Act.put, List.setIfInBounds_toArray, List.set_cons_zero, List.set_cons_succ, i64_w, i32_w]
            rfl
          refine pure_ (i := 7) (N := some 109) (v := ?_) (a' := ?_) #[true, true, true, false, true, true, true, true, false, false, false, false] rfl rfl (by kernel_rfl) (fun _ _ _ h => h) (Or.inl ⟨by rfl, ?_⟩) ?_ ?_
          rotate_left
          · intro w'
            go_simp
            with_reducible rfl
          rotate_left
          · simp only [Act.put, List.setIfInBounds_toArray, List.set_cons_zero, List.set_cons_succ, i64_w, i32_w]
            rfl
          refine pure_ (i := 11) (N := some 113) (v := ?_) (a' := ?_) #[true, true, true, false, true, true, true, true, false, false, false, true] rfl rfl (by kernel_rfl) (fun _ _ _ h => h) (Or.inl ⟨by rfl, ?_⟩) ?_ ?_
          rotate_left
          · intro w'
            go_simp
            with_reducible rfl
          rotate_left
          · simp only [Act.put, List.setIfInBounds_toArray, List.set_cons_zero, List.set_cons_succ, i64_w, i32_w]
            rfl
          refine take_ (i := 3) (N := some 105) (v := ?_) (a' := ?_) #[true, true, true, true, true, true, true, true, false, false, false, true] rfl rfl (by kernel_rfl) (fun _ _ _ h => h) (Or.inl ⟨by rfl, ?_⟩) hHeld ?_ ?_
          rotate_left
          · rintro w' ⟨s0, s1⟩
            go_simp
            with_reducible rfl
          rotate_left
          · simp only [Act.put, List.setIfInBounds_toArray, List.set_cons_zero, List.set_cons_succ, i64_w, i32_w]
            rfl
          refine take_ (i := 8) (N := some 110) (v := ?_) (a' := ?_) #[true, true, true, true, true, true, true, true, true, false, false, true] rfl rfl (by kernel_rfl) (fun _ _ _ h => h) (Or.inl ⟨by rfl, ?_⟩) hHeld ?_ ?_
          rotate_left
          · rintro w' ⟨s0, s1⟩
            go_simp
            with_reducible rfl
          rotate_left
          · simp only [Act.put, List.setIfInBounds_toArray, List.set_cons_zero, List.set_cons_succ, i64_w, i32_w]
            rfl
          refine pure_ (i := 9) (N := some 111) (v := ?_) (a' := ?_) #[true, true, true, true, true, true, true, true, true, true, false, true] rfl rfl (by kernel_rfl) (fun _ _ _ h => h) (Or.inl ⟨by rfl, ?_⟩) ?_ ?_
          rotate_left
          · intro w'
            go_simp
            with_reducible rfl
          rotate_left
          · simp only [Act.put, List.setIfInBounds_toArray, List.set_cons_zero, List.set_cons_succ, i64_w, i32_w]
            rfl
          refine pure_ (i := 10) (N := some 112) (v := ?_) (a' := ?_) #[true, true, true, true, true, true, true, true, true, true, true, true] rfl rfl (by kernel_rfl) (fun _ _ _ h => h) (Or.inl ⟨by rfl, ?_⟩) ?_ ?_
          rotate_left
          · intro w'
            go_simp
            with_reducible rfl
          rotate_left
          · simp only [Act.put, List.setIfInBounds_toArray, List.set_cons_zero, List.set_cons_succ, i64_w, i32_w]
            rfl
          refine done_ (by kernel_rfl) ?_
          go_upto_region 20 with fail
          clear c8 c2 hHeld HFN
          obtain ⟨kz, hkz⟩ : ∃ kz, kz = c + 1 := ⟨_, rfl⟩
          have HKZ := Aside0.mk hkz
          clear hkz
          go_loopg [12, 113] kz (fun kq v12 v113 w' => ∃ i : Nat, v113 = .int .i64 (i : Int) ∧ Aside0 (Kd.R (Kd.int .u8) 5 w' wd.heap.size (fun _ => True) v12 (cat P2 i)) ∧ Aside0 (Below wd.heap.size wd w') ∧ Aside0 (i ≤ c ∧ c < i + kq))
          case atStart => exact ⟨0, by first | rfl | (simp; done), ⟨Kd.R_nil _ _ _ _ _⟩, ⟨Below.refl _ _⟩, ⟨Nat.zero_le _, by have := HKZ.out; omega⟩⟩
          case round =>
            obtain ⟨i, rfl, HOI, HBI, HMI⟩ := hrel
            cases gk with
            | zero => exact absurd HMI.out (by omega)
            | succ k1 =>
            by_cases hi : i < c
            · have hd : decide (i < c) = true := decide_eq_true hi
              have hdi : (i : Int) < (c : Int) := by omega
              obtain ⟨ps2, hp2, hm2⟩ := HFd.out.row
              obtain ⟨ad, A2, o2, cc2, e1, e2, e3, e4, e5, e6⟩ := hm2 i hi
              have am : wr.cell? ⟨gl, i, none⟩ = some (.pointer (some ad)) := by
                have h := (Kd.R_celln (enc := Value.pointer) (h1 := fun _ => rfl) (none : Option Addr) hp2 (i : Int) (by omega) (by omega)).1
                rw [Int.toNat_natCast] at h
                rw [← e1]
                exact pw_cell_below HBI.out h
              have x7 := pw_cell_below HBI.out e3
              have hcl := cat_len P2 i (fun k hk o ho => by
                obtain ⟨_, _, o3, _, _, g2, _, _, _, g6⟩ := hm2 k (by omega)
                rw [g2] at ho
                injection ho with ho
                rw [← ho]; exact g6)
              have hln : (cat P2 i).length + o2.length < 140737488355328 := by have := HC1.out; omega
              have HCT2 := Aside0.mk (show cat P2 (i + 1) = cat P2 i ++ o2 by rw [cat, e2]; rfl)
              have HR2 := Aside0.mk (e4.below HBI.out)
              have HC2 := Aside0.mk e5
              clear hp2 hm2 e1 e2 e3 e4 e5 e6 hcl
              have HLN := Aside0.mk hln
              go_wp2_with ((with_reducible refine gate_builtin (b := .append) (xs := #[.tmp 117, .tmp 121]) rfl ?_); at_builtin; refine Kd.R_append_rows (Kd.int .u8) (w0 := wd) wd.heap.size rfl (.tmp 117) (.tmp 121) 22 5 (.int .u8 0) 1 rfl Try.underlying22 QVolumesCuts.info5 rfl (by decide) (by omega) _ (cat P2 i) o2 _ _ _ (fun _ => True) (fun _ => False) rfl rfl ?aO ?aR (fun _ _ h => h) (fun _ h => h.elim) ?aF ?aB ?aS ?aL ?_; (case aR => exact Kd.C_of_reads (enc := Value.int .u8) (d := (0 : Int)) (h1 := fun _ => rfl) HR2.out); (case aB => exact HBI.out); (case aF => exact (fun _ _ => trivial)); (case aO => exact HOI.out); (case aS => exact HBI.out.size); (case aL => have := HLN.out; omega); intro v9 w9 ho hb hg hat; have HO9 := Aside0.mk ho; have HB9 := Aside0.mk hb; clear ho hb hg hat)
              go_roundg k1
              case measure => have := HMI.out; omega
              case rel => exact ⟨i + 1, by first | rfl | (rw [wrap_succ _ (by have := HC1.out; omega)]), ⟨by rw [HCT2.out]; exact HO9.out⟩, HB9, ⟨by have := HMI.out; omega, by have := HMI.out; omega⟩⟩
            · have hd : decide (i < c) = false := decide_eq_false hi
              have hie : i = c := by have := HMI.out; omega
              subst hie
              go_wp2
              exact HQ.out _ _ ⟨_, rfl, Kd.R_lower HOI.out HFd.out.bel.size, by repeat (first | exact (below_step HFd.out.bel HBI.out) | apply below_alloc | apply pw_below_drewN | apply below_drew1)⟩
end Go.Proofs.Ytnkcbkfccbfjpaa.Z
/- Join of volumes (f40), whole: at any bytes. -/
namespace Go.Proofs.Ytnkcbkfccbfjpaa.Z
open Go.RowKit Go.Proofs.Ytnkcbkfccbfjpaa.XxhW Go.Proofs.Ytnkcbkfccbfjpaa.QVolumesCuts Go.Proofs.YtnkcbkfccbfjpaaW.PrintWords Go.Proofs.YtnkcbkfccbfjpaaW.PrintLast Go.Proofs.YtnkcbkfccbfjpaaW.PrintMore
set_option linter.unusedVariables false
set_option linter.unusedSimpArgs false
theorem fillAll_some {v0 : Vol} {G : Nat → List Int → Prop} : ∀ (l : List Vol) (P P' : List (Option (List Int))), fillAll v0 l P = some P' → (∀ v ∈ l, 0 ≤ v.num ∧ v.num.toNat < P.length) → (∀ k o, slot P k = some o → G k o) → (∀ v ∈ l, agree v0 v = true → G v.num.toNat v.b) → (∀ k o, slot P' k = some o → G k o) ∧ P'.length = P.length ∧ ∀ v ∈ l, agree v0 v = true
  | [], P, P', h, _, h1, _ => by
    rw [fillAll] at h
    injection h with h
    subst h
    exact ⟨h1, rfl, fun v hv => absurd hv (by simp)⟩
  | v :: l, P, P', h, hn, h1, h2 => by
    rw [fillAll] at h
    by_cases c : agree v0 v = true ∧ (slot P v.num.toNat = none ∨ slot P v.num.toNat = some v.b)
    · rw [if_pos c] at h
      obtain ⟨g1, g2, g3⟩ := fillAll_some l _ _ h (fun u hu => by rw [List.length_set]; exact hn u (by simp [hu])) (fun k o hk => by
        rw [slot_set _ _ _ _ (hn v (by simp)).2] at hk
        by_cases e : k = v.num.toNat
        · rw [if_pos e] at hk
          injection hk with hk
          rw [e, ← hk]
          exact h2 v (by simp) c.1
        · rw [if_neg e] at hk
          exact h1 k o hk) (fun u hu => h2 u (by simp [hu]))
      refine ⟨g1, by rw [g2, List.length_set], fun u hu => ?_⟩
      rcases List.mem_cons.1 hu with rfl | hu
      · exact c.1
      · exact g3 u hu
    · rw [if_neg c] at h
      exact absurd h (by simp)
theorem agree_iff {v0 v : Vol} : agree v0 v = true ↔ v.set = v0.set ∧ v.cnt = v0.cnt ∧ v.whole = v0.whole ∧ stepV v = stepV v0 := by
  unfold agree
  simp only [Bool.and_eq_true, beq_iff_eq]
  exact ⟨fun h => ⟨h.1.1.1, h.1.1.2, h.1.2, h.2⟩, fun h => ⟨⟨⟨h.1, h.2.1⟩, h.2.2.1⟩, h.2.2.2⟩⟩
/-- What is in a slot: a volume of that number, of the set. -/
def InSlot (v0 : Vol) (k : Nat) (o : List Int) : Prop := ∃ v : Vol, VolOk v (stepV v0) ∧ v.cnt = v0.cnt ∧ v.whole = v0.whole ∧ v.num = (k : Int) ∧ v.b = o
theorem gather_slots (L : List (List Int)) (h : (gatherR getE volOf L).1 = 0) :
    VolOk (gatherR getE volOf L).2.1 (stepV (gatherR getE volOf L).2.1) ∧ (∀ k o, slot (gatherR getE volOf L).2.2 k = some o → InSlot (gatherR getE volOf L).2.1 k o) ∧ (gatherR getE volOf L).2.2.length = (gatherR getE volOf L).2.1.cnt.toNat + 1 := by
  unfold gatherR at h ⊢
  by_cases hE : firstE getE L = 0
  · rw [if_pos hE] at h ⊢
    have hok : ∀ v ∈ L.map volOf, VolOk v (stepV v) := fun v hv => by
      obtain ⟨b, hb, rfl⟩ := List.mem_map.1 hv
      exact getE_ok (firstE_ok getE L hE b hb)
    generalize L.map volOf = M at h hok ⊢
    cases M with
    | nil => exact absurd h (by decide)
    | cons v0 l =>
      dsimp only at h ⊢
      cases hf : fillAll v0 (v0 :: l) (List.replicate (v0.cnt.toNat + 1) none) with
      | none => rw [hf] at h; exact absurd h (by simp)
      | some P =>
        rw [hf] at h
        dsimp only
        have h0 := hok v0 (by simp)
        have hall : ∀ v ∈ (v0 :: l), agree v0 v = true → v.num.toNat < v0.cnt.toNat + 1 := fun v hv ha => by
          have h1 := (hok v hv).num
          have h2 := (agree_iff.1 ha).2.1
          omega
        have key : ∀ (l : List Vol) (P P' : List (Option (List Int))), fillAll v0 l P = some P' → ∀ v ∈ l, agree v0 v = true := by
          intro l
          induction l with
          | nil => intro P P' _ v hv; exact absurd hv (by simp)
          | cons u l ih =>
            intro P P' hf v hv
            rw [fillAll] at hf
            by_cases c : agree v0 u = true ∧ (slot P u.num.toNat = none ∨ slot P u.num.toNat = some u.b)
            · rw [if_pos c] at hf
              rcases List.mem_cons.1 hv with rfl | hv
              · exact c.1
              · exact ih _ _ hf v hv
            · rw [if_neg c] at hf; exact absurd hf (by simp)
        have hag := key _ _ _ hf
        obtain ⟨g1, g2, g3⟩ := fillAll_some (G := InSlot v0) (v0 :: l) _ P hf (fun v hv => ⟨(hok v hv).num.1, by rw [List.length_replicate]; exact hall v hv (hag v hv)⟩) (fun k o hk => by
          exfalso
          unfold slot at hk
          rw [List.getD_eq_getElem?_getD, List.getElem?_replicate] at hk
          split at hk <;> simp at hk) (fun v hv ha => by
          have hs := agree_iff.1 ha
          have hv1 := hok v hv
          rw [hs.2.2.2] at hv1
          exact ⟨v, hv1, hs.2.1, hs.2.2.1, by have := hv1.num; omega, rfl⟩)
        exact ⟨h0, g1, by rw [g2, List.length_replicate]⟩
  · rw [if_neg hE] at h
    exact absurd h hE
theorem mul_pred (a s : Int) : (a - 1) * s = a * s - s := by rw [Int.sub_mul, Int.one_mul]
theorem fit_of {v0 : Vol} {P : List (Option (List Int))} (h0 : VolOk v0 (stepV v0)) (h : ∀ k o, slot P k = some o → InSlot v0 k o) : Fit v0 P := by
  have hc := h0.cnt
  have hw := h0.whole
  obtain ⟨s, hs⟩ : ∃ s, s = stepV v0 := ⟨_, rfl⟩
  have hsz : ∀ k o, slot P k = some o → (k : Int) ≤ v0.cnt ∧ (v0.cnt = 1 → (o.length : Int) = v0.whole) ∧ (v0.cnt ≠ 1 → ((k : Int) = v0.cnt → (o.length : Int) = s) ∧ (o.length : Int) ≤ s) := by
    intro k o hk
    obtain ⟨v, h1, h2, h3, h4, h5⟩ := h k o hk
    rw [← hs] at h1
    have hz := h1.size.1
    rw [h5] at hz
    refine ⟨by have := h1.num; omega, fun e => ?_, fun e => ?_⟩
    · have := (h1.one (by omega)).2.1
      omega
    · obtain ⟨m1, m2, m3, m4, m5, m6, m7⟩ := h1.more (by omega)
      refine ⟨fun e2 => by have := (m5 (by omega)).1; omega, ?_⟩
      have hp : (v.cnt - 1) * s = v.cnt * s - s := mul_pred _ _
      by_cases q1 : v.num = v.cnt
      · have := (m5 q1).1; omega
      · by_cases q2 : v.num = v.cnt - 1
        · have h7 := (m6 q2).1
          rw [q2, Int.mul_comm] at h7
          rw [hp] at h7
          omega
        · have := (m7 (by have := h1.num; omega)).1; omega
  have hst : v0.cnt = 1 → s = 0 := fun e => by rw [hs]; exact (h0.one e).1
  have hmo : v0.cnt ≠ 1 → 1 ≤ s ∧ s ≤ v0.whole ∧ (v0.cnt - 1) * s < v0.whole ∧ v0.whole ≤ v0.cnt * s := fun e => by
    obtain ⟨m1, m2, m3, m4, _⟩ := h0.more e
    rw [← hs] at m1 m2 m3 m4
    exact ⟨m1, m2, m3, m4⟩
  refine ⟨hc, ?_, fun b hb k hk o ho => ?_, fun b hb g hg => ?_⟩
  · rw [← hs]
    by_cases e : v0.cnt = 1
    · rw [hst e]; decide
    · have := hmo e; omega
  · obtain ⟨a1, a2, a3⟩ := hsz _ b hb
    obtain ⟨b1, b2, b3⟩ := hsz k o ho
    by_cases e : v0.cnt = 1
    · have := a2 e; have := b2 e; omega
    · have := (a3 e).1 (by omega); have := (b3 e).2; omega
  · obtain ⟨a1, a2, a3⟩ := hsz _ b hb
    unfold placeP
    by_cases e : v0.cnt = 1
    · rw [if_pos e]
      have := a2 e
      dsimp only
      omega
    · rw [if_neg e, ← hs]
      have := (a3 e).1 (by omega)
      obtain ⟨m1, m2, m3, m4⟩ := hmo e
      have hgs : (g : Int) * s ≤ (v0.cnt - 1) * s := Int.mul_le_mul_of_nonneg_right (by omega) (by omega)
      dsimp only
      generalize (g : Int) * s = x at hgs ⊢
      generalize (v0.cnt - 1) * s = y at hgs m3
      split <;> omega
theorem gather_fit (L : List (List Int)) (h : (gatherR getE volOf L).1 = 0) : Fit (gatherR getE volOf L).2.1 (gatherR getE volOf L).2.2 := by
  obtain ⟨h1, h2, _⟩ := gather_slots L h
  exact fit_of h1 h2
set_option maxHeartbeats 4000000 in
set_option maxRecDepth 100000 in
theorem join_bad (A : Option Addr) (cl nl : Nat) (w : World) (er : Int) (he : (er != 0) = true)
    (hg : Calls Try.prog 69 #[.slice A nl cl] w fun e w' => Below w.heap.size w w' ∧ e = .returned (.tuple #[.pointer none, .int .i64 er])) :
    Calls Try.prog 40 #[.slice A nl cl] w fun e w' => ∃ v, e = .returned (.tuple #[v, .int .i64 er]) ∧ Kd.R (Kd.int .u8) 5 w' w.heap.size (fun _ => True) v ([] : List Int) ∧ Below w.heap.size w w' := by
  have HG := Aside0.mk hg
  clear hg
  go_enter Try.func40, Try.ntmps40
  go_wp2_with (go_at_call 69; refine HG.out.mono ?_; rintro e w1 ⟨hb, rfl⟩; have HB := Aside0.mk hb; clear hb)
  go_ret2
  exact ⟨_, rfl, Kd.R_nil _ _ _ _ _, by repeat (first | exact HB.out | apply below_alloc | apply pw_below_drewN | apply below_drew1)⟩
theorem join_calls (A : Option Addr) (c : Nat) (L : List (List Int)) (w : World) (hr : Kd.C (Kd.slice 5 (Kd.int .u8)) w A L.length L) (H0 : (gatherR getE volOf L).1 = 0 ∨ L = []) (hc : L.length ≤ c) (hL : ∀ b ∈ L, b.length ≤ 100000000 ∧ ∀ q ∈ b, 0 ≤ q ∧ q < 256) (hn : L.length ≤ 1000000000) :
    Calls Try.prog 40 #[.slice A L.length c] w fun e w' => ∃ v, e = .returned (.tuple #[v, .int .i64 (joinR L).2]) ∧ Kd.R (Kd.int .u8) 5 w' w.heap.size (fun _ => True) v (joinR L).1 ∧ Below w.heap.size w w' := by
  have hg := gatherV_calls A c L w hr H0 hc hL hn
  unfold joinR
  by_cases h : (gatherR getE volOf L).1 = 0
  · rw [if_pos h]
    exact join_ok A c L.length w _ _ (gather_fit L h) (hg.mono fun e w' ⟨h1, _, h3⟩ => ⟨h1, h3 h⟩)
  · rw [if_neg h]
    exact join_bad A c L.length w _ (by simpa using h) (hg.mono fun e w' ⟨h1, h2, _⟩ => ⟨h1, h2 h⟩)
/-- Lists that may be handed to Join. -/
def lawful (L : List (List Int)) : Bool := (L.all fun b => isByte b && decide (b.length ≤ 100000000)) && decide (L.length ≤ 1000000000)
theorem lawful_iff (L : List (List Int)) : lawful L = true ↔ (∀ b ∈ L, isByte b = true ∧ b.length ≤ 100000000) ∧ L.length ≤ 1000000000 := by
  unfold lawful
  rw [Bool.and_eq_true, List.all_eq_true, decide_eq_true_eq]
  refine and_congr ?_ Iff.rfl
  refine forall_congr' fun b => forall_congr' fun _ => ?_
  rw [Bool.and_eq_true, decide_eq_true_eq]
def volumes_Join.f (l0 : List (List Int)) : Option (List Int × Int) := if lawful l0 = true ∧ ((gatherR getE volOf l0).1 = 0 ∨ l0 = []) then some (joinR l0) else none
theorem volumes_Join.calls (A0 : Option Addr) (c0 : Nat) (l0 : List (List Int)) (r1 : List Int) (r2 : Int) (w : World) (hr0 : Kd.C (Kd.slice 5 (Kd.int .u8)) w A0 l0.length l0) (hc0 : l0.length ≤ c0) (h : volumes_Join.f l0 = some (r1, r2)) :
    Calls Try.prog 40 #[.slice A0 l0.length c0] w fun e w' => ∃ v0_ : Value, e = .returned (.tuple #[v0_, .int .i64 r2]) ∧ Kd.R (Kd.int .u8) 5 w' w.heap.size (fun _ => True) v0_ r1 ∧ Below w.heap.size w w' := by
  unfold volumes_Join.f at h
  by_cases c : lawful l0 = true ∧ ((gatherR getE volOf l0).1 = 0 ∨ l0 = [])
  · rw [if_pos c] at h
    injection h with h
    obtain ⟨q1, q2⟩ := (lawful_iff l0).1 c.1
    have hj := join_calls A0 c0 l0 w hr0 c.2 hc0 (fun b hb => ⟨(q1 b hb).2, (isByte_iff b).1 (q1 b hb).1⟩) q2
    rw [h] at hj
    exact hj
  · rw [if_neg c] at h; exact absurd h (by simp)
end Go.Proofs.Ytnkcbkfccbfjpaa.Z
/- The document's Cut (f16), where it refuses. -/
namespace Go.Proofs.Ytnkcbkfccbfjpaa.Z
open Go.RowKit Go.Proofs.Ytnkcbkfccbfjpaa.QVolumesCuts Go.Proofs.YtnkcbkfccbfjpaaW.PrintWords Go.Proofs.YtnkcbkfccbfjpaaW.PrintLast Go.Proofs.YtnkcbkfccbfjpaaW.PrintMore
set_option linter.unusedVariables false
set_option linter.unusedSimpArgs false
def satchelref27_Cut.f (k : Nat) (l0 : List Int) (a1 : Int) (a2 : Int) (a3 : Bool) : Option (List (List Int) × Int) :=
  if a1 < 65 then some ([], 1) else if (l0.length : Int) > 4194304 then none else (satchelref27_count.f (l0.length : Int) (wrap64 (a1 - 64))).bind fun t => if t > 1000 then some ([], 2) else none
set_option maxHeartbeats 4000000 in
set_option maxRecDepth 100000 in
theorem satchelref27_Cut.calls (k : Nat) (A0 : Option Addr) (c0 : Nat) (l0 : List Int) (a1 : Int) (a2 : Int) (a3 : Bool) (r1 : List (List Int)) (r2 : Int) (w : World) (hr0 : Kd.C (Kd.int .u8) w A0 l0.length l0) (hc0 : l0.length ≤ c0) (h : satchelref27_Cut.f k l0 a1 a2 a3 = some (r1, r2)) :
    Calls Try.prog 16 #[.slice A0 l0.length c0, .int .i64 a1, .int .u64 a2, .bool a3] w fun e w' => ∃ v0_ : Value, e = .returned (.tuple #[v0_, .int .i64 r2]) ∧ Kd.S (Kd.slice 5 (Kd.int .u8)) 22 w' w.heap.size (fun _ => True) v0_ r1 ∧ Below w.heap.size w w' := by
  have HB := Aside0.mk (Below.refl w.heap.size w)
  unfold satchelref27_Cut.f at h
  by_cases c1 : a1 < 65
  · rw [if_pos c1] at h
    injection h with h
    injection h with h1 h2
    subst h1 h2
    have d1 : decide (a1 < 65) = true := decide_eq_true c1
    clear c1 hr0 hc0
    go_enter Try.func16, Try.ntmps16
    go_wp2
    go_ret2
    exact ⟨_, rfl, Kd.S_nil _ _ _ _ _, HB.out⟩
  · rw [if_neg c1] at h
    have d1 : decide (a1 < 65) = false := decide_eq_false c1
    by_cases c2 : (l0.length : Int) > 4194304
    · rw [if_pos c2] at h; exact absurd h (by simp)
    · rw [if_neg c2] at h
      have d2 : decide (4194304 < (l0.length : Int)) = false := decide_eq_false c2
      have d2' : decide (4194304 < l0.length) = false := decide_eq_false (by omega)
      cases hn : satchelref27_count.f (l0.length : Int) (wrap64 (a1 - 64)) with
      | none => rw [hn] at h; exact absurd h (by simp)
      | some t =>
        rw [hn, Option.bind_some] at h
        by_cases c3 : t > 1000
        · rw [if_pos c3] at h
          injection h with h
          injection h with h1 h2
          subst h1 h2
          have d3 : decide (1000 < t) = true := decide_eq_true c3
          have HC := Aside0.mk (fun W : World => satchelref27_count.calls _ _ _ W hn)
          clear hn c1 c2 c3 hr0 hc0
          go_enter Try.func16, Try.ntmps16
          go_wp2_with (go_at_call 48; refine (HC.out _).mono ?_; rintro e w' ⟨rfl, ⟨m, rfl⟩⟩)
          go_ret2
          exact ⟨_, rfl, Kd.S_nil _ _ _ _ _, by repeat (first | exact HB.out | apply below_alloc | apply pw_below_drewN | apply below_drew1)⟩
        · rw [if_neg c3] at h; exact absurd h (by simp)
end Go.Proofs.Ytnkcbkfccbfjpaa.Z
/- The walk of VolumesJoined (most of it printed by a program of the kit's, turned to contracts of mine). -/

namespace Go.Proofs.Ytnkcbkfccbfjpaa.SVolumesJoined
open Go.RowKit Go.Proofs.YtnkcbkfccbfjpaaW.PrintWords Go.Proofs.YtnkcbkfccbfjpaaW.PrintLast Go.Proofs.YtnkcbkfccbfjpaaW.PrintMore
open Go.Proofs.Ytnkcbkfccbfjpaa.QVolumesCuts
open Go.Proofs.Ytnkcbkfccbfjpaa.Z
attribute [local go_sem] max2_int min2_int max_two min_two max_three min_three max_four min_four   -- for this text's walks alone
set_option linter.unusedVariables false
set_option linter.unusedSimpArgs false

/-! ### satchellaw27_copies: function 39 -/
def satchellaw27_copies.l0 : Nat → List (List Int) → List (List Int) → Int → Option ((List (List Int)))
  | 0, _, _, _ => none
  | k + 1, x0, x3, x4 => if x4 < (x0.length : Int) then ((some (([] : List Int) : List Int)).bind fun y330 => (if 0 ≤ x4 then (if y330.length + (rd_L1 x0 x4).length < 140737488355328 then (if x3.length < 5864062014805 then (satchellaw27_copies.l0 k x0 (x3 ++ [(y330 ++ (rd_L1 x0 x4))]) (wrap64 (x4 + 1))) else (none)) else (none)) else (none))) else (some x3)
def satchellaw27_copies.f (k : Nat) (l0 : List (List Int)) : Option ((List (List Int))) := satchellaw27_copies.l0 k l0 (([] : List (List Int))) 0
set_option maxHeartbeats 8000000 in
set_option maxRecDepth 100000 in
theorem satchellaw27_copies.calls (k : Nat) (A0 : Option Addr) (c0 : Nat) (l0 : List (List Int)) (r : List (List Int)) (w : World) (hr0 : Kd.C (Kd.slice 5 (Kd.int .u8)) w A0 l0.length l0) (hc0 : l0.length ≤ c0) (h : satchellaw27_copies.f k l0 = some r) :
    Calls Try.prog 39 #[.slice A0 l0.length c0] w fun e w' => ∃ v0_ : Value, e = .returned (v0_) ∧ Kd.S (Kd.slice 5 (Kd.int .u8)) 22 w' w.heap.size (fun _ => True) v0_ r ∧ Below w.heap.size w w' := by
  have HR0 := Aside0.mk hr0
  have HC0 := Aside0.mk hc0
  clear hr0 hc0
  have HB := Aside0.mk (Below.refl w.heap.size w)
  have H : (satchellaw27_copies.l0 k l0 (([] : List (List Int))) 0) = some r := h
  clear h
  obtain ⟨y327, hy327⟩ : ∃ y_ : List (List Int), y_ = (([] : List (List Int))) := ⟨_, rfl⟩
  replace H : (satchellaw27_copies.l0 k l0 y327 0) = some r := by first | (rw [hy327]; with_reducible exact H) | (have H2_ := (Option.bind_some _ _).symm.trans H; rw [hy327]; with_reducible exact H2_) | (have H2_ := (Option.bind_some _ _).symm.trans H; with_reducible exact H2_) | with_reducible exact H | (rw [hy327]; exact H) | exact H
  have Ny327 := Aside0.mk hy327
  clear hy327
  have H' := Aside0.mk H
  clear H
  go_enter Try.func39, Try.ntmps39
  go_wp2_with (first | ((with_reducible refine gate_dst (N := 5) rfl ?_); refine Kd.S_lit (Kd.slice 5 (Kd.int .u8)) _ 22 ?hg (N := 5) ?hd (xs := ([] : List (List Int))) (inner := []) (ok := fun _ => True) (okp := fun _ => True) ?hr ?hp (fun _ hk => hk) trivial (Below.refl _ _) (Nat.le_refl _) (by simp) ?_; (case hd => rfl); (case hg => rfl); (case hr => first | (go_simp; done) | (go_simp; rfl)); (case hp => exact (Reps.none _ _)); intro v328 w2 ho3 hb hg_ hnew_; clear hg_ hnew_; (first | rw [← Ny327.out] at ho3 | (simp only [Int.reduceToNat] at ho3; rw [← Ny327.out] at ho3)); have n0_ := Aside0.mk (Kd.S_lower ho3 (below_size (by repeat (first | (with_reducible first | exact HB.out | apply below_alloc | apply pw_below_drewN | apply below_drew1) | exact HB.out)))); have n1_ := Aside0.mk (below_step (by repeat (first | (with_reducible first | exact HB.out | apply below_alloc | apply pw_below_drewN | apply below_drew1) | exact HB.out)) hb); clear HB; have HO329 := n0_; have HB := n1_; clear n0_ n1_; clear hb ho3))
  go_loopg [3, 4] k (fun kq v3 v4 w' => ∃ (x3_1 : List (List Int)) (x4_1 : Int), v4 = .int .i64 x4_1 ∧ Aside0 (satchellaw27_copies.l0 kq l0 x3_1 x4_1 = some r) ∧ Aside0 (kq ≤ k) ∧ Aside0 (Kd.S (Kd.slice 5 (Kd.int .u8)) 22 w' w.heap.size (fun _ => True) v3 x3_1) ∧ Aside0 (Below w.heap.size w w'))
  case atStart => exact ⟨(y327), (0), (by first | rfl | (simp; done) | (simp [*]; done)), H', ⟨Nat.le_refl _⟩, ⟨by (with_reducible repeat (first | apply Kd.S_alloc | apply Kd.S_drewN | apply Kd.S_drew)); exact HO329.out⟩, ⟨by repeat (first | (with_reducible first | exact HB.out | apply below_alloc | apply pw_below_drewN | apply below_drew1) | exact HB.out)⟩⟩
  case round =>
    clear H'
    try clear p2
    try clear c3
    obtain ⟨x3_1, x4_1, rfl, HA, HK1, HO_3, HB⟩ := hrel
    cases gk with
    | zero => exact absurd HA.out (by simp [satchellaw27_copies.l0])
    | succ k1 =>
      have H := HA.out
      clear HA
      simp only [satchellaw27_copies.l0] at H
      by_cases c4 : x4_1 < (l0.length : Int)
      · rw [if_pos c4] at H
        have c4b0 : decide (x4_1 < (l0.length : Int)) = true := decide_eq_true c4
        clear c4
        obtain ⟨y330, hy330⟩ : ∃ y_ : List Int, y_ = (([] : List Int)) := ⟨_, rfl⟩
        replace H : (if 0 ≤ x4_1 then (if y330.length + (rd_L1 l0 x4_1).length < 140737488355328 then (if x3_1.length < 5864062014805 then (satchellaw27_copies.l0 k1 l0 (x3_1 ++ [(y330 ++ (rd_L1 l0 x4_1))]) (wrap64 (x4_1 + 1))) else (none)) else (none)) else (none)) = some r := by first | (rw [hy330]; with_reducible exact H) | (have H2_ := (Option.bind_some _ _).symm.trans H; rw [hy330]; with_reducible exact H2_) | (have H2_ := (Option.bind_some _ _).symm.trans H; with_reducible exact H2_) | with_reducible exact H | (rw [hy330]; exact H) | exact H
        have Ny330 := Aside0.mk hy330
        clear hy330
        by_cases c5 : 0 ≤ x4_1
        · rw [if_pos c5] at H
          have c5b0 : decide (0 ≤ x4_1) = true := decide_eq_true c5
          clear c5
          by_cases c6 : y330.length + (rd_L1 l0 x4_1).length < 140737488355328
          · rw [if_pos c6] at H
            have LMc6 := Aside0.mk c6
            clear c6
            obtain ⟨y334, hy334⟩ : ∃ y_ : List Int, y_ = (y330 ++ (rd_L1 l0 x4_1)) := ⟨_, rfl⟩
            replace H : (if x3_1.length < 5864062014805 then (satchellaw27_copies.l0 k1 l0 (x3_1 ++ [y334]) (wrap64 (x4_1 + 1))) else (none)) = some r := by first | (rw [hy334]; with_reducible exact H) | (have H2_ := (Option.bind_some _ _).symm.trans H; rw [hy334]; with_reducible exact H2_) | (have H2_ := (Option.bind_some _ _).symm.trans H; with_reducible exact H2_) | with_reducible exact H | (rw [hy334]; exact H) | exact H
            have Ny334 := Aside0.mk hy334
            clear hy334
            by_cases c7 : x3_1.length < 5864062014805
            · rw [if_pos c7] at H
              have LMc7 := Aside0.mk c7
              clear c7
              obtain ⟨y337, hy337⟩ : ∃ y_ : List (List Int), y_ = (x3_1 ++ [y334]) := ⟨_, rfl⟩
              replace H : (satchellaw27_copies.l0 k1 l0 y337 (wrap64 (x4_1 + 1))) = some r := by first | (rw [hy337]; with_reducible exact H) | (have H2_ := (Option.bind_some _ _).symm.trans H; rw [hy337]; with_reducible exact H2_) | (have H2_ := (Option.bind_some _ _).symm.trans H; with_reducible exact H2_) | with_reducible exact H | (rw [hy337]; exact H) | exact H
              have Ny337 := Aside0.mk hy337
              clear hy337
              have H' := Aside0.mk H
              clear H
              go_wp2_with (first | ((with_reducible refine gate_dst (N := 13) rfl ?_); refine Kd.R_lit (Kd.int .u8) _ 5 ?hg (N := 13) ?hd (xs := ([] : List Int)) (inner := []) (ok := fun _ => True) (okp := fun _ => True) ?hr ?hp (fun _ hk => hk) trivial (Below.refl _ _) (Nat.le_refl _) (by simp) ?_; (case hd => rfl); (case hg => rfl); (case hr => first | (go_simp; done) | (go_simp; rfl)); (case hp => exact (Reps.none _ _)); intro v331 w8 ho9 hb hg_ hnew_; clear hg_ hnew_; (first | rw [← Ny330.out] at ho9 | (simp only [Int.reduceToNat] at ho9; rw [← Ny330.out] at ho9)); have n0_ := Aside0.mk (Kd.S_elder' (by (with_reducible repeat (first | apply Kd.S_alloc | apply Kd.S_drewN | apply Kd.S_drew)); exact HO_3.out) (Kd.R_base ho9) hb); have n1_ := Aside0.mk (Kd.R_lower ho9 (below_size (by repeat (first | (with_reducible first | exact HB.out | apply below_alloc | apply pw_below_drewN | apply below_drew1) | exact HB.out)))); have n2_ := Aside0.mk (below_step (by repeat (first | (with_reducible first | exact HB.out | apply below_alloc | apply pw_below_drewN | apply below_drew1) | exact HB.out)) hb); clear HO_3; clear HB; have HO_3 := n0_; have HO332 := n1_; have HB := n2_; clear n0_ n1_ n2_; clear hb ho9; have p333 : 0 ≤ (x4_1 : Int) := of_decide_eq_true (by first | (with_reducible assumption) | assumption); have q333 : x4_1 < (l0.length : Int) := of_decide_eq_true (by first | (with_reducible assumption) | assumption); obtain ⟨ad333, A333_0, c333_0, e333, hx333_0, hl333_0, hi333_0⟩ := at_L1 HR0.out x4_1 p333 q333; cases e333; replace hx333_0 := (HB.out.cell (World.block_lt_of_cell? w _ hx333_0)).trans hx333_0; have HR333_0 := Aside0.mk hi333_0; have HC333_0 := Aside0.mk hl333_0; clear hi333_0 hl333_0; replace p333 := eq_true p333; replace q333 := eq_true q333) | ((with_reducible refine gate_builtin (b := .append) (xs := #[.tmp 13, .tmp 17]) rfl ?_); at_builtin; refine Kd.R_append_rows (Kd.int .u8) (w0 := w) w.heap.size rfl (.tmp 13) (.tmp 17) 22 5 (.int .u8 0) 1 rfl Try.underlying22 info5 rfl (by decide) (by omega) v331 y330 (rd_L1 l0 x4_1) _ _ _ (fun _ => True) (fun _ => False) rfl rfl ?aO ?aR (fun _ _ h => h) (fun _ h => h.elim) ?aF ?aB ?aS ?aL ?_; (case aR => repeat (first | exact (Kd.C_below HR333_0.out HB.out) | (with_reducible refine Kd.C_alloc ?_ _) | (with_reducible refine Kd.C_drewN ?_ _) | (with_reducible refine Kd.C_drew ?_))); (case aB => exact (by repeat (first | (with_reducible first | exact HB.out | apply below_alloc | apply pw_below_drewN | apply below_drew1) | exact HB.out))); (case aF => exact (fun _ _ => trivial)); (case aO => exact (by (with_reducible repeat (first | apply Kd.R_alloc | apply Kd.R_drewN | apply Kd.R_drew)); exact HO332.out)); (case aS => exact (below_size (by repeat (first | (with_reducible first | exact HB.out | apply below_alloc | apply pw_below_drewN | apply below_drew1) | exact HB.out)))); (case aL => have := LMc6.out; omega); intro v335 w10 ho hb hg hat; rw [← Ny334.out] at ho; have n0_ := Aside0.mk (Kd.S_after (ok := (fun _ => True)) (by (with_reducible repeat (first | apply Kd.S_alloc | apply Kd.S_drewN | apply Kd.S_drew)); exact HO_3.out) hg hat); have n1_ := Aside0.mk (hb); have n2_ := Aside0.mk (ho); clear HO_3; clear HB; clear HO332; have HO_3 := n0_; have HB := n1_; have HO336 := n2_; clear n0_ n1_ n2_; clear ho hb hg hat; obtain ⟨Ao12, co12, eo12⟩ := Kd.R_slice HO336.out; subst eo12) | ((with_reducible refine gate_builtin (b := .append) (xs := #[.tmp 12, .tmp 19]) rfl ?_); at_builtin; refine Kd.S_append (Kd.slice 5 (Kd.int .u8)) (w0 := w) w.heap.size rfl (.tmp 12) (.tmp 19) 28 22 (.slice none 0 0) 24 rfl Try.underlying28 info22 rfl (by decide) (by omega) u3 x3_1 y334 [.slice Ao12 y334.length co12] (fun _ => True) (fun k_ => some k_ = (.slice Ao12 y334.length co12 : Value).ownBlock) rfl rfl ?aP (fun k_ hk_ => ((Kd.R_mono (ok' := fun k_ => ((fun _ => True)) k_ ∧ some k_ ≠ (u3 : Value).ownBlock) (Kd.R_apart' (HO336.out) (Kd.S_typed HO_3.out) (by decide)) (fun k_ hk => ⟨trivial, hk.2⟩))).1 k_ hk_.symm) ?aF ?aO ?aB ?aS ?aL ?_; (case aP => exact Kd.M_row (Kd.R_mono (Kd.R_tight rfl (Kd.R_mono (ok' := fun k_ => ((fun _ => True)) k_ ∧ some k_ ≠ (u3 : Value).ownBlock) (Kd.R_apart' (HO336.out) (Kd.S_typed HO_3.out) (by decide)) (fun k_ hk => ⟨trivial, hk.2⟩))) (fun _ h_ => h_))); (case aB => exact (by repeat (first | (with_reducible first | exact HB.out | apply below_alloc | apply pw_below_drewN | apply below_drew1) | exact HB.out))); (case aF => exact (fun _ _ => trivial)); (case aO => exact (by (with_reducible repeat (first | apply Kd.S_alloc | apply Kd.S_drewN | apply Kd.S_drew)); exact Kd.S_mono HO_3.out (fun k_ hk => ⟨trivial, fun e_ => hk.2 e_⟩))); (case aS => exact (below_size (by repeat (first | (with_reducible first | exact HB.out | apply below_alloc | apply pw_below_drewN | apply below_drew1) | exact HB.out)))); (case aL => have := LMc7.out; omega); intro v338 w11 ho hb hg hat; rw [← Ny337.out] at ho; have n0_ := Aside0.mk (hb); have n1_ := Aside0.mk (ho); clear HB; clear HO_3; clear HO336; have HB := n0_; have HO339 := n1_; clear n0_ n1_; clear ho hb hg hat))
              go_roundg k1
              case measure => have := HK1.out; omega
              case rel => exact ⟨(y337), (wrap64 (x4_1 + 1)), (by first | rfl | (simp; done) | (simp [*]; done)), H', ⟨by have := HK1.out; omega⟩, ⟨by (with_reducible repeat (first | apply Kd.S_alloc | apply Kd.S_drewN | apply Kd.S_drew)); exact HO339.out⟩, ⟨by repeat (first | (with_reducible first | exact HB.out | apply below_alloc | apply pw_below_drewN | apply below_drew1) | exact HB.out)⟩⟩
            · rw [if_neg c7] at H
              exact absurd H (by simp)
          · rw [if_neg c6] at H
            exact absurd H (by simp)
        · rw [if_neg c5] at H
          exact absurd H (by simp)
      · rw [if_neg c4] at H
        have c4b0 : decide (x4_1 < (l0.length : Int)) = false := decide_eq_false c4
        clear c4
        obtain rfl := Option.some.inj H
        go_wp2
        go_ret
        exact ⟨_, by first | rfl | (simp [errW_none, errW_some] <;> rfl) | (simp [*, errW_none, errW_some] <;> rfl), by (with_reducible repeat (first | apply Kd.S_alloc | apply Kd.S_drewN | apply Kd.S_drew)); exact HO_3.out, by repeat (first | (with_reducible first | exact HB.out | apply below_alloc | apply pw_below_drewN | apply below_drew1) | exact HB.out)⟩

/-! ### satchellaw27_VolumesJoined: function 11 -/
mutual
def satchellaw27_VolumesJoined.l0 : Nat → List Int → Int → List (List Int) → List (List Int) → Int → List Int → Int → Int → Bool → Option (Bool)
  | 0, _, _, _, _, _, _, _, _, _ => none
  | k + 1, x1, x2, x7, x11, x12, x415000, x415001, x415002, x415003 => if x12 < (x1.length : Int) then (if 0 ≤ x12 then (if (x7.length : Int) = 0 then (none) else (if (Int.tmod (rd x1 x12) (x7.length : Int)) < 0 then ((some (([] : List Int) : List Int)).bind fun y433 => (if 0 ≤ (wrap64 ((Int.tmod (rd x1 x12) (x7.length : Int)) + (x7.length : Int))) then (if (wrap64 ((Int.tmod (rd x1 x12) (x7.length : Int)) + (x7.length : Int))) < (x7.length : Int) then (if y433.length + (rd_L1 x7 (wrap64 ((Int.tmod (rd x1 x12) (x7.length : Int)) + (x7.length : Int)))).length < 140737488355328 then ((some (([(y433 ++ (rd_L1 x7 (wrap64 ((Int.tmod (rd x1 x12) (x7.length : Int)) + (x7.length : Int)))))] : List (List Int)) : List (List Int))).bind fun y440 => (if y440.length + x11.length < 5864062014805 then (satchellaw27_VolumesJoined.l0 k x1 x2 x7 (y440 ++ x11) (wrap64 (x12 + 1)) x415000 x415001 x415002 x415003) else (none))) else (none)) else (none)) else (none))) else ((some (([] : List Int) : List Int)).bind fun y446 => (if 0 ≤ (Int.tmod (rd x1 x12) (x7.length : Int)) then (if (Int.tmod (rd x1 x12) (x7.length : Int)) < (x7.length : Int) then (if y446.length + (rd_L1 x7 (Int.tmod (rd x1 x12) (x7.length : Int))).length < 140737488355328 then ((some (([(y446 ++ (rd_L1 x7 (Int.tmod (rd x1 x12) (x7.length : Int))))] : List (List Int)) : List (List Int))).bind fun y453 => (if y453.length + x11.length < 5864062014805 then (satchellaw27_VolumesJoined.l0 k x1 x2 x7 (y453 ++ x11) (wrap64 (x12 + 1)) x415000 x415001 x415002 x415003) else (none))) else (none)) else (none)) else (none))))) else (none)) else ((volumes_Join.f x11).bind fun bt459 => (if bt459.2 = 0 then ((satchellaw27_same.f k bt459.1 x415000).bind fun t463 => (satchellaw27_VolumesJoined.j1 k x2 x7 (!t463) x415000 x415001 x415002 x415003)) else (satchellaw27_VolumesJoined.j1 k x2 x7 true x415000 x415001 x415002 x415003)))
def satchellaw27_VolumesJoined.j1 : Nat → Int → List (List Int) → Bool → List Int → Int → Int → Bool → Option (Bool)
  | 0, _, _, _, _, _, _, _ => none
  | k + 1, x2, x7, x101, x415000, x415001, x415002, x415003 => if x101 = true then (some false) else (if (x7.length : Int) = 0 then (none) else (if (Int.tmod x2 (x7.length : Int)) < 0 then (satchellaw27_VolumesJoined.j2 k x7 (wrap64 ((Int.tmod x2 (x7.length : Int)) + (x7.length : Int))) x415000 x415001 x415002 x415003) else (satchellaw27_VolumesJoined.j2 k x7 (Int.tmod x2 (x7.length : Int)) x415000 x415001 x415002 x415003)))
def satchellaw27_VolumesJoined.j2 : Nat → List (List Int) → Int → List Int → Int → Int → Bool → Option (Bool)
  | 0, _, _, _, _, _, _ => none
  | k + 1, x7, x16, x415000, x415001, x415002, x415003 => if 0 ≤ x16 then (if x16 ≤ (x7.length : Int) then ((satchellaw27_copies.f k (x7.take (x16 : Int).toNat)).bind fun t469 => (if 0 ≤ (wrap64 (x16 + 1)) then (if (wrap64 (x16 + 1)) ≤ (x7.length : Int) then ((satchellaw27_copies.f k (x7.drop ((wrap64 (x16 + 1)) : Int).toNat)).bind fun t477 => (if t469.length + t477.length < 5864062014805 then ((some (t469 ++ t477 : List (List Int))).bind fun y480 => ((volumes_Join.f y480).bind fun bt483 => (if x415003 = true then (if bt483.2 = 0 then ((satchellaw27_same.f k bt483.1 x415000).bind fun t487 => (if t487 = true then (satchellaw27_VolumesJoined.j3 k x16 y480 false x415000 x415001 x415002 x415003) else (satchellaw27_VolumesJoined.j3 k x16 y480 true x415000 x415001 x415002 x415003))) else (satchellaw27_VolumesJoined.j3 k x16 y480 true x415000 x415001 x415002 x415003)) else (satchellaw27_VolumesJoined.j3 k x16 y480 (bt483.2 != 272) x415000 x415001 x415002 x415003)))) else (none))) else (none)) else (none))) else (none)) else (none)
def satchellaw27_VolumesJoined.j3 : Nat → Int → List (List Int) → Bool → List Int → Int → Int → Bool → Option (Bool)
  | 0, _, _, _, _, _, _, _ => none
  | k + 1, x16, x17, x148, x415000, x415001, x415002, x415003 => if x148 = true then (some false) else (if (x17.length : Int) < 2 then (satchellaw27_VolumesJoined.j4 k x16 x17 true) else (satchellaw27_VolumesJoined.j4 k x16 x17 (!x415003)))
def satchellaw27_VolumesJoined.j4 : Nat → Int → List (List Int) → Bool → Option (Bool)
  | 0, _, _, _ => none
  | k + 1, x16, x17, x156 => if x156 = true then (some true) else (if (x17.length : Int) = 0 then (none) else (if 0 ≤ (Int.tmod x16 (x17.length : Int)) then (if (Int.tmod x16 (x17.length : Int)) ≤ (x17.length : Int) then ((satchellaw27_copies.f k (x17.take ((Int.tmod x16 (x17.length : Int)) : Int).toNat)).bind fun t493 => (if 0 ≤ (wrap64 ((Int.tmod x16 (x17.length : Int)) + 1)) then (if (wrap64 ((Int.tmod x16 (x17.length : Int)) + 1)) ≤ (x17.length : Int) then ((satchellaw27_copies.f k (x17.drop ((wrap64 ((Int.tmod x16 (x17.length : Int)) + 1)) : Int).toNat)).bind fun t501 => (if t493.length + t501.length < 5864062014805 then ((volumes_Join.f (t493 ++ t501)).bind fun bt507 => (if bt507.2 = 272 then (some ((bt507.1.length : Int) == 0)) else (some false))) else (none))) else (none)) else (none))) else (none)) else (none)))
end
def satchellaw27_VolumesJoined.f (k : Nat) (l0_0 : List Int) (a0_1 : Int) (a0_2 : Int) (a0_3 : Bool) (l1 : List Int) (a2 : Int) : Option (Bool) := (some (([] : List Int) : List Int)).bind fun y415 => (if y415.length + l0_0.length < 140737488355328 then ((volumes_Cut.f k (y415 ++ l0_0) a0_1 a0_2 a0_3).bind fun bt421 => (if bt421.2 = 0 then (if (bt421.1.length : Int) = 0 then (some false) else ((satchellaw27_copies.f k bt421.1).bind fun t429 => (satchellaw27_VolumesJoined.l0 k l1 a2 bt421.1 t429 0 l0_0 a0_1 a0_2 a0_3))) else ((satchelref27_Cut.f k l0_0 a0_1 a0_2 a0_3).bind fun bt425 => (if bt425.2 = bt421.2 then (some ((bt421.1.length : Int) == 0)) else (some false))))) else (none))
def satchellaw27_VolumesJoined.T1 : Bool × List (List Nat × List Nat) := (true, [([], []), ([], []), ([1], [1]), ([0, 2], [0, 2]), ([], []), ([4], [4]), ([], []), ([6], [6]), ([], []), ([8], [8]), ([3, 5, 7, 9, 3], [3, 5, 7, 9]), ([10], [10]), ([11], [11]), ([11], [11]), ([12, 10, 0, 1, 2, 3, 4, 5, 6, 7, 8, 9, 10, 11, 12], [12]), ([13, 14, 0, 1, 2, 3, 4, 5, 6, 7, 8, 9, 10, 11, 12, 13, 14], [13])])
def satchellaw27_VolumesJoined.B1 : List Nat := [0, 0, 2, 7, 0, 16, 0, 64, 0, 256, 1023, 2047, 4095, 4095, 8191, 32767]
theorem satchellaw27_VolumesJoined.tab1 : rtab .any (opsOf Try.f11 1) = satchellaw27_VolumesJoined.T1 := by kernel_rfl
theorem satchellaw27_VolumesJoined.bits1 : waitsOk satchellaw27_VolumesJoined.T1.2 satchellaw27_VolumesJoined.B1 = true := by kernel_rfl
def satchellaw27_VolumesJoined.T21 : Bool × List (List Nat × List Nat) := (true, [([], []), ([], []), ([0, 1], [0, 1]), ([2], [2]), ([], []), ([], []), ([5], [5]), ([4, 6], [4, 6]), ([7, 3], [7]), ([3, 8, 8], [3, 8]), ([9, 9, 0, 1, 2, 3, 4, 5, 6, 7, 8, 9], [9])])
def satchellaw27_VolumesJoined.B21 : List Nat := [0, 0, 3, 7, 0, 0, 32, 112, 255, 511, 1023]
theorem satchellaw27_VolumesJoined.tab21 : rtab .any (opsOf Try.f11 21) = satchellaw27_VolumesJoined.T21 := by kernel_rfl
theorem satchellaw27_VolumesJoined.bits21 : waitsOk satchellaw27_VolumesJoined.T21.2 satchellaw27_VolumesJoined.B21 = true := by kernel_rfl
def satchellaw27_VolumesJoined.T28 : Bool × List (List Nat × List Nat) := (true, [([], []), ([], []), ([0, 1], [0, 1]), ([2], [2]), ([], []), ([], []), ([5], [5]), ([4, 6], [4, 6]), ([7, 3], [7]), ([3, 8, 8], [3, 8]), ([9, 9, 0, 1, 2, 3, 4, 5, 6, 7, 8, 9], [0, 4, 9])])
def satchellaw27_VolumesJoined.B28 : List Nat := [0, 0, 3, 7, 0, 0, 32, 112, 255, 511, 1023]
theorem satchellaw27_VolumesJoined.tab28 : rtab .any (opsOf Try.f11 28) = satchellaw27_VolumesJoined.T28 := by kernel_rfl
theorem satchellaw27_VolumesJoined.bits28 : waitsOk satchellaw27_VolumesJoined.T28.2 satchellaw27_VolumesJoined.B28 = true := by kernel_rfl

end Go.Proofs.Ytnkcbkfccbfjpaa.SVolumesJoined
