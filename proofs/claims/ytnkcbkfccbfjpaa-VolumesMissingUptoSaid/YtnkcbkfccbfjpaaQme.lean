/- Contracts and plain facts (texts of mine, and printed ones, made one; what nothing leads to is left out). -/
import Derived.Deep.QuietTactic
import Derived.BigQuiet
import Derived.OwnWalk
import Derived.Lib.SliceRun
import Derived.Test.YtnkcbkfccbfjpaaQmd
/- Volumes: gather (f69). -/

namespace Go.Proofs.Ytnkcbkfccbfjpaa.Z
open Go.RowKit Go.Proofs.Ytnkcbkfccbfjpaa.XxhW Go.Proofs.Ytnkcbkfccbfjpaa.QVolumesCuts Go.Proofs.YtnkcbkfccbfjpaaW.PrintWords Go.Proofs.YtnkcbkfccbfjpaaW.PrintLast Go.Proofs.YtnkcbkfccbfjpaaW.PrintMore
set_option linter.unusedVariables false
set_option linter.unusedSimpArgs false
/-- The first loop: volumes that have been read. -/
structure G1 (gE : List Int → Int) (vO : List Int → Vol) (L : List (List Int)) (w W : World) (v : Value) (i : Nat) : Prop where
  bel : Below w.heap.size w W
  row : ∃ cs, Kd.R kV 88 W w.heap.size (fun _ => True) v cs ∧ cs.map VolC.v = (L.take i).map vO ∧ Views w cs
  good : ∀ b ∈ L.take i, gE b = 0
theorem G1.below {gE : List Int → Int} {vO : List Int → Vol} {L : List (List Int)} {w W W' : World} {v : Value} {i : Nat} (h : G1 gE vO L w W v i) (hb : Below W.heap.size W W') : G1 gE vO L w W' v i := by
  obtain ⟨cs, h1, h2, h3⟩ := h.row
  exact ⟨below_step h.bel hb, ⟨cs, Kd.R_below h1 hb, h2, h3⟩, h.good⟩
theorem G1.snoc {gE : List Int → Int} {vO : List Int → Vol} {L : List (List Int)} {w W' : World} {v' : Value} {i : Nat} {cs : List VolC} {x : VolC} (hi : i < L.length) (h2 : cs.map VolC.v = (L.take i).map vO) (h3 : Views w cs) (hg : ∀ b ∈ L.take i, gE b = 0)
    (hx : x.v = vO (L.getD i [])) (hv : ReadsInt w .u8 x.A x.v.b.length x.v.b ∧ x.v.b.length ≤ x.c ∧ x.v.b.length ≤ 100000000 ∧ ∀ q ∈ x.v.b, 0 ≤ q ∧ q < 256) (he : gE (L.getD i []) = 0) (hb : Below w.heap.size w W') (hr : Kd.R kV 88 W' w.heap.size (fun _ => True) v' (cs ++ [x])) : G1 gE vO L w W' v' (i + 1) := by
  have ht : L.take (i + 1) = L.take i ++ [L.getD i []] := by rw [List.take_succ_eq_append_getElem hi, List.getD_eq_getElem?_getD, List.getElem?_eq_getElem hi]; rfl
  refine ⟨hb, ⟨_, hr, ?_, fun y hy => ?_⟩, fun b hbm => ?_⟩
  · rw [List.map_append, h2, ht, List.map_append, List.map_singleton, List.map_singleton, hx]
  · rcases List.mem_append.1 hy with hy | hy
    · exact h3 y hy
    · rw [List.mem_singleton.1 hy]; exact hv
  · rw [ht] at hbm
    rcases List.mem_append.1 hbm with hbm | hbm
    · exact hg b hbm
    · rw [List.mem_singleton.1 hbm]; exact he
/-- The second loop: the slots filled so far. -/
structure G2 (w W : World) (g4 c4 gl cl gw : Nat) (v0 : Vol) (cs : List VolC) (n i : Nat) (P : List (Option (List Int))) : Prop where
  bel : Below w.heap.size w W
  rowV : Kd.R kV 88 W w.heap.size (fun _ => True) (.slice (some ⟨g4, 0, none⟩) cs.length c4) cs
  blk : W.heap[gw]? = some (.cells #[.int .u64 v0.set, .int .i64 v0.num, .int .i64 v0.cnt, .bool v0.sp, .int .i64 v0.whole, .int .i64 v0.off, .int .i64 v0.size, .int .i64 (stepV v0), .slice (some ⟨gl, 0, none⟩) n cl] 119 (0, 0))
  rowP : ∃ ps, Kd.R kP 116 W w.heap.size (fun _ => True) (.slice (some ⟨gl, 0, none⟩) n cl) ps ∧
    ∀ k, k < n → (ps.getD k none = none ∧ slot P k = none) ∨ ∃ j, j < i ∧ ps.getD k none = some ⟨g4, j * 8, none⟩ ∧ slot P k = some (cs.getD j zVol).v.b
  len : P.length = n
  fill : fillAll v0 (cs.map VolC.v) (List.replicate n none) = fillAll v0 ((cs.drop i).map VolC.v) P
theorem G2.below {w W W' : World} {g4 c4 gl cl gw : Nat} {v0 : Vol} {cs : List VolC} {n i : Nat} {P : List (Option (List Int))} (h : G2 w W g4 c4 gl cl gw v0 cs n i P) (hb : Below W.heap.size W W') : G2 w W' g4 c4 gl cl gw v0 cs n i P := by
  obtain ⟨ps, h1, h2⟩ := h.rowP
  exact ⟨below_step h.bel hb, Kd.R_below h.rowV hb, (hb.block _ (blk_lt h.blk)).trans h.blk, ⟨ps, Kd.R_below h1 hb, h2⟩, h.len, h.fill⟩
theorem slot_set (P : List (Option (List Int))) (m k : Nat) (o : Option (List Int)) (hm : m < P.length) : slot (P.set m o) k = if k = m then o else slot P k := by
  unfold slot
  rw [List.getD_eq_getElem?_getD, List.getElem?_set]
  by_cases h : m = k
  · subst h
    rw [if_pos rfl, if_pos hm, if_pos rfl]; rfl
  · rw [if_neg h, if_neg (fun e => h e.symm), List.getD_eq_getElem?_getD]
theorem fill_next {v0 : Vol} {cs : List VolC} {i : Nat} {P : List (Option (List Int))} (hi : i < cs.length) (y : VolC) (hy : y = cs.getD i zVol) :
    fillAll v0 ((cs.drop i).map VolC.v) P = if agree v0 y.v = true ∧ (slot P y.v.num.toNat = none ∨ slot P y.v.num.toNat = some y.v.b) then fillAll v0 ((cs.drop (i + 1)).map VolC.v) (P.set y.v.num.toNat (some y.v.b)) else none := by
  have h : cs.drop i = y :: cs.drop (i + 1) := by rw [List.drop_eq_getElem_cons hi, hy, List.getD_eq_getElem?_getD, List.getElem?_eq_getElem hi]; rfl
  rw [h, List.map_cons, fillAll]
theorem G2.step {w W : World} {g4 c4 gl cl gw : Nat} {v0 : Vol} {cs : List VolC} {n i : Nat} {P : List (Option (List Int))} (h : G2 w W g4 c4 gl cl gw v0 cs n i P) (hi : i < cs.length) {y : VolC} (hy : y = cs.getD i zVol) {m : Nat} (hm : y.v.num = (m : Int)) (hmn : m < n)
    (hag : agree v0 y.v = true) (hP : slot P m = none ∨ slot P m = some y.v.b) : G2 w (W.setCell ⟨gl, m, none⟩ (.pointer (some ⟨g4, i * 8, none⟩))) g4 c4 gl cl gw v0 cs n (i + 1) (P.set m (some y.v.b)) := by
  obtain ⟨ps, h1, h2⟩ := h.rowP
  have hn : n = ps.length := (Kd.R_reads' h1).1
  obtain ⟨cells, hcl⟩ := Kd.R_typed h1 gl (by simp [Value.ownBlock])
  have hge : w.heap.size ≤ gl := Kd.R_base h1 gl (by simp [Value.ownBlock])
  have hgw : gw ≠ gl := by
    rintro rfl
    have := h.blk.symm.trans hcl
    injection this with this
    injection this with _ this
    exact absurd this (by decide)
  have hput : Kd.R kP 116 (W.setCell ⟨gl, m, none⟩ (.pointer (some ⟨g4, i * 8, none⟩))) w.heap.size (fun _ => True) (.slice (some ⟨gl, 0, none⟩) n cl) (ps.set m (some ⟨g4, i * 8, none⟩)) := Kd.R_putn (enc := Value.pointer) (h1 := fun _ => rfl) h1 (m : Int) (some ⟨g4, i * 8, none⟩)
  refine ⟨below_set h.bel hge, Kd.R_set h.rowV hcl (by decide) _ _, (Below.heap_setCell W ⟨gl, m, none⟩ _ gw hgw).trans h.blk, ⟨_, hput, fun k hk => ?_⟩, by rw [List.length_set]; exact h.len, ?_⟩
  · rw [slot_set _ _ _ _ (by rw [h.len]; exact hmn), List.getD_eq_getElem?_getD, List.getElem?_set]
    by_cases e : m = k
    · subst e
      rw [if_pos rfl, if_pos (by omega), if_pos rfl]
      exact .inr ⟨i, by omega, rfl, by rw [hy]⟩
    · rw [if_neg e, if_neg (fun x => e x.symm), ← List.getD_eq_getElem?_getD]
      rcases h2 k hk with h3 | ⟨j, h3, h4, h5⟩
      · exact .inl h3
      · exact .inr ⟨j, by omega, h4, h5⟩
  · rw [h.fill, fill_next hi y hy, hm, Int.toNat_natCast, if_pos ⟨hag, hP⟩]
theorem G2.whole {w W : World} {g4 c4 gl cl gw : Nat} {v0 : Vol} {cs : List VolC} {n : Nat} {P : List (Option (List Int))} (h : G2 w W g4 c4 gl cl gw v0 cs n cs.length P) (hn : v0.cnt.toNat + 1 = n) (hv : Views w cs) (hle : w.heap.size ≤ gw) : Whole w W gw v0 P := by
  obtain ⟨ps, h1, h2⟩ := h.rowP
  subst hn
  obtain ⟨cells, hcl⟩ := Kd.R_typed h1 gl (by simp [Value.ownBlock])
  obtain ⟨cells4, hc4⟩ := Kd.R_typed h.rowV g4 (by simp [Value.ownBlock])
  have hge : w.heap.size ≤ g4 := Kd.R_base h.rowV g4 (by simp [Value.ownBlock])
  have n1 : g4 ≠ gl := by
    rintro rfl
    have := hc4.symm.trans hcl
    injection this with this
    injection this with _ this
    exact absurd this (by decide)
  have n2 : g4 ≠ gw := by
    rintro rfl
    have := hc4.symm.trans h.blk
    injection this with this
    injection this with _ this
    exact absurd this (by decide)
  refine ⟨hle, gl, cl, ps, h.blk, h1, h.len, fun k hk => ?_⟩
  rcases h2 k hk with h3 | ⟨j, h3, h4, h5⟩
  · exact .inl h3
  · obtain ⟨_, _, hC⟩ := Kd.R_reads' h.rowV
    obtain ⟨ad, e, hat⟩ := at_V hC j h3
    injection e with e
    subst e
    rw [add_plain] at hat
    obtain ⟨v1, v2, v3, v4⟩ := hv (cs.getD j zVol) (by rw [List.getD_eq_getElem?_getD, List.getElem?_eq_getElem h3, Option.getD_some]; exact List.getElem_mem _)
    exact .inr ⟨_, _, h4, h5, hat, hge, n1, n2, v1, v2, v3, v4⟩
theorem gather_eq (gE : List Int → Int) (vO : List Int → Vol) (L : List (List Int)) (x : VolC) (cs ll : List VolC) (n : Nat) (hE : firstE gE L = 0) (hl : ll = x :: cs) (hm : ll.map VolC.v = L.map vO) (hn : x.v.cnt.toNat + 1 = n) :
    gatherR gE vO L = match fillAll x.v (ll.map VolC.v) (List.replicate n none) with | none => (271, zVol.v, []) | some P => (0, x.v, P) := by
  unfold gatherR
  rw [if_pos hE, ← hm, hl, List.map_cons, ← hn]
  rfl
set_option maxHeartbeats 8000000 in
set_option maxRecDepth 100000 in
theorem gather_calls (gE : List Int → Int) (vO : List Int → Vol)
    (HGET : ∀ (A : Option Addr) (c : Nat) (b : List Int) (w : World), ReadsInt w .u8 A b.length b → b.length ≤ c → b.length ≤ 100000000 → (∀ q ∈ b, 0 ≤ q ∧ q < 256) → gE b = 0 → Calls Try.prog 67 #[.slice A b.length c] w fun e w' => Below w.heap.size w w' ∧
      (∃ x : VolC, x.v = vO b ∧ e = .returned (.tuple #[.agg #[.int .u64 x.v.set, .int .i64 x.v.num, .int .i64 x.v.cnt, .bool x.v.sp, .int .i64 x.v.whole, .int .i64 x.v.off, .int .i64 x.v.size, .slice x.A x.v.b.length x.c], .int .i64 0]) ∧ (∀ W : World, ReadsInt W .u8 A b.length b → ReadsInt W .u8 x.A x.v.b.length x.v.b) ∧ x.v.b.length ≤ x.c ∧ x.v.b.length ≤ 100000000 ∧ ∀ q ∈ x.v.b, 0 ≤ q ∧ q < 256))
    (HOK : ∀ b, gE b = 0 → volumes_volume_step.f 9 (vO b).set (vO b).num (vO b).cnt (vO b).sp (vO b).whole (vO b).off (vO b).size (vO b).b = some (stepV (vO b)) ∧ 1 ≤ (vO b).cnt ∧ (vO b).cnt ≤ 1000 ∧ 0 ≤ (vO b).num ∧ (vO b).num ≤ (vO b).cnt)
    (A : Option Addr) (c : Nat) (L : List (List Int)) (w : World) (hr : Kd.C (Kd.slice 5 (Kd.int .u8)) w A L.length L) (H0 : (gatherR gE vO L).1 = 0 ∨ L = []) (hc : L.length ≤ c) (hL : ∀ b ∈ L, b.length ≤ 100000000 ∧ ∀ q ∈ b, 0 ≤ q ∧ q < 256) (hn : L.length ≤ 1000000000) :
    Calls Try.prog 69 #[.slice A L.length c] w fun e w' => Below w.heap.size w w' ∧ ((gatherR gE vO L).1 ≠ 0 → e = .returned (.tuple #[.pointer none, .int .i64 (gatherR gE vO L).1])) ∧
      ((gatherR gE vO L).1 = 0 → ∃ gw, e = .returned (.tuple #[.pointer (some ⟨gw, 0, none⟩), .int .i64 0]) ∧ Whole w w' gw (gatherR gE vO L).2.1 (gatherR gE vO L).2.2) := by
  have HB := Aside0.mk (Below.refl w.heap.size w)
  have HR := Aside0.mk hr
  have HL := Aside0.mk hL
  have HO := Aside0.mk HOK
  have HG := Aside0.mk HGET
  have HN := Aside0.mk hn
  have HA0 := Aside0.mk (show ∀ b ∈ L, gE b = 0 from fun b hb => by
    rcases H0 with h | h
    · refine firstE_ok gE L ?_ b hb
      unfold gatherR at h
      by_cases e : firstE gE L = 0
      · exact e
      · rw [if_neg e] at h; exact absurd h e
    · rw [h] at hb; exact absurd hb (by simp))
  have HH0 := Aside0.mk H0
  clear H0
  clear hr hL HOK HGET hn
  obtain ⟨k, hk⟩ : ∃ k, k = L.length + 1 := ⟨_, rfl⟩
  have HK := Aside0.mk hk
  clear hk
  refine hide_post (fun Q HQ => ?_)
  go_enter Try.func69, Try.ntmps69
  go_upto_region 3 with fail
  go_loopg [4, 15] k (fun kq v4 v15 w' => ∃ i : Nat, v15 = .int .i64 (i : Int) ∧ Aside0 (G1 gE vO L w w' v4 i) ∧ Aside0 (i ≤ L.length ∧ L.length < i + kq))
  case atStart =>
    refine ⟨0, by first | rfl | (simp; done), ⟨⟨HB.out, ⟨[], Kd.R_nil _ _ _ _ _, rfl, fun x hx => absurd hx (by simp)⟩, fun b hb => absurd hb (by simp)⟩⟩, ⟨Nat.zero_le _, by have := HK.out; omega⟩⟩
  case round =>
    obtain ⟨i, rfl, HI, HM⟩ := hrel
    cases gk with
    | zero => exact absurd HM.out (by omega)
    | succ k1 =>
    by_cases hi : i < L.length
    · have hd : decide (i < L.length) = true := decide_eq_true hi
      obtain ⟨ad, A0, c0, hA, hcell, hl0, hC0⟩ := at_L1 HR.out (i : Int) (by omega) (by omega)
      rw [rdL_at] at hcell hl0 hC0
      rw [Int.toNat_natCast] at hcell
      subst hA
      obtain ⟨b, hb⟩ : ∃ b, b = L.getD i [] := ⟨_, rfl⟩
      rw [← hb] at hcell hl0 hC0
      have hbm : b ∈ L := by rw [hb, List.getD_eq_getElem?_getD, List.getElem?_eq_getElem hi, Option.getD_some]; exact List.getElem_mem _
      have HV := Aside0.mk (Kd.reads_of_C (enc := Value.int .u8) (d := (0 : Int)) (h1 := fun _ => rfl) hC0)
      have HCG := Aside0.mk (fun (W : World) (hW : Below w.heap.size w W) => HG.out A0 c0 b W (HV.out.below hW) hl0 (HL.out b hbm).1 (HL.out b hbm).2 (HA0.out b hbm))
      have HE0 := Aside0.mk (HA0.out b hbm)
      have hx := pw_cell_below HI.out.bel hcell
      have HBE := Aside0.mk hb
      clear hcell hl0 hC0 hbm hb
      have HIL := Aside0.mk hi
      by_cases hE : gE b = 0
      · have HX := Aside0.mk hE
        clear hE
        go_upto_region 8 with (go_at_call 67; refine (HCG.out _ HI.out.bel).mono ?_; rintro e w5 ⟨hb, h2⟩; obtain ⟨x, hxv, rfl, hxr, hxc, hxl⟩ := h2; have HB5 := Aside0.mk hb; have HXV := Aside0.mk hxv; have HXR := Aside0.mk hxr; have HXC := Aside0.mk (show _ ∧ _ from ⟨hxc, hxl⟩); clear hb hxv hxr hxc hxl)
        have HQ5 := Aside0.mk (below_alloc HB5.out (.cells #[.int .u64 x.v.set, .int .i64 x.v.num, .int .i64 x.v.cnt, .bool x.v.sp, .int .i64 x.v.whole, .int .i64 x.v.off, .int .i64 x.v.size, .slice x.A x.v.b.length x.c] 88))
        have HG8 := Aside0.mk (heap_alloc_new w5 (.cells #[.int .u64 x.v.set, .int .i64 x.v.num, .int .i64 x.v.cnt, .bool x.v.sp, .int .i64 x.v.whole, .int .i64 x.v.off, .int .i64 x.v.size, .slice x.A x.v.b.length x.c] 88))
        obtain ⟨wq, hwq⟩ : ∃ wq, wq = w5.alloc (.cells #[.int .u64 x.v.set, .int .i64 x.v.num, .int .i64 x.v.cnt, .bool x.v.sp, .int .i64 x.v.whole, .int .i64 x.v.off, .int .i64 x.v.size, .slice x.A x.v.b.length x.c] 88) := ⟨_, rfl⟩
        rw [← hwq] at HQ5 HG8 ⊢
        clear hwq
        generalize w5.heap.size = gq at HG8 HQ5 ⊢
        have HI2 := Aside0.mk (HI.out.below HQ5.out)
        obtain ⟨cs, r1, r2, r3⟩ := HI2.out.row
        have HRW := Aside0.mk r1
        have HC2 := Aside0.mk r2
        have HC3 := Aside0.mk r3
        have HLN := Aside0.mk (show cs.length = i by have := congrArg List.length r2; rw [List.length_map, List.length_map, List.length_take] at this; omega)
        clear r1 r2 r3 hx
        have y0 : wq.cell? ⟨gq, 0, none⟩ = some (.int .u64 x.v.set) := cell_of_row wq _ 0 _ 88 (0, 0) HG8.out
        have y1 : wq.cell? ⟨gq, 1, none⟩ = some (.int .i64 x.v.num) := cell_of_row wq _ 1 _ 88 (0, 0) HG8.out
        have y2 : wq.cell? ⟨gq, 2, none⟩ = some (.int .i64 x.v.cnt) := cell_of_row wq _ 2 _ 88 (0, 0) HG8.out
        have y3 : wq.cell? ⟨gq, 3, none⟩ = some (.bool x.v.sp) := cell_of_row wq _ 3 _ 88 (0, 0) HG8.out
        have y4 : wq.cell? ⟨gq, 4, none⟩ = some (.int .i64 x.v.whole) := cell_of_row wq _ 4 _ 88 (0, 0) HG8.out
        have y5 : wq.cell? ⟨gq, 5, none⟩ = some (.int .i64 x.v.off) := cell_of_row wq _ 5 _ 88 (0, 0) HG8.out
        have y6 : wq.cell? ⟨gq, 6, none⟩ = some (.int .i64 x.v.size) := cell_of_row wq _ 6 _ 88 (0, 0) HG8.out
        have y7 : wq.cell? ⟨gq, 7, none⟩ = some (.slice x.A x.v.b.length x.c) := cell_of_row wq _ 7 _ 88 (0, 0) HG8.out
        have hln : cs.length ≤ 1000000000 := by rw [HLN.out]; have := HN.out; omega
        have HB8 := Aside0.mk HI2.out.bel
        go_wp2_with ((with_reducible refine gate_builtin (b := .append) (xs := #[.tmp 27, .tmp 29]) rfl ?_); at_builtin; refine Kd.R_append kV (w0 := w) w.heap.size rfl (.tmp 27) (.tmp 29) 137 88 (.agg #[.int .u64 0, .int .i64 0, .int .i64 0, .bool false, .int .i64 0, .int .i64 0, .int .i64 0, .slice none 0 0]) 80 rfl Try.underlying137 info88 rfl (by decide) (by omega) _ cs x x.cells (fun _ => True) (fun _ => False) rfl (by first | (go_simp; done) | (go_simp; rfl)) ?aP (fun _ hk => hk.elim) (fun _ _ => trivial) ?aO ?aB ?aS ?aL ?_; (case aP => exact rfl); (case aB => exact HB8.out); (case aO => exact HRW.out); (case aS => exact HB8.out.size); (case aL => omega); intro v9 w9 ho hb hg hat; have HO9 := Aside0.mk ho; have HB9 := Aside0.mk hb; clear ho hb hg hat)
        go_roundg k1
        case measure => have := HM.out; omega
        case rel =>
          refine ⟨i + 1, by first | rfl | (rw [wrap_succ _ (by have := HN.out; omega)]), ⟨G1.snoc HIL.out HC2.out HC3.out HI.out.good (HXV.out.trans (by rw [← HBE.out])) ⟨HXR.out w HV.out, HXC.out⟩ (by rw [← HBE.out]; exact HX.out) HB9.out HO9.out⟩, ⟨by have := HIL.out; omega, by have := HM.out; omega⟩⟩
      · exact absurd HE0.out hE
    · have hd : decide (i < L.length) = false := decide_eq_false hi
      have hie : L.take i = L := List.take_of_length_le (by omega)
      obtain ⟨cs, r1, r2, r3⟩ := HI.out.row
      rw [hie] at r2
      have hfe : firstE gE L = 0 := firstE_zero gE L (by have := HI.out.good; rwa [hie] at this)
      have HCM := Aside0.mk r2
      have HVW := Aside0.mk r3
      have HRW := Aside0.mk r1
      have HBW := Aside0.mk HI.out.bel
      have HFE := Aside0.mk hfe
      have HGD := Aside0.mk (show ∀ b ∈ L, gE b = 0 by have := HI.out.good; rwa [hie] at this)
      clear hie hi hfe
      cases cs with
      | nil =>
        obtain ⟨A4, c4, rfl⟩ := Kd.R_slice r1
        clear r1 r2 r3
        have hgr : gatherR gE vO L = (272, zVol.v, []) := by unfold gatherR; rw [if_pos HFE.out, ← HCM.out]; rfl
        rw [hgr] at HQ
        clear hgr
        go_wp2
        refine HQ.out _ _ ⟨by repeat (first | exact HBW.out | apply below_alloc | apply pw_below_drewN | apply below_drew1), fun _ => rfl, fun h => absurd h (by decide)⟩
      | cons x cs =>
        obtain ⟨ll, hll⟩ : ∃ ll, ll = x :: cs := ⟨_, rfl⟩
        rw [← hll] at r1 HCM HVW HRW
        have hln : 0 < ll.length := by rw [hll]; simp
        have HLL := Aside0.mk hll
        clear hll
        obtain ⟨g4, c4, rfl, hg4, _⟩ := Kd.R_form r1 hln
        have HLE := Aside0.mk hg4
        have hz0 : ((ll.length : Int) == 0) = false := by rw [beq_eq_false_iff_ne]; omega
        clear r1 r2 r3 hg4
        have hxb : ∃ b ∈ L, x.v = vO b := by
          have h : x.v ∈ L.map vO := by rw [← HCM.out, HLL.out]; simp
          obtain ⟨b, hb, he⟩ := List.mem_map.1 h
          exact ⟨b, hb, he.symm⟩
        have hst : volumes_volume_step.f 9 x.v.set x.v.num x.v.cnt x.v.sp x.v.whole x.v.off x.v.size x.v.b = some (stepV x.v) ∧ 1 ≤ x.v.cnt ∧ x.v.cnt ≤ 1000 ∧ 0 ≤ x.v.num ∧ x.v.num ≤ x.v.cnt := by
          obtain ⟨b, hb, he⟩ := hxb
          rw [he]
          exact HO.out b (HGD.out b hb)
        clear hxb
        obtain ⟨hst, hcn1, hcn2, _, _⟩ := hst
        have hwc : wrap64 (x.v.cnt + 1) = x.v.cnt + 1 := IntWalk.wrap64_in _ (by omega)
        have HST := Aside0.mk (fun (W : World) (hW : Below w.heap.size w W) => step_callsV (W := W) HVW.out x (by rw [HLL.out]; exact List.mem_cons_self) (stepV x.v) hst hW)
        have HCN := Aside0.mk (show 1 ≤ x.v.cnt ∧ x.v.cnt ≤ 1000 from ⟨hcn1, hcn2⟩)
        obtain ⟨n, hnx⟩ : ∃ n : Nat, x.v.cnt + 1 = (n : Int) := ⟨(x.v.cnt + 1).toNat, by omega⟩
        have HNX := Aside0.mk hnx
        rw [hnx] at hwc
        clear hst hcn1 hcn2
        go_upto_region 12 with fail
        have HRd := Aside0.mk (Kd.R_drew HRW.out)
        have HBd := Aside0.mk (below_drew HBW.out)
        have p0 : wr.drew.cell? ⟨g4, 0, none⟩ = some (.int .u64 x.v.set) := by have h := Kd.R_elem HRd.out zVol 0 (by decide) (by omega); obtain ⟨cc, _, hM, hcc, _⟩ := h; obtain rfl : cc = x.cells := (by have h0 : cc = (ll.getD 0 zVol).cells := hM; rw [HLL.out] at h0; exact h0); exact hcc 0 _ rfl
        have p1 : wr.drew.cell? ⟨g4, 1, none⟩ = some (.int .i64 x.v.num) := by have h := Kd.R_elem HRd.out zVol 0 (by decide) (by omega); obtain ⟨cc, _, hM, hcc, _⟩ := h; obtain rfl : cc = x.cells := (by have h0 : cc = (ll.getD 0 zVol).cells := hM; rw [HLL.out] at h0; exact h0); exact hcc 1 _ rfl
        have p2 : wr.drew.cell? ⟨g4, 2, none⟩ = some (.int .i64 x.v.cnt) := by have h := Kd.R_elem HRd.out zVol 0 (by decide) (by omega); obtain ⟨cc, _, hM, hcc, _⟩ := h; obtain rfl : cc = x.cells := (by have h0 : cc = (ll.getD 0 zVol).cells := hM; rw [HLL.out] at h0; exact h0); exact hcc 2 _ rfl
        have p3 : wr.drew.cell? ⟨g4, 3, none⟩ = some (.bool x.v.sp) := by have h := Kd.R_elem HRd.out zVol 0 (by decide) (by omega); obtain ⟨cc, _, hM, hcc, _⟩ := h; obtain rfl : cc = x.cells := (by have h0 : cc = (ll.getD 0 zVol).cells := hM; rw [HLL.out] at h0; exact h0); exact hcc 3 _ rfl
        have p4 : wr.drew.cell? ⟨g4, 4, none⟩ = some (.int .i64 x.v.whole) := by have h := Kd.R_elem HRd.out zVol 0 (by decide) (by omega); obtain ⟨cc, _, hM, hcc, _⟩ := h; obtain rfl : cc = x.cells := (by have h0 : cc = (ll.getD 0 zVol).cells := hM; rw [HLL.out] at h0; exact h0); exact hcc 4 _ rfl
        have p5 : wr.drew.cell? ⟨g4, 5, none⟩ = some (.int .i64 x.v.off) := by have h := Kd.R_elem HRd.out zVol 0 (by decide) (by omega); obtain ⟨cc, _, hM, hcc, _⟩ := h; obtain rfl : cc = x.cells := (by have h0 : cc = (ll.getD 0 zVol).cells := hM; rw [HLL.out] at h0; exact h0); exact hcc 5 _ rfl
        have p6 : wr.drew.cell? ⟨g4, 6, none⟩ = some (.int .i64 x.v.size) := by have h := Kd.R_elem HRd.out zVol 0 (by decide) (by omega); obtain ⟨cc, _, hM, hcc, _⟩ := h; obtain rfl : cc = x.cells := (by have h0 : cc = (ll.getD 0 zVol).cells := hM; rw [HLL.out] at h0; exact h0); exact hcc 6 _ rfl
        have p7 : wr.drew.cell? ⟨g4, 7, none⟩ = some (.slice x.A x.v.b.length x.c) := by have h := Kd.R_elem HRd.out zVol 0 (by decide) (by omega); obtain ⟨cc, _, hM, hcc, _⟩ := h; obtain rfl : cc = x.cells := (by have h0 : cc = (ll.getD 0 zVol).cells := hM; rw [HLL.out] at h0; exact h0); exact hcc 7 _ rfl
        refine start_ (n := 18) (S := fun w' => w'.cell? ⟨g4, 0, none⟩ = some (.int .u64 x.v.set) ∧ w'.cell? ⟨g4, 1, none⟩ = some (.int .i64 x.v.num) ∧ w'.cell? ⟨g4, 2, none⟩ = some (.int .i64 x.v.cnt) ∧ w'.cell? ⟨g4, 3, none⟩ = some (.bool x.v.sp) ∧ w'.cell? ⟨g4, 4, none⟩ = some (.int .i64 x.v.whole) ∧ w'.cell? ⟨g4, 5, none⟩ = some (.int .i64 x.v.off) ∧ w'.cell? ⟨g4, 6, none⟩ = some (.int .i64 x.v.size) ∧ w'.cell? ⟨g4, 7, none⟩ = some (.slice x.A x.v.b.length x.c)) (ds := [16]) #[false, false, false, false, false, false, false, false, false, false, false, false, false, false, false, false, false, false] (by kernel_rfl) rfl rfl ⟨p0, p1, p2, p3, p4, p5, p6, p7⟩ (fun hHeld => ?_)
        generalize wr.drew = wd at HRd HBd hHeld p0 p1 p2 p3 p4 p5 p6 p7 ⊢
        refine pure_ (i := 0) (N := some 35) (v := ?_) (a' := ?_) #[true, false, false, false, false, false, false, false, false, false, false, false, false, false, false, false, false, false] rfl rfl (by kernel_rfl) (fun _ _ _ h => h) (Or.inl ⟨by rfl, ?_⟩) ?_ ?_
        rotate_left
        · intro w'
          go_simp
          with_reducible rfl
        rotate_left
        · simp only [Act.put, List.setIfInBounds_toArray, List.set_cons_zero, List.set_cons_succ, i64_w, i32_w]
          rfl
        refine pure_ (i := 1) (N := some 36) (v := ?_) (a' := ?_) #[true, true, false, false, false, false, false, false, false, false, false, false, false, false, false, false, false, false] rfl rfl (by kernel_rfl) (fun _ _ _ h => h) (Or.inl ⟨by rfl, ?_⟩) ?_ ?_
        rotate_left
        · intro w'
          go_simp
          with_reducible rfl
        rotate_left
        · simp only [Act.put, List.setIfInBounds_toArray, List.set_cons_zero, List.set_cons_succ, i64_w, i32_w]
          rfl
        refine pure_ (i := 2) (N := some 37) (v := ?_) (a' := ?_) #[true, true, true, false, false, false, false, false, false, false, false, false, false, false, false, false, false, false] rfl rfl (by kernel_rfl) (fun _ _ _ h => h) (Or.inl ⟨by rfl, ?_⟩) ?_ ?_
        rotate_left
        · intro w'
          go_simp
          with_reducible rfl
        rotate_left
        · simp only [Act.put, List.setIfInBounds_toArray, List.set_cons_zero, List.set_cons_succ, i64_w, i32_w]
          rfl
        refine pure_ (i := 4) (N := some 39) (v := ?_) (a' := ?_) #[true, true, true, false, true, false, false, false, false, false, false, false, false, false, false, false, false, false] rfl rfl (by kernel_rfl) (fun _ _ _ h => h) (Or.inl ⟨by rfl, ?_⟩) ?_ ?_
        rotate_left
        · intro w'
          go_simp
          with_reducible rfl
        rotate_left
        · simp only [Act.put, List.setIfInBounds_toArray, List.set_cons_zero, List.set_cons_succ, i64_w, i32_w]
          rfl
        refine pure_ (i := 5) (N := some 40) (v := ?_) (a' := ?_) #[true, true, true, false, true, true, false, false, false, false, false, false, false, false, false, false, false, false] rfl rfl (by kernel_rfl) (fun _ _ _ h => h) (Or.inl ⟨by rfl, ?_⟩) ?_ ?_
        rotate_left
        · intro w'
          go_simp
          with_reducible rfl
        rotate_left
        · simp only [Act.put, List.setIfInBounds_toArray, List.set_cons_zero, List.set_cons_succ, i64_w, i32_w]
          rfl
        refine pure_ (i := 8) (N := some 43) (v := ?_) (a' := ?_) #[true, true, true, false, true, true, false, false, true, false, false, false, false, false, false, false, false, false] rfl rfl (by kernel_rfl) (fun _ _ _ h => h) (Or.inl ⟨by rfl, ?_⟩) ?_ ?_
        rotate_left
        · intro w'
          go_simp
          with_reducible rfl
        rotate_left
        · simp only [Act.put, List.setIfInBounds_toArray, List.set_cons_zero, List.set_cons_succ, i64_w, i32_w]
          rfl
        refine pure_ (i := 9) (N := some 44) (v := ?_) (a' := ?_) #[true, true, true, false, true, true, false, false, true, true, false, false, false, false, false, false, false, false] rfl rfl (by kernel_rfl) (fun _ _ _ h => h) (Or.inl ⟨by rfl, ?_⟩) ?_ ?_
        rotate_left
        · intro w'
          go_simp
          with_reducible rfl
        rotate_left
        · simp only [Act.put, List.setIfInBounds_toArray, List.set_cons_zero, List.set_cons_succ, i64_w, i32_w]
          rfl
        refine pure_ (i := 10) (N := some 45) (v := ?_) (a' := ?_) #[true, true, true, false, true, true, false, false, true, true, true, false, false, false, false, false, false, false] rfl rfl (by kernel_rfl) (fun _ _ _ h => h) (Or.inl ⟨by rfl, ?_⟩) ?_ ?_
        rotate_left
        · intro w'
          go_simp
          with_reducible rfl
        rotate_left
        · simp only [Act.put, List.setIfInBounds_toArray, List.set_cons_zero, List.set_cons_succ, i64_w, i32_w]
          rfl
        refine pure_ (i := 11) (N := some 46) (v := ?_) (a' := ?_) #[true, true, true, false, true, true, false, false, true, true, true, true, false, false, false, false, false, false] rfl rfl (by kernel_rfl) (fun _ _ _ h => h) (Or.inl ⟨by rfl, ?_⟩) ?_ ?_
        rotate_left
        · intro w'
          go_simp
          with_reducible rfl
        rotate_left
        · simp only [Act.put, List.setIfInBounds_toArray, List.set_cons_zero, List.set_cons_succ, i64_w, i32_w]
          rfl
        refine take_ (i := 3) (N := some 38) (v := ?_) (a' := ?_) #[true, true, true, true, true, true, false, false, true, true, true, true, false, false, false, false, false, false] rfl rfl (by kernel_rfl) (fun _ _ _ h => h) (Or.inl ⟨by rfl, ?_⟩) hHeld ?_ ?_
        rotate_left
        · rintro w' ⟨s0, s1, s2, s3, s4, s5, s6, s7⟩
          go_simp
          with_reducible rfl
        rotate_left
        · simp only [Act.put, List.setIfInBounds_toArray, List.set_cons_zero, List.set_cons_succ, i64_w, i32_w]
          rfl
        refine take_ (i := 6) (N := some 41) (v := ?_) (a' := ?_) #[true, true, true, true, true, true, true, false, true, true, true, true, false, false, false, false, false, false] rfl rfl (by kernel_rfl) (fun _ _ _ h => h) (Or.inl ⟨by rfl, ?_⟩) hHeld ?_ ?_
        rotate_left
        · rintro w' ⟨s0, s1, s2, s3, s4, s5, s6, s7⟩
          go_simp
          with_reducible rfl
        rotate_left
        · simp only [Act.put, List.setIfInBounds_toArray, List.set_cons_zero, List.set_cons_succ, i64_w, i32_w]
          rfl
        refine take_ (i := 12) (N := some 47) (v := ?_) (a' := ?_) #[true, true, true, true, true, true, true, false, true, true, true, true, true, false, false, false, false, false] rfl rfl (by kernel_rfl) (fun _ _ _ h => h) (Or.inl ⟨by rfl, ?_⟩) hHeld ?_ ?_
        rotate_left
        · rintro w' ⟨s0, s1, s2, s3, s4, s5, s6, s7⟩
          go_simp
          with_reducible rfl
        rotate_left
        · simp only [Act.put, List.setIfInBounds_toArray, List.set_cons_zero, List.set_cons_succ, i64_w, i32_w]
          rfl
        refine pure_ (i := 13) (N := some 48) (v := ?_) (a' := ?_) #[true, true, true, true, true, true, true, false, true, true, true, true, true, true, false, false, false, false] rfl rfl (by kernel_rfl) (fun _ _ _ h => h) (Or.inl ⟨by rfl, ?_⟩) ?_ ?_
        rotate_left
        · intro w'
          go_simp
          with_reducible rfl
        rotate_left
        · simp only [Act.put, List.setIfInBounds_toArray, List.set_cons_zero, List.set_cons_succ, i64_w, i32_w]
          rfl
        refine join_ (σ := Value) 3 #[true, true, true, true, true, true, true, true, true, true, true, true, true, true, true, false, false, false] (fun s => [(42, .int .i64 (stepV x.v)), (49, s)]) (fun s w' => Below wd.heap.size wd w' ∧ Kd.R kP 116 w' wd.heap.size (fun _ => True) s (List.replicate n none)) ?_ ?_
        rotate_left
        · intro hCont
          refine two_ (i := 7) (j := 14) (Ni := some 42) (Nj := some 49) #[true, true, true, true, true, true, true, true, true, true, true, true, true, true, false, false, false, false] #[true, true, true, true, true, true, true, false, true, true, true, true, true, true, true, false, false, false] rfl rfl rfl rfl (by kernel_rfl) (by decide) (by decide) (fun K hK => ?_) (fun K hK => ?_)
          · skip
            refine goes_ Try.func92 (by kernel_rfl) rfl #[.agg #[.int .u64 x.v.set, .int .i64 x.v.num, .int .i64 x.v.cnt, .bool x.v.sp, .int .i64 x.v.whole, .int .i64 x.v.off, .int .i64 x.v.size, .slice x.A x.v.b.length x.c]] (by rfl) rfl rfl (by simp only [List.map_toArray, List.map_cons, List.map_nil]; rfl) ?_
            with_reducible refine ((HST.out wd (below_step HBd.out (Below.refl _ _)))).mono ?_
            rintro e u7 ⟨rfl, b7⟩
            refine ⟨_, rfl, ?_⟩
            have d7 := Aside0.mk (below_step (Below.refl _ _) b7)
            clear b7
            refine hK.out _ _ ⟨(pw_cell_below d7.out p0), (pw_cell_below d7.out p1), (pw_cell_below d7.out p2), (pw_cell_below d7.out p3), (pw_cell_below d7.out p4), (pw_cell_below d7.out p5), (pw_cell_below d7.out p6), (pw_cell_below d7.out p7)⟩ (fun hHeld => ?_)
            clear hK K
            refine norm_ (a' := ?_) ?_ ?_
            rotate_left
            · show Act.put _ (some 42) _ = _
              simp only [Act.put, List.setIfInBounds_toArray, List.set_cons_zero, List.set_cons_succ, i64_w, i32_w]
              rfl
            refine one_ (i := 14) (N := some 49) #[true, true, true, true, true, true, true, true, true, true, true, true, true, true, true, false, false, false] rfl rfl (by kernel_rfl) (by decide) (fun K hK => ?_)
            refine Kd.R_make_step kP (w0 := wd) (ok := fun _ => True) (okp := fun _ => False) wd.heap.size 116 (by rfl) (N := 49) rfl 117 (.tmp 48) (.tmp 48) rfl (n : Int) (by first | rfl | (go_simp; done)) (by first | rfl | (go_simp; done)) Try.underlying117 (.pointer none) 8 info116 rfl (by decide) (by decide) none rfl (fun _ h => h.elim) trivial (by omega) (by rw [Int.toNat_natCast]; have := HNX.out; have := HCN.out; omega) d7.out d7.out.size ?_
            intro s14 u14 ho hb hg_ hnew_
            rw [Int.toNat_natCast] at ho
            have d14 := Aside0.mk hb
            have HS14 := Aside0.mk ho
            clear ho hb hg_ hnew_
            refine hK.out _ _ ⟨(pw_cell_below d14.out p0), (pw_cell_below d14.out p1), (pw_cell_below d14.out p2), (pw_cell_below d14.out p3), (pw_cell_below d14.out p4), (pw_cell_below d14.out p5), (pw_cell_below d14.out p6), (pw_cell_below d14.out p7)⟩ (fun hHeld => ?_)
            clear hK K
            refine norm_ (a' := ?_) ?_ ?_
            rotate_left
            · show Act.put _ (some 49) _ = _
              simp only [Act.put, List.setIfInBounds_toArray, List.set_cons_zero, List.set_cons_succ, i64_w, i32_w]
              rfl
            exact norm_ (by simp only [putAll, Act.put, List.setIfInBounds_toArray, List.set_cons_zero, List.set_cons_succ]) (hCont s14 _ ⟨d14.out, HS14.out⟩)
          · skip
            refine Kd.R_make_step kP (w0 := wd) (ok := fun _ => True) (okp := fun _ => False) wd.heap.size 116 (by rfl) (N := 49) rfl 117 (.tmp 48) (.tmp 48) rfl (n : Int) (by first | rfl | (go_simp; done)) (by first | rfl | (go_simp; done)) Try.underlying117 (.pointer none) 8 info116 rfl (by decide) (by decide) none rfl (fun _ h => h.elim) trivial (by omega) (by rw [Int.toNat_natCast]; have := HNX.out; have := HCN.out; omega) (Below.refl _ _) (Nat.le_refl _) ?_
            intro s14 u14 ho hb hg_ hnew_
            rw [Int.toNat_natCast] at ho
            have d14 := Aside0.mk hb
            have HS14 := Aside0.mk ho
            clear ho hb hg_ hnew_
            refine hK.out _ _ ⟨(pw_cell_below d14.out p0), (pw_cell_below d14.out p1), (pw_cell_below d14.out p2), (pw_cell_below d14.out p3), (pw_cell_below d14.out p4), (pw_cell_below d14.out p5), (pw_cell_below d14.out p6), (pw_cell_below d14.out p7)⟩ (fun hHeld => ?_)
            clear hK K
            refine norm_ (a' := ?_) ?_ ?_
            rotate_left
            · show Act.put _ (some 49) _ = _
              simp only [Act.put, List.setIfInBounds_toArray, List.set_cons_zero, List.set_cons_succ, i64_w, i32_w]
              rfl
            refine one_ (i := 7) (N := some 42) #[true, true, true, true, true, true, true, true, true, true, true, true, true, true, true, false, false, false] rfl rfl (by kernel_rfl) (by decide) (fun K hK => ?_)
            refine goes_ Try.func92 (by kernel_rfl) rfl #[.agg #[.int .u64 x.v.set, .int .i64 x.v.num, .int .i64 x.v.cnt, .bool x.v.sp, .int .i64 x.v.whole, .int .i64 x.v.off, .int .i64 x.v.size, .slice x.A x.v.b.length x.c]] (by rfl) rfl rfl (by simp only [List.map_toArray, List.map_cons, List.map_nil]; rfl) ?_
            with_reducible refine ((HST.out u14 (below_step HBd.out d14.out))).mono ?_
            rintro e u7 ⟨rfl, b7⟩
            refine ⟨_, rfl, ?_⟩
            have d7 := Aside0.mk (below_step d14.out b7)
            have HS7 := Aside0.mk (Kd.R_below HS14.out b7)
            clear b7
            refine hK.out _ _ ⟨(pw_cell_below d7.out p0), (pw_cell_below d7.out p1), (pw_cell_below d7.out p2), (pw_cell_below d7.out p3), (pw_cell_below d7.out p4), (pw_cell_below d7.out p5), (pw_cell_below d7.out p6), (pw_cell_below d7.out p7)⟩ (fun hHeld => ?_)
            clear hK K
            refine norm_ (a' := ?_) ?_ ?_
            rotate_left
            · show Act.put _ (some 42) _ = _
              simp only [Act.put, List.setIfInBounds_toArray, List.set_cons_zero, List.set_cons_succ, i64_w, i32_w]
              rfl
            exact norm_ (by simp only [putAll, Act.put, List.setIfInBounds_toArray, List.set_cons_zero, List.set_cons_succ]) (hCont s14 _ ⟨d7.out, HS7.out⟩)
        rintro s12 w12 ⟨hb12, ho12⟩
        obtain ⟨gl, cl, hv12, hgl, _⟩ := Kd.R_form ho12 (by rw [List.length_replicate]; have := HNX.out; have := HCN.out; omega)
        rw [List.length_replicate] at hv12
        subst hv12
        have hHeld : w12.cell? ⟨g4, 0, none⟩ = some (.int .u64 x.v.set) ∧ w12.cell? ⟨g4, 1, none⟩ = some (.int .i64 x.v.num) ∧ w12.cell? ⟨g4, 2, none⟩ = some (.int .i64 x.v.cnt) ∧ w12.cell? ⟨g4, 3, none⟩ = some (.bool x.v.sp) ∧ w12.cell? ⟨g4, 4, none⟩ = some (.int .i64 x.v.whole) ∧ w12.cell? ⟨g4, 5, none⟩ = some (.int .i64 x.v.off) ∧ w12.cell? ⟨g4, 6, none⟩ = some (.int .i64 x.v.size) ∧ w12.cell? ⟨g4, 7, none⟩ = some (.slice x.A x.v.b.length x.c) := ⟨pw_cell_below hb12 p0, pw_cell_below hb12 p1, pw_cell_below hb12 p2, pw_cell_below hb12 p3, pw_cell_below hb12 p4, pw_cell_below hb12 p5, pw_cell_below hb12 p6, pw_cell_below hb12 p7⟩
        refine norm_ (a' := ?_) ?_ ?_
        rotate_left
        · simp only [putAll, Act.put, List.setIfInBounds_toArray, List.set_cons_zero, List.set_cons_succ]
          rfl
        refine pure_ (i := 15) (N := some 50) (v := ?_) (a' := ?_) #[true, true, true, true, true, true, true, true, true, true, true, true, true, true, true, true, false, false] rfl rfl (by kernel_rfl) (fun _ _ _ h => h) (Or.inl ⟨by rfl, ?_⟩) ?_ ?_
        rotate_left
        · intro w'
          go_simp
          with_reducible rfl
        rotate_left
        · simp only [Act.put, List.setIfInBounds_toArray, List.set_cons_zero, List.set_cons_succ, i64_w, i32_w]
          rfl
        refine last_ (i := 16) (N := some 51) #[true, true, true, true, true, true, true, true, true, true, true, true, true, true, true, true, true, false] rfl rfl (by kernel_rfl) (by decide) (fun K hK => ?_)
        refine value_ (w1 := ?_) (v := ?_) (by rfl) rfl ?_ ?_
        rotate_left 2
        · go_simp
          constructor
          · rfl
          · rfl
        refine hK.out _ _ ?_
        clear hK K
        refine norm_ (a' := ?_) ?_ ?_
        rotate_left
        · show Act.put _ (some 51) _ = _
          simp only [Act.put, List.setIfInBounds_toArray, List.set_cons_zero, List.set_cons_succ, i64_w, i32_w]
          rfl
        refine pure_ (i := 17) (N := some 9) (v := ?_) (a' := ?_) #[true, true, true, true, true, true, true, true, true, true, true, true, true, true, true, true, true, true] rfl rfl (by kernel_rfl) (fun _ _ _ h => h) (Or.inl ⟨by rfl, ?_⟩) ?_ ?_
        rotate_left
        · intro w'
          go_simp
          with_reducible rfl
        rotate_left
        · simp only [Act.put, List.setIfInBounds_toArray, List.set_cons_zero, List.set_cons_succ, i64_w, i32_w]
          rfl
        refine done_ (by kernel_rfl) ?_
        clear hwc hnx
        obtain ⟨wl, hwl⟩ : ∃ wl, wl = w12.alloc (.cells #[.int .u64 x.v.set, .int .i64 x.v.num, .int .i64 x.v.cnt, .bool x.v.sp, .int .i64 x.v.whole, .int .i64 x.v.off, .int .i64 x.v.size, .int .i64 (stepV x.v), .slice (some ⟨gl, 0, none⟩) n cl] 119) := ⟨_, rfl⟩
        have HGW := Aside0.mk (show wl.heap[w12.heap.size]? = some (.cells #[.int .u64 x.v.set, .int .i64 x.v.num, .int .i64 x.v.cnt, .bool x.v.sp, .int .i64 x.v.whole, .int .i64 x.v.off, .int .i64 x.v.size, .int .i64 (stepV x.v), .slice (some ⟨gl, 0, none⟩) n cl] 119 (0, 0)) by rw [hwl]; exact heap_alloc_new w12 _)
        have HBL := Aside0.mk (show Below wd.heap.size wd wl by rw [hwl]; exact below_alloc hb12 _)
        have HPL := Aside0.mk (show Kd.R kP 116 wl w.heap.size (fun _ => True) (.slice (some ⟨gl, 0, none⟩) n cl) (List.replicate n none) by rw [hwl]; exact Kd.R_lower (Kd.R_alloc ho12 _) HBd.out.size)
        have HLW := Aside0.mk (show w.heap.size ≤ w12.heap.size from Nat.le_trans HBd.out.size hb12.size)
        rw [← hwl]
        clear hwl hb12 ho12 hgl hHeld p0 p1 p2 p3 p4 p5 p6 p7
        generalize w12.heap.size = gw at HGW HLW ⊢
        have HI2 := Aside0.mk (show G2 w wl g4 c4 gl cl gw x.v ll n 0 (List.replicate n none) from ⟨below_step HBd.out HBL.out, Kd.R_below HRd.out HBL.out, HGW.out, ⟨_, HPL.out, fun k hk => .inl (by simp [slot, List.getD_eq_getElem?_getD, List.getElem?_replicate, hk])⟩, List.length_replicate, rfl⟩)
        clear HRd HBd HGW HBL HPL HRW HBW
        go_upto_region 14 with fail
        have HLN := Aside0.mk (show ll.length ≤ L.length by have := congrArg List.length HCM.out; rw [List.length_map, List.length_map] at this; omega)
        obtain ⟨kf, hkf⟩ : ∃ kf, kf = ll.length + 1 := ⟨_, rfl⟩
        have HK2 := Aside0.mk hkf
        clear hkf
        go_loopg [54] kf (fun kq v54 w' => ∃ (i : Nat) (P : List (Option (List Int))), v54 = .int .i64 (i : Int) ∧ Aside0 (G2 w w' g4 c4 gl cl gw x.v ll n i P) ∧ Aside0 (i ≤ ll.length ∧ ll.length < i + kq))
        case atStart => exact ⟨0, _, by first | rfl | (simp; done), HI2, ⟨Nat.zero_le _, by have := HK2.out; omega⟩⟩
        case round =>
          obtain ⟨i, P, rfl, HJ, HM2⟩ := hrel
          cases gk with
          | zero => exact absurd HM2.out (by omega)
          | succ k2 =>
          by_cases hi : i < ll.length
          · have hd : decide (i < ll.length) = true := decide_eq_true hi
            obtain ⟨y, hy⟩ : ∃ y, y = ll.getD i zVol := ⟨_, rfl⟩
            have hym : y ∈ ll := by rw [hy, List.getD_eq_getElem?_getD, List.getElem?_eq_getElem hi, Option.getD_some]; exact List.getElem_mem _
            obtain ⟨cc, _, hM, hcc, _⟩ := Kd.R_elem HJ.out.rowV zVol (i : Int) (by omega) (by omega)
            rw [Int.toNat_natCast, ← hy] at hM
            rw [Int.toNat_natCast] at hcc
            obtain rfl : cc = y.cells := hM
            replace hcc : ∀ (j : Nat) (u : Value), y.cells[j]? = some u → wr.cell? ⟨g4, i * 8 + j, none⟩ = some u := hcc
            have y0 : wr.cell? ⟨g4, i * 8, none⟩ = some (.int .u64 y.v.set) := hcc 0 _ rfl
            have y1 : wr.cell? ⟨g4, i * 8 + 1, none⟩ = some (.int .i64 y.v.num) := hcc 1 _ rfl
            have y2 : wr.cell? ⟨g4, i * 8 + 2, none⟩ = some (.int .i64 y.v.cnt) := hcc 2 _ rfl
            have y3 : wr.cell? ⟨g4, i * 8 + 3, none⟩ = some (.bool y.v.sp) := hcc 3 _ rfl
            have y4 : wr.cell? ⟨g4, i * 8 + 4, none⟩ = some (.int .i64 y.v.whole) := hcc 4 _ rfl
            have y5 : wr.cell? ⟨g4, i * 8 + 5, none⟩ = some (.int .i64 y.v.off) := hcc 5 _ rfl
            have y6 : wr.cell? ⟨g4, i * 8 + 6, none⟩ = some (.int .i64 y.v.size) := hcc 6 _ rfl
            have y7 : wr.cell? ⟨g4, i * 8 + 7, none⟩ = some (.slice y.A y.v.b.length y.c) := hcc 7 _ rfl
            clear hcc
            (try clear hM)
            have HYE := Aside0.mk hy
            clear hy
            go_upto_region 16 with fail
            clear y0 y1 y2 y3 y4 y5 y6 y7
            have HQB := Aside0.mk (below_alloc (Below.refl wr.heap.size wr) (.cells #[.int .u64 y.v.set, .int .i64 y.v.num, .int .i64 y.v.cnt, .bool y.v.sp, .int .i64 y.v.whole, .int .i64 y.v.off, .int .i64 y.v.size, .slice y.A y.v.b.length y.c] 88))
            have HGQ := Aside0.mk (heap_alloc_new wr (.cells #[.int .u64 y.v.set, .int .i64 y.v.num, .int .i64 y.v.cnt, .bool y.v.sp, .int .i64 y.v.whole, .int .i64 y.v.off, .int .i64 y.v.size, .slice y.A y.v.b.length y.c] 88))
            obtain ⟨wq, hwq⟩ : ∃ wq, wq = wr.alloc (.cells #[.int .u64 y.v.set, .int .i64 y.v.num, .int .i64 y.v.cnt, .bool y.v.sp, .int .i64 y.v.whole, .int .i64 y.v.off, .int .i64 y.v.size, .slice y.A y.v.b.length y.c] 88) := ⟨_, rfl⟩
            rw [← hwq] at HQB HGQ ⊢
            clear hwq
            have HJ2 := Aside0.mk (HJ.out.below HQB.out)
            have HQW := Aside0.mk (show w.heap.size ≤ wr.heap.size from HJ.out.bel.size)
            have HNQ := Aside0.mk (show gw < wr.heap.size from blk_lt HJ.out.blk)
            clear HQB
            generalize wr.heap.size = gq at HGQ HQW HNQ ⊢
            have q0 : wq.drew.cell? ⟨gq, 0, none⟩ = some (.int .u64 y.v.set) := cell_of_row wq.drew _ 0 _ 88 (0, 0) HGQ.out
            have q1 : wq.drew.cell? ⟨gq, 1, none⟩ = some (.int .i64 y.v.num) := cell_of_row wq.drew _ 1 _ 88 (0, 0) HGQ.out
            have q2 : wq.drew.cell? ⟨gq, 2, none⟩ = some (.int .i64 y.v.cnt) := cell_of_row wq.drew _ 2 _ 88 (0, 0) HGQ.out
            have q3 : wq.drew.cell? ⟨gq, 3, none⟩ = some (.bool y.v.sp) := cell_of_row wq.drew _ 3 _ 88 (0, 0) HGQ.out
            have q4 : wq.drew.cell? ⟨gq, 4, none⟩ = some (.int .i64 y.v.whole) := cell_of_row wq.drew _ 4 _ 88 (0, 0) HGQ.out
            have q5 : wq.drew.cell? ⟨gq, 5, none⟩ = some (.int .i64 y.v.off) := cell_of_row wq.drew _ 5 _ 88 (0, 0) HGQ.out
            have q6 : wq.drew.cell? ⟨gq, 6, none⟩ = some (.int .i64 y.v.size) := cell_of_row wq.drew _ 6 _ 88 (0, 0) HGQ.out
            have q7 : wq.drew.cell? ⟨gq, 7, none⟩ = some (.slice y.A y.v.b.length y.c) := cell_of_row wq.drew _ 7 _ 88 (0, 0) HGQ.out
            have z0 : wq.drew.cell? ⟨gw, 0, none⟩ = some (.int .u64 x.v.set) := cell_of_row wq.drew _ 0 _ 119 (0, 0) HJ2.out.blk
            have z2 : wq.drew.cell? ⟨gw, 2, none⟩ = some (.int .i64 x.v.cnt) := cell_of_row wq.drew _ 2 _ 119 (0, 0) HJ2.out.blk
            have z4 : wq.drew.cell? ⟨gw, 4, none⟩ = some (.int .i64 x.v.whole) := cell_of_row wq.drew _ 4 _ 119 (0, 0) HJ2.out.blk
            have z7 : wq.drew.cell? ⟨gw, 7, none⟩ = some (.int .i64 (stepV x.v)) := cell_of_row wq.drew _ 7 _ 119 (0, 0) HJ2.out.blk
            have hsy : volumes_volume_step.f 9 y.v.set y.v.num y.v.cnt y.v.sp y.v.whole y.v.off y.v.size y.v.b = some (stepV y.v) ∧ 1 ≤ y.v.cnt ∧ y.v.cnt ≤ 1000 ∧ 0 ≤ y.v.num ∧ y.v.num ≤ y.v.cnt := by
              have h : y.v ∈ L.map vO := by rw [← HCM.out]; exact List.mem_map.2 ⟨y, hym, rfl⟩
              obtain ⟨b, hb, he⟩ := List.mem_map.1 h
              rw [← he]
              exact HO.out b (HGD.out b hb)
            have HSY := Aside0.mk (fun (W : World) (hW : Below w.heap.size w W) => step_callsV (W := W) HVW.out y hym (stepV y.v) hsy.1 hW)
            have HYN := Aside0.mk hsy.2
            have HYM := Aside0.mk hym
            clear hsy hym
            have hcd : agree x.v y.v = true ∧ (slot P y.v.num.toNat = none ∨ slot P y.v.num.toNat = some y.v.b) := by
              have hgr := gather_eq gE vO L x cs ll n HFE.out HLL.out HCM.out (by have := HNX.out; omega)
              rw [HJ2.out.fill, fill_next hi y HYE.out] at hgr
              by_cases hc2 : agree x.v y.v = true ∧ (slot P y.v.num.toNat = none ∨ slot P y.v.num.toNat = some y.v.b)
              · exact hc2
              · rw [if_neg hc2] at hgr
                have hgr2 : gatherR gE vO L = (271, zVol.v, []) := hgr
                have hz := HH0.out
                rw [hgr2] at hz
                rcases hz with hz | hz
                · exact absurd hz (by decide)
                · have h5 := congrArg List.length HCM.out
                  rw [List.length_map, List.length_map, hz, List.length_nil] at h5
                  omega
            have HCD := Aside0.mk hcd
            have hag0 := hcd.1
            unfold agree at hag0
            simp only [Bool.and_eq_true, beq_iff_eq] at hag0
            obtain ⟨⟨⟨e0, e1⟩, e2⟩, e3⟩ := hag0
            clear hcd
            have t0 : (y.v.set != x.v.set) = false := by simp [e0]
            have t1 : (y.v.cnt != x.v.cnt) = false := by simp [e1]
            have t2 : (y.v.whole != x.v.whole) = false := by simp [e2]
            have t3 : (stepV y.v != stepV x.v) = false := by simp [e3]
            have HAG := Aside0.mk (show agree x.v y.v = true by unfold agree; simp [e0, e1, e2, e3])
            clear e0 e1 e2 e3
            have HBD := Aside0.mk (HJ2.out.below (below_drew (Below.refl wq.heap.size wq)))
            have HGQd := Aside0.mk (show wq.drew.heap[gq]? = some (.cells #[.int .u64 y.v.set, .int .i64 y.v.num, .int .i64 y.v.cnt, .bool y.v.sp, .int .i64 y.v.whole, .int .i64 y.v.off, .int .i64 y.v.size, .slice y.A y.v.b.length y.c] 88 (0, 0)) from HGQ.out)
            refine start_ (n := 40) (S := fun w' => w'.cell? ⟨gq, 0, none⟩ = some (.int .u64 y.v.set) ∧ w'.cell? ⟨gq, 1, none⟩ = some (.int .i64 y.v.num) ∧ w'.cell? ⟨gq, 2, none⟩ = some (.int .i64 y.v.cnt) ∧ w'.cell? ⟨gq, 3, none⟩ = some (.bool y.v.sp) ∧ w'.cell? ⟨gq, 4, none⟩ = some (.int .i64 y.v.whole) ∧ w'.cell? ⟨gq, 5, none⟩ = some (.int .i64 y.v.off) ∧ w'.cell? ⟨gq, 6, none⟩ = some (.int .i64 y.v.size) ∧ w'.cell? ⟨gq, 7, none⟩ = some (.slice y.A y.v.b.length y.c) ∧ w'.cell? ⟨gw, 0, none⟩ = some (.int .u64 x.v.set) ∧ w'.cell? ⟨gw, 2, none⟩ = some (.int .i64 x.v.cnt) ∧ w'.cell? ⟨gw, 4, none⟩ = some (.int .i64 x.v.whole) ∧ w'.cell? ⟨gw, 7, none⟩ = some (.int .i64 (stepV x.v))) (ds := []) #[false, false, false, false, false, false, false, false, false, false, false, false, false, false, false, false, false, false, false, false, false, false, false, false, false, false, false, false, false, false, false, false, false, false, false, false, false, false, false, false] (by kernel_rfl) rfl rfl ⟨q0, q1, q2, q3, q4, q5, q6, q7, z0, z2, z4, z7⟩ (fun hHeld => ?_)
            generalize wq.drew = wd at HBD HGQd hHeld q0 q1 q2 q3 q4 q5 q6 q7 z0 z2 z4 z7 ⊢
            refine pure_ (i := 0) (N := some 59) (v := ?_) (a' := ?_) #[true, false, false, false, false, false, false, false, false, false, false, false, false, false, false, false, false, false, false, false, false, false, false, false, false, false, false, false, false, false, false, false, false, false, false, false, false, false, false, false] rfl rfl (by kernel_rfl) (fun _ _ _ h => h) (Or.inl ⟨by rfl, ?_⟩) ?_ ?_
            rotate_left
            · intro w'
              go_simp
              with_reducible rfl
            rotate_left
            · simp only [Act.put, List.setIfInBounds_toArray, List.set_cons_zero, List.set_cons_succ, i64_w, i32_w]
              rfl
            refine pure_ (i := 1) (N := some 60) (v := ?_) (a' := ?_) #[true, true, false, false, false, false, false, false, false, false, false, false, false, false, false, false, false, false, false, false, false, false, false, false, false, false, false, false, false, false, false, false, false, false, false, false, false, false, false, false] rfl rfl (by kernel_rfl) (fun _ _ _ h => h) (Or.inl ⟨by rfl, ?_⟩) ?_ ?_
            rotate_left
            · intro w'
              go_simp
              with_reducible rfl
            rotate_left
            · simp only [Act.put, List.setIfInBounds_toArray, List.set_cons_zero, List.set_cons_succ, i64_w, i32_w]
              rfl
            refine pure_ (i := 3) (N := some 62) (v := ?_) (a' := ?_) #[true, true, false, true, false, false, false, false, false, false, false, false, false, false, false, false, false, false, false, false, false, false, false, false, false, false, false, false, false, false, false, false, false, false, false, false, false, false, false, false] rfl rfl (by kernel_rfl) (fun _ _ _ h => h) (Or.inl ⟨by rfl, ?_⟩) ?_ ?_
            rotate_left
            · intro w'
              go_simp
              with_reducible rfl
            rotate_left
            · simp only [Act.put, List.setIfInBounds_toArray, List.set_cons_zero, List.set_cons_succ, i64_w, i32_w]
              rfl
            refine pure_ (i := 4) (N := some 63) (v := ?_) (a' := ?_) #[true, true, false, true, true, false, false, false, false, false, false, false, false, false, false, false, false, false, false, false, false, false, false, false, false, false, false, false, false, false, false, false, false, false, false, false, false, false, false, false] rfl rfl (by kernel_rfl) (fun _ _ _ h => h) (Or.inl ⟨by rfl, ?_⟩) ?_ ?_
            rotate_left
            · intro w'
              go_simp
              with_reducible rfl
            rotate_left
            · simp only [Act.put, List.setIfInBounds_toArray, List.set_cons_zero, List.set_cons_succ, i64_w, i32_w]
              rfl
            refine pure_ (i := 5) (N := some 64) (v := ?_) (a' := ?_) #[true, true, false, true, true, true, false, false, false, false, false, false, false, false, false, false, false, false, false, false, false, false, false, false, false, false, false, false, false, false, false, false, false, false, false, false, false, false, false, false] rfl rfl (by kernel_rfl) (fun _ _ _ h => h) (Or.inl ⟨by rfl, ?_⟩) ?_ ?_
            rotate_left
            · intro w'
              go_simp
              with_reducible rfl
            rotate_left
            · simp only [Act.put, List.setIfInBounds_toArray, List.set_cons_zero, List.set_cons_succ, i64_w, i32_w]
              rfl
            refine pure_ (i := 6) (N := some 65) (v := ?_) (a' := ?_) #[true, true, false, true, true, true, true, false, false, false, false, false, false, false, false, false, false, false, false, false, false, false, false, false, false, false, false, false, false, false, false, false, false, false, false, false, false, false, false, false] rfl rfl (by kernel_rfl) (fun _ _ _ h => h) (Or.inl ⟨by rfl, ?_⟩) ?_ ?_
            rotate_left
            · intro w'
              go_simp
              with_reducible rfl
            rotate_left
            · simp only [Act.put, List.setIfInBounds_toArray, List.set_cons_zero, List.set_cons_succ, i64_w, i32_w]
              rfl
            refine take_ (i := 2) (N := some 61) (v := ?_) (a' := ?_) #[true, true, true, true, true, true, true, false, false, false, false, false, false, false, false, false, false, false, false, false, false, false, false, false, false, false, false, false, false, false, false, false, false, false, false, false, false, false, false, false] rfl rfl (by kernel_rfl) (fun _ _ _ h => h) (Or.inl ⟨by rfl, ?_⟩) hHeld ?_ ?_
            rotate_left
            · rintro w' ⟨s0, s1, s2, s3, s4, s5, s6, s7, s8, s9, s10, s11⟩
              go_simp
              with_reducible rfl
            rotate_left
            · simp only [Act.put, List.setIfInBounds_toArray, List.set_cons_zero, List.set_cons_succ, i64_w, i32_w]
              rfl
            refine take_ (i := 7) (N := some 66) (v := ?_) (a' := ?_) #[true, true, true, true, true, true, true, true, false, false, false, false, false, false, false, false, false, false, false, false, false, false, false, false, false, false, false, false, false, false, false, false, false, false, false, false, false, false, false, false] rfl rfl (by kernel_rfl) (fun _ _ _ h => h) (Or.inl ⟨by rfl, ?_⟩) hHeld ?_ ?_
            rotate_left
            · rintro w' ⟨s0, s1, s2, s3, s4, s5, s6, s7, s8, s9, s10, s11⟩
              go_simp
              with_reducible rfl
            rotate_left
            · simp only [Act.put, List.setIfInBounds_toArray, List.set_cons_zero, List.set_cons_succ, i64_w, i32_w]
              rfl
            refine pure_ (i := 8) (N := some 67) (v := ?_) (a' := ?_) #[true, true, true, true, true, true, true, true, true, false, false, false, false, false, false, false, false, false, false, false, false, false, false, false, false, false, false, false, false, false, false, false, false, false, false, false, false, false, false, false] rfl rfl (by kernel_rfl) (fun _ _ _ h => h) (Or.inl ⟨by rfl, ?_⟩) ?_ ?_
            rotate_left
            · intro w'
              go_simp
              with_reducible rfl
            rotate_left
            · simp only [Act.put, List.setIfInBounds_toArray, List.set_cons_zero, List.set_cons_succ, i64_w, i32_w]
              rfl
            refine pure_ (i := 9) (N := some 68) (v := ?_) (a' := ?_) #[true, true, true, true, true, true, true, true, true, true, false, false, false, false, false, false, false, false, false, false, false, false, false, false, false, false, false, false, false, false, false, false, false, false, false, false, false, false, false, false] rfl rfl (by kernel_rfl) (fun _ _ _ h => h) (Or.inl ⟨by rfl, ?_⟩) ?_ ?_
            rotate_left
            · intro w'
              go_simp
              with_reducible rfl
            rotate_left
            · simp only [Act.put, List.setIfInBounds_toArray, List.set_cons_zero, List.set_cons_succ, i64_w, i32_w]
              rfl
            refine pure_ (i := 10) (N := some 69) (v := ?_) (a' := ?_) #[true, true, true, true, true, true, true, true, true, true, true, false, false, false, false, false, false, false, false, false, false, false, false, false, false, false, false, false, false, false, false, false, false, false, false, false, false, false, false, false] rfl rfl (by kernel_rfl) (fun _ _ _ h => h) (Or.inl ⟨by rfl, ?_⟩) ?_ ?_
            rotate_left
            · intro w'
              go_simp
              with_reducible rfl
            rotate_left
            · simp only [Act.put, List.setIfInBounds_toArray, List.set_cons_zero, List.set_cons_succ, i64_w, i32_w]
              rfl
            refine pure_ (i := 11) (N := some 70) (v := ?_) (a' := ?_) #[true, true, true, true, true, true, true, true, true, true, true, true, false, false, false, false, false, false, false, false, false, false, false, false, false, false, false, false, false, false, false, false, false, false, false, false, false, false, false, false] rfl rfl (by kernel_rfl) (fun _ _ _ h => h) (Or.inl ⟨by rfl, ?_⟩) ?_ ?_
            rotate_left
            · intro w'
              go_simp
              with_reducible rfl
            rotate_left
            · simp only [Act.put, List.setIfInBounds_toArray, List.set_cons_zero, List.set_cons_succ, i64_w, i32_w]
              rfl
            refine pure_ (i := 13) (N := some 72) (v := ?_) (a' := ?_) #[true, true, true, true, true, true, true, true, true, true, true, true, false, true, false, false, false, false, false, false, false, false, false, false, false, false, false, false, false, false, false, false, false, false, false, false, false, false, false, false] rfl rfl (by kernel_rfl) (fun _ _ _ h => h) (Or.inl ⟨by rfl, ?_⟩) ?_ ?_
            rotate_left
            · intro w'
              go_simp
              with_reducible rfl
            rotate_left
            · simp only [Act.put, List.setIfInBounds_toArray, List.set_cons_zero, List.set_cons_succ, i64_w, i32_w]
              rfl
            refine pure_ (i := 14) (N := some 73) (v := ?_) (a' := ?_) #[true, true, true, true, true, true, true, true, true, true, true, true, false, true, true, false, false, false, false, false, false, false, false, false, false, false, false, false, false, false, false, false, false, false, false, false, false, false, false, false] rfl rfl (by kernel_rfl) (fun _ _ _ h => h) (Or.inl ⟨by rfl, ?_⟩) ?_ ?_
            rotate_left
            · intro w'
              go_simp
              with_reducible rfl
            rotate_left
            · simp only [Act.put, List.setIfInBounds_toArray, List.set_cons_zero, List.set_cons_succ, i64_w, i32_w]
              rfl
            refine pure_ (i := 15) (N := some 74) (v := ?_) (a' := ?_) #[true, true, true, true, true, true, true, true, true, true, true, true, false, true, true, true, false, false, false, false, false, false, false, false, false, false, false, false, false, false, false, false, false, false, false, false, false, false, false, false] rfl rfl (by kernel_rfl) (fun _ _ _ h => h) (Or.inl ⟨by rfl, ?_⟩) ?_ ?_
            rotate_left
            · intro w'
              go_simp
              with_reducible rfl
            rotate_left
            · simp only [Act.put, List.setIfInBounds_toArray, List.set_cons_zero, List.set_cons_succ, i64_w, i32_w]
              rfl
            refine pure_ (i := 16) (N := some 75) (v := ?_) (a' := ?_) #[true, true, true, true, true, true, true, true, true, true, true, true, false, true, true, true, true, false, false, false, false, false, false, false, false, false, false, false, false, false, false, false, false, false, false, false, false, false, false, false] rfl rfl (by kernel_rfl) (fun _ _ _ h => h) (Or.inl ⟨by rfl, ?_⟩) ?_ ?_
            rotate_left
            · intro w'
              go_simp
              with_reducible rfl
            rotate_left
            · simp only [Act.put, List.setIfInBounds_toArray, List.set_cons_zero, List.set_cons_succ, i64_w, i32_w]
              rfl
            refine take_ (i := 12) (N := some 71) (v := ?_) (a' := ?_) #[true, true, true, true, true, true, true, true, true, true, true, true, true, true, true, true, true, false, false, false, false, false, false, false, false, false, false, false, false, false, false, false, false, false, false, false, false, false, false, false] rfl rfl (by kernel_rfl) (fun _ _ _ h => h) (Or.inl ⟨by rfl, ?_⟩) hHeld ?_ ?_
            rotate_left
            · rintro w' ⟨s0, s1, s2, s3, s4, s5, s6, s7, s8, s9, s10, s11⟩
              go_simp
              with_reducible rfl
            rotate_left
            · simp only [Act.put, List.setIfInBounds_toArray, List.set_cons_zero, List.set_cons_succ, i64_w, i32_w]
              rfl
            refine take_ (i := 17) (N := some 76) (v := ?_) (a' := ?_) #[true, true, true, true, true, true, true, true, true, true, true, true, true, true, true, true, true, true, false, false, false, false, false, false, false, false, false, false, false, false, false, false, false, false, false, false, false, false, false, false] rfl rfl (by kernel_rfl) (fun _ _ _ h => h) (Or.inl ⟨by rfl, ?_⟩) hHeld ?_ ?_
            rotate_left
            · rintro w' ⟨s0, s1, s2, s3, s4, s5, s6, s7, s8, s9, s10, s11⟩
              go_simp
              with_reducible rfl
            rotate_left
            · simp only [Act.put, List.setIfInBounds_toArray, List.set_cons_zero, List.set_cons_succ, i64_w, i32_w]
              rfl
            refine pure_ (i := 18) (N := some 77) (v := ?_) (a' := ?_) #[true, true, true, true, true, true, true, true, true, true, true, true, true, true, true, true, true, true, true, false, false, false, false, false, false, false, false, false, false, false, false, false, false, false, false, false, false, false, false, false] rfl rfl (by kernel_rfl) (fun _ _ _ h => h) (Or.inl ⟨by rfl, ?_⟩) ?_ ?_
            rotate_left
            · intro w'
              go_simp
              with_reducible rfl
            rotate_left
            · simp only [Act.put, List.setIfInBounds_toArray, List.set_cons_zero, List.set_cons_succ, i64_w, i32_w]
              rfl
            refine pure_ (i := 19) (N := some 78) (v := ?_) (a' := ?_) #[true, true, true, true, true, true, true, true, true, true, true, true, true, true, true, true, true, true, true, true, false, false, false, false, false, false, false, false, false, false, false, false, false, false, false, false, false, false, false, false] rfl rfl (by kernel_rfl) (fun _ _ _ h => h) (Or.inl ⟨by rfl, ?_⟩) ?_ ?_
            rotate_left
            · intro w'
              go_simp
              with_reducible rfl
            rotate_left
            · simp only [Act.put, List.setIfInBounds_toArray, List.set_cons_zero, List.set_cons_succ, i64_w, i32_w]
              rfl
            refine pure_ (i := 20) (N := some 79) (v := ?_) (a' := ?_) #[true, true, true, true, true, true, true, true, true, true, true, true, true, true, true, true, true, true, true, true, true, false, false, false, false, false, false, false, false, false, false, false, false, false, false, false, false, false, false, false] rfl rfl (by kernel_rfl) (fun _ _ _ h => h) (Or.inl ⟨by rfl, ?_⟩) ?_ ?_
            rotate_left
            · intro w'
              go_simp
              with_reducible rfl
            rotate_left
            · simp only [Act.put, List.setIfInBounds_toArray, List.set_cons_zero, List.set_cons_succ, i64_w, i32_w]
              rfl
            refine pure_ (i := 21) (N := some 80) (v := ?_) (a' := ?_) #[true, true, true, true, true, true, true, true, true, true, true, true, true, true, true, true, true, true, true, true, true, true, false, false, false, false, false, false, false, false, false, false, false, false, false, false, false, false, false, false] rfl rfl (by kernel_rfl) (fun _ _ _ h => h) (Or.inl ⟨by rfl, ?_⟩) ?_ ?_
            rotate_left
            · intro w'
              go_simp
              with_reducible rfl
            rotate_left
            · simp only [Act.put, List.setIfInBounds_toArray, List.set_cons_zero, List.set_cons_succ, i64_w, i32_w]
              rfl
            refine pure_ (i := 22) (N := some 81) (v := ?_) (a' := ?_) #[true, true, true, true, true, true, true, true, true, true, true, true, true, true, true, true, true, true, true, true, true, true, true, false, false, false, false, false, false, false, false, false, false, false, false, false, false, false, false, false] rfl rfl (by kernel_rfl) (fun _ _ _ h => h) (Or.inl ⟨by rfl, ?_⟩) ?_ ?_
            rotate_left
            · intro w'
              go_simp
              with_reducible rfl
            rotate_left
            · simp only [Act.put, List.setIfInBounds_toArray, List.set_cons_zero, List.set_cons_succ, i64_w, i32_w]
              rfl
            refine pure_ (i := 24) (N := some 83) (v := ?_) (a' := ?_) #[true, true, true, true, true, true, true, true, true, true, true, true, true, true, true, true, true, true, true, true, true, true, true, false, true, false, false, false, false, false, false, false, false, false, false, false, false, false, false, false] rfl rfl (by kernel_rfl) (fun _ _ _ h => h) (Or.inl ⟨by rfl, ?_⟩) ?_ ?_
            rotate_left
            · intro w'
              go_simp
              with_reducible rfl
            rotate_left
            · simp only [Act.put, List.setIfInBounds_toArray, List.set_cons_zero, List.set_cons_succ, i64_w, i32_w]
              rfl
            refine pure_ (i := 25) (N := some 84) (v := ?_) (a' := ?_) #[true, true, true, true, true, true, true, true, true, true, true, true, true, true, true, true, true, true, true, true, true, true, true, false, true, true, false, false, false, false, false, false, false, false, false, false, false, false, false, false] rfl rfl (by kernel_rfl) (fun _ _ _ h => h) (Or.inl ⟨by rfl, ?_⟩) ?_ ?_
            rotate_left
            · intro w'
              go_simp
              with_reducible rfl
            rotate_left
            · simp only [Act.put, List.setIfInBounds_toArray, List.set_cons_zero, List.set_cons_succ, i64_w, i32_w]
              rfl
            refine pure_ (i := 26) (N := some 85) (v := ?_) (a' := ?_) #[true, true, true, true, true, true, true, true, true, true, true, true, true, true, true, true, true, true, true, true, true, true, true, false, true, true, true, false, false, false, false, false, false, false, false, false, false, false, false, false] rfl rfl (by kernel_rfl) (fun _ _ _ h => h) (Or.inl ⟨by rfl, ?_⟩) ?_ ?_
            rotate_left
            · intro w'
              go_simp
              with_reducible rfl
            rotate_left
            · simp only [Act.put, List.setIfInBounds_toArray, List.set_cons_zero, List.set_cons_succ, i64_w, i32_w]
              rfl
            refine pure_ (i := 27) (N := some 86) (v := ?_) (a' := ?_) #[true, true, true, true, true, true, true, true, true, true, true, true, true, true, true, true, true, true, true, true, true, true, true, false, true, true, true, true, false, false, false, false, false, false, false, false, false, false, false, false] rfl rfl (by kernel_rfl) (fun _ _ _ h => h) (Or.inl ⟨by rfl, ?_⟩) ?_ ?_
            rotate_left
            · intro w'
              go_simp
              with_reducible rfl
            rotate_left
            · simp only [Act.put, List.setIfInBounds_toArray, List.set_cons_zero, List.set_cons_succ, i64_w, i32_w]
              rfl
            refine take_ (i := 23) (N := some 82) (v := ?_) (a' := ?_) #[true, true, true, true, true, true, true, true, true, true, true, true, true, true, true, true, true, true, true, true, true, true, true, true, true, true, true, true, false, false, false, false, false, false, false, false, false, false, false, false] rfl rfl (by kernel_rfl) (fun _ _ _ h => h) (Or.inl ⟨by rfl, ?_⟩) hHeld ?_ ?_
            rotate_left
            · rintro w' ⟨s0, s1, s2, s3, s4, s5, s6, s7, s8, s9, s10, s11⟩
              go_simp
              with_reducible rfl
            rotate_left
            · simp only [Act.put, List.setIfInBounds_toArray, List.set_cons_zero, List.set_cons_succ, i64_w, i32_w]
              rfl
            refine take_ (i := 28) (N := some 87) (v := ?_) (a' := ?_) #[true, true, true, true, true, true, true, true, true, true, true, true, true, true, true, true, true, true, true, true, true, true, true, true, true, true, true, true, true, false, false, false, false, false, false, false, false, false, false, false] rfl rfl (by kernel_rfl) (fun _ _ _ h => h) (Or.inl ⟨by rfl, ?_⟩) hHeld ?_ ?_
            rotate_left
            · rintro w' ⟨s0, s1, s2, s3, s4, s5, s6, s7, s8, s9, s10, s11⟩
              go_simp
              with_reducible rfl
            rotate_left
            · simp only [Act.put, List.setIfInBounds_toArray, List.set_cons_zero, List.set_cons_succ, i64_w, i32_w]
              rfl
            refine pure_ (i := 29) (N := some 88) (v := ?_) (a' := ?_) #[true, true, true, true, true, true, true, true, true, true, true, true, true, true, true, true, true, true, true, true, true, true, true, true, true, true, true, true, true, true, false, false, false, false, false, false, false, false, false, false] rfl rfl (by kernel_rfl) (fun _ _ _ h => h) (Or.inl ⟨by rfl, ?_⟩) ?_ ?_
            rotate_left
            · intro w'
              go_simp
              with_reducible rfl
            rotate_left
            · simp only [Act.put, List.setIfInBounds_toArray, List.set_cons_zero, List.set_cons_succ, i64_w, i32_w]
              rfl
            refine pure_ (i := 30) (N := some 89) (v := ?_) (a' := ?_) #[true, true, true, true, true, true, true, true, true, true, true, true, true, true, true, true, true, true, true, true, true, true, true, true, true, true, true, true, true, true, true, false, false, false, false, false, false, false, false, false] rfl rfl (by kernel_rfl) (fun _ _ _ h => h) (Or.inl ⟨by rfl, ?_⟩) ?_ ?_
            rotate_left
            · intro w'
              go_simp
              with_reducible rfl
            rotate_left
            · simp only [Act.put, List.setIfInBounds_toArray, List.set_cons_zero, List.set_cons_succ, i64_w, i32_w]
              rfl
            refine pure_ (i := 31) (N := some 90) (v := ?_) (a' := ?_) #[true, true, true, true, true, true, true, true, true, true, true, true, true, true, true, true, true, true, true, true, true, true, true, true, true, true, true, true, true, true, true, true, false, false, false, false, false, false, false, false] rfl rfl (by kernel_rfl) (fun _ _ _ h => h) (Or.inl ⟨by rfl, ?_⟩) ?_ ?_
            rotate_left
            · intro w'
              go_simp
              with_reducible rfl
            rotate_left
            · simp only [Act.put, List.setIfInBounds_toArray, List.set_cons_zero, List.set_cons_succ, i64_w, i32_w]
              rfl
            refine pure_ (i := 34) (N := some 93) (v := ?_) (a' := ?_) #[true, true, true, true, true, true, true, true, true, true, true, true, true, true, true, true, true, true, true, true, true, true, true, true, true, true, true, true, true, true, true, true, false, false, true, false, false, false, false, false] rfl rfl (by kernel_rfl) (fun _ _ _ h => h) (Or.inl ⟨by rfl, ?_⟩) ?_ ?_
            rotate_left
            · intro w'
              go_simp
              with_reducible rfl
            rotate_left
            · simp only [Act.put, List.setIfInBounds_toArray, List.set_cons_zero, List.set_cons_succ, i64_w, i32_w]
              rfl
            refine pure_ (i := 35) (N := some 94) (v := ?_) (a' := ?_) #[true, true, true, true, true, true, true, true, true, true, true, true, true, true, true, true, true, true, true, true, true, true, true, true, true, true, true, true, true, true, true, true, false, false, true, true, false, false, false, false] rfl rfl (by kernel_rfl) (fun _ _ _ h => h) (Or.inl ⟨by rfl, ?_⟩) ?_ ?_
            rotate_left
            · intro w'
              go_simp
              with_reducible rfl
            rotate_left
            · simp only [Act.put, List.setIfInBounds_toArray, List.set_cons_zero, List.set_cons_succ, i64_w, i32_w]
              rfl
            refine pure_ (i := 36) (N := some 95) (v := ?_) (a' := ?_) #[true, true, true, true, true, true, true, true, true, true, true, true, true, true, true, true, true, true, true, true, true, true, true, true, true, true, true, true, true, true, true, true, false, false, true, true, true, false, false, false] rfl rfl (by kernel_rfl) (fun _ _ _ h => h) (Or.inl ⟨by rfl, ?_⟩) ?_ ?_
            rotate_left
            · intro w'
              go_simp
              with_reducible rfl
            rotate_left
            · simp only [Act.put, List.setIfInBounds_toArray, List.set_cons_zero, List.set_cons_succ, i64_w, i32_w]
              rfl
            refine take_ (i := 32) (N := some 91) (v := ?_) (a' := ?_) #[true, true, true, true, true, true, true, true, true, true, true, true, true, true, true, true, true, true, true, true, true, true, true, true, true, true, true, true, true, true, true, true, true, false, true, true, true, false, false, false] rfl rfl (by kernel_rfl) (fun _ _ _ h => h) (Or.inl ⟨by rfl, ?_⟩) hHeld ?_ ?_
            rotate_left
            · rintro w' ⟨s0, s1, s2, s3, s4, s5, s6, s7, s8, s9, s10, s11⟩
              go_simp
              with_reducible rfl
            rotate_left
            · simp only [Act.put, List.setIfInBounds_toArray, List.set_cons_zero, List.set_cons_succ, i64_w, i32_w]
              rfl
            refine take_ (i := 37) (N := some 96) (v := ?_) (a' := ?_) #[true, true, true, true, true, true, true, true, true, true, true, true, true, true, true, true, true, true, true, true, true, true, true, true, true, true, true, true, true, true, true, true, true, false, true, true, true, true, false, false] rfl rfl (by kernel_rfl) (fun _ _ _ h => h) (Or.inl ⟨by rfl, ?_⟩) hHeld ?_ ?_
            rotate_left
            · rintro w' ⟨s0, s1, s2, s3, s4, s5, s6, s7, s8, s9, s10, s11⟩
              go_simp
              with_reducible rfl
            rotate_left
            · simp only [Act.put, List.setIfInBounds_toArray, List.set_cons_zero, List.set_cons_succ, i64_w, i32_w]
              rfl
            refine one_ (i := 33) (N := some 92) #[true, true, true, true, true, true, true, true, true, true, true, true, true, true, true, true, true, true, true, true, true, true, true, true, true, true, true, true, true, true, true, true, true, true, true, true, true, true, false, false] rfl rfl (by kernel_rfl) (by decide) (fun K hK => ?_)
            refine goes_ Try.func92 (by kernel_rfl) rfl #[.agg #[.int .u64 y.v.set, .int .i64 y.v.num, .int .i64 y.v.cnt, .bool y.v.sp, .int .i64 y.v.whole, .int .i64 y.v.off, .int .i64 y.v.size, .slice y.A y.v.b.length y.c]] (by rfl) rfl rfl (by simp only [List.map_toArray, List.map_cons, List.map_nil]; rfl) ?_
            with_reducible refine ((HSY.out wd HBD.out.bel)).mono ?_
            rintro e w7 ⟨rfl, b7⟩
            refine ⟨_, rfl, ?_⟩
            have HB7 := Aside0.mk b7
            clear b7
            refine hK.out _ _ ⟨(pw_cell_below HB7.out q0), (pw_cell_below HB7.out q1), (pw_cell_below HB7.out q2), (pw_cell_below HB7.out q3), (pw_cell_below HB7.out q4), (pw_cell_below HB7.out q5), (pw_cell_below HB7.out q6), (pw_cell_below HB7.out q7), (pw_cell_below HB7.out z0), (pw_cell_below HB7.out z2), (pw_cell_below HB7.out z4), (pw_cell_below HB7.out z7)⟩ (fun hHeld => ?_)
            clear hK K
            refine norm_ (a' := ?_) ?_ ?_
            rotate_left
            · show Act.put _ (some 92) _ = _
              simp only [Act.put, List.setIfInBounds_toArray, List.set_cons_zero, List.set_cons_succ, i64_w, i32_w]
              rfl
            refine pure_ (i := 38) (N := some 97) (v := ?_) (a' := ?_) #[true, true, true, true, true, true, true, true, true, true, true, true, true, true, true, true, true, true, true, true, true, true, true, true, true, true, true, true, true, true, true, true, true, true, true, true, true, true, true, false] rfl rfl (by kernel_rfl) (fun _ _ _ h => h) (Or.inl ⟨by rfl, ?_⟩) ?_ ?_
            rotate_left
            · intro w'
              go_simp
              with_reducible rfl
            rotate_left
            · simp only [Act.put, List.setIfInBounds_toArray, List.set_cons_zero, List.set_cons_succ, i64_w, i32_w]
              rfl
            refine pure_ (i := 39) (N := some 98) (v := ?_) (a' := ?_) #[true, true, true, true, true, true, true, true, true, true, true, true, true, true, true, true, true, true, true, true, true, true, true, true, true, true, true, true, true, true, true, true, true, true, true, true, true, true, true, true] rfl rfl (by kernel_rfl) (fun _ _ _ h => h) (Or.inl ⟨by rfl, ?_⟩) ?_ ?_
            rotate_left
            · intro w'
              go_simp
              with_reducible rfl
            rotate_left
            · simp only [Act.put, List.setIfInBounds_toArray, List.set_cons_zero, List.set_cons_succ, i64_w, i32_w]
              rfl
            refine done_ (by kernel_rfl) ?_
            have HJ7 := Aside0.mk (HBD.out.below HB7.out)
            have HG7 := Aside0.mk ((HB7.out.block _ (blk_lt HGQd.out)).trans HGQd.out)
            clear q0 q1 q2 q3 q4 q5 q6 q7 z0 z2 z4 z7 t0 t1 t2 t3 hHeld
            clear HBD HB7 HGQd
            obtain ⟨m, hm⟩ : ∃ m : Nat, y.v.num = (m : Int) := ⟨y.v.num.toNat, by have := HYN.out; omega⟩
            have hcn : y.v.cnt = x.v.cnt := by
              have h := HAG.out
              unfold agree at h
              simp only [Bool.and_eq_true, beq_iff_eq] at h
              exact h.1.1.2
            have hmn : m < n := by have := HYN.out; have := HNX.out; omega
            have HMY := Aside0.mk hm
            have HMN := Aside0.mk hmn
            obtain ⟨ps, hps, hmat⟩ := HJ7.out.rowP
            have a8 : w7.drew.cell? ⟨gw, 8, none⟩ = some (.slice (some ⟨gl, 0, none⟩) n cl) := cell_of_row w7.drew _ 8 _ 119 (0, 0) HJ7.out.blk
            have a1 : w7.drew.cell? ⟨gq, 1, none⟩ = some (.int .i64 (m : Int)) := by rw [← hm]; exact cell_of_row w7.drew _ 1 _ 88 (0, 0) HG7.out
            have am : w7.drew.cell? ⟨gl, m, none⟩ = some (.pointer (ps.getD m none)) := by
              have h := (Kd.R_celln (enc := Value.pointer) (h1 := fun _ => rfl) (none : Option Addr) (Kd.R_drew hps) (m : Int) (by omega) (by omega)).1
              rw [Int.toNat_natCast] at h
              exact h
            have dm : (m : Int) < (n : Int) := by omega
            have HMT := Aside0.mk (hmat m hmn)
            clear hm hcn hps hmat
            obtain ⟨po, hpo⟩ : ∃ po, po = ps.getD m none := ⟨_, rfl⟩
            rw [← hpo] at am HMT
            have HPO := Aside0.mk hpo
            clear hpo
            go_upto_region 18 with fail
            refine start_ (n := 10) (S := fun w' => w'.cell? ⟨gw, 8, none⟩ = some (.slice (some ⟨gl, 0, none⟩) n cl) ∧ w'.cell? ⟨gq, 1, none⟩ = some (.int .i64 (m : Int)) ∧ w'.cell? ⟨gl, m, none⟩ = some (.pointer po)) (ds := []) #[false, false, false, false, false, false, false, false, false, false] (by kernel_rfl) rfl rfl ⟨a8, a1, am⟩ (fun hHeld => ?_)
            refine pure_ (i := 0) (N := some 99) (v := ?_) (a' := ?_) #[true, false, false, false, false, false, false, false, false, false] rfl rfl (by kernel_rfl) (fun _ _ _ h => h) (Or.inl ⟨by rfl, ?_⟩) ?_ ?_
            rotate_left
            · intro w'
              go_simp
              with_reducible rfl
            rotate_left
            · simp only [Act.put, List.setIfInBounds_toArray, List.set_cons_zero, List.set_cons_succ, i64_w, i32_w]
              rfl
            refine pure_ (i := 1) (N := some 100) (v := ?_) (a' := ?_) #[true, true, false, false, false, false, false, false, false, false] rfl rfl (by kernel_rfl) (fun _ _ _ h => h) (Or.inl ⟨by rfl, ?_⟩) ?_ ?_
            rotate_left
            · intro w'
              go_simp
              with_reducible rfl
            rotate_left
            · simp only [Act.put, List.setIfInBounds_toArray, List.set_cons_zero, List.set_cons_succ, i64_w, i32_w]
              rfl
            refine pure_ (i := 2) (N := some 101) (v := ?_) (a' := ?_) #[true, true, true, false, false, false, false, false, false, false] rfl rfl (by kernel_rfl) (fun _ _ _ h => h) (Or.inl ⟨by rfl, ?_⟩) ?_ ?_
            rotate_left
            · intro w'
              go_simp
              with_reducible rfl
            rotate_left
            · simp only [Act.put, List.setIfInBounds_toArray, List.set_cons_zero, List.set_cons_succ, i64_w, i32_w]
              rfl
            refine pure_ (i := 4) (N := some 103) (v := ?_) (a' := ?_) #[true, true, true, false, true, false, false, false, false, false] rfl rfl (by kernel_rfl) (fun _ _ _ h => h) (Or.inl ⟨by rfl, ?_⟩) ?_ ?_
            rotate_left
            · intro w'
              go_simp
              with_reducible rfl
            rotate_left
            · simp only [Act.put, List.setIfInBounds_toArray, List.set_cons_zero, List.set_cons_succ, i64_w, i32_w]
              rfl
            refine pure_ (i := 5) (N := some 104) (v := ?_) (a' := ?_) #[true, true, true, false, true, true, false, false, false, false] rfl rfl (by kernel_rfl) (fun _ _ _ h => h) (Or.inl ⟨by rfl, ?_⟩) ?_ ?_
            rotate_left
            · intro w'
              go_simp
              with_reducible rfl
            rotate_left
            · simp only [Act.put, List.setIfInBounds_toArray, List.set_cons_zero, List.set_cons_succ, i64_w, i32_w]
              rfl
            refine take_ (i := 3) (N := some 102) (v := ?_) (a' := ?_) #[true, true, true, true, true, true, false, false, false, false] rfl rfl (by kernel_rfl) (fun _ _ _ h => h) (Or.inl ⟨by rfl, ?_⟩) hHeld ?_ ?_
            rotate_left
            · rintro w' ⟨s0, s1, s2⟩
              go_simp
              with_reducible rfl
            rotate_left
            · simp only [Act.put, List.setIfInBounds_toArray, List.set_cons_zero, List.set_cons_succ, i64_w, i32_w]
              rfl
            refine take_ (i := 6) (N := some 105) (v := ?_) (a' := ?_) #[true, true, true, true, true, true, true, false, false, false] rfl rfl (by kernel_rfl) (fun _ _ _ h => h) (Or.inl ⟨by rfl, ?_⟩) hHeld ?_ ?_
            rotate_left
            · rintro w' ⟨s0, s1, s2⟩
              go_simp
              with_reducible rfl
            rotate_left
            · simp only [Act.put, List.setIfInBounds_toArray, List.set_cons_zero, List.set_cons_succ, i64_w, i32_w]
              rfl
            refine pure_ (i := 7) (N := some 106) (v := ?_) (a' := ?_) #[true, true, true, true, true, true, true, true, false, false] rfl rfl (by kernel_rfl) (fun _ _ _ h => h) (Or.inl ⟨by rfl, ?_⟩) ?_ ?_
            rotate_left
            · intro w'
              go_simp
              with_reducible rfl
            rotate_left
            · simp only [Act.put, List.setIfInBounds_toArray, List.set_cons_zero, List.set_cons_succ, i64_w, i32_w]
              rfl
            refine take_ (i := 8) (N := some 107) (v := ?_) (a' := ?_) #[true, true, true, true, true, true, true, true, true, false] rfl rfl (by kernel_rfl) (fun _ _ _ h => h) (Or.inl ⟨by rfl, ?_⟩) hHeld ?_ ?_
            rotate_left
            · rintro w' ⟨s0, s1, s2⟩
              go_simp
              with_reducible rfl
            rotate_left
            · simp only [Act.put, List.setIfInBounds_toArray, List.set_cons_zero, List.set_cons_succ, i64_w, i32_w]
              rfl
            refine pure_ (i := 9) (N := some 12) (v := ?_) (a' := ?_) #[true, true, true, true, true, true, true, true, true, true] rfl rfl (by kernel_rfl) (fun _ _ _ h => h) (Or.inl ⟨by rfl, ?_⟩) ?_ ?_
            rotate_left
            · intro w'
              go_simp
              with_reducible rfl
            rotate_left
            · simp only [Act.put, List.setIfInBounds_toArray, List.set_cons_zero, List.set_cons_succ, i64_w, i32_w]
              rfl
            refine done_ (by kernel_rfl) ?_
            have HJ8 := Aside0.mk (HJ7.out.below (below_drew (Below.refl w7.heap.size w7)))
            have HG8 := Aside0.mk (show w7.drew.heap[gq]? = some (.cells #[.int .u64 y.v.set, .int .i64 y.v.num, .int .i64 y.v.cnt, .bool y.v.sp, .int .i64 y.v.whole, .int .i64 y.v.off, .int .i64 y.v.size, .slice y.A y.v.b.length y.c] 88 (0, 0)) from HG7.out)
            generalize w7.drew = w8 at HJ8 HG8 ⊢
            clear HJ7 HG7 a8 a1 am hHeld
            rcases HMT.out with ⟨rfl, hP⟩ | ⟨j, hj, rfl, hP⟩
            · have HPP := Aside0.mk (show slot P m = none ∨ slot P m = some y.v.b from .inl hP)
              clear hP
              go_upto_region 19 with fail
              refine start_ (n := 12) (S := fun w' => True) (ds := []) #[false, false, false, false, false, false, false, false, false, false, false, false] (by kernel_rfl) rfl rfl trivial (fun hHeld => ?_)
              refine pure_ (i := 0) (N := some 108) (v := ?_) (a' := ?_) #[true, false, false, false, false, false, false, false, false, false, false, false] rfl rfl (by kernel_rfl) (fun _ _ _ h => h) (Or.inl ⟨by rfl, ?_⟩) ?_ ?_
              rotate_left
              · intro w'
                go_simp
                with_reducible rfl
              rotate_left
              · simp only [Act.put, List.setIfInBounds_toArray, List.set_cons_zero, List.set_cons_succ, i64_w, i32_w]
                rfl
              refine pure_ (i := 1) (N := some 109) (v := ?_) (a' := ?_) #[true, true, false, false, false, false, false, false, false, false, false, false] rfl rfl (by kernel_rfl) (fun _ _ _ h => h) (Or.inl ⟨by rfl, ?_⟩) ?_ ?_
              rotate_left
              · intro w'
                go_simp
                with_reducible rfl
              rotate_left
              · simp only [Act.put, List.setIfInBounds_toArray, List.set_cons_zero, List.set_cons_succ, i64_w, i32_w]
                rfl
              refine pure_ (i := 2) (N := some 110) (v := ?_) (a' := ?_) #[true, true, true, false, false, false, false, false, false, false, false, false] rfl rfl (by kernel_rfl) (fun _ _ _ h => h) (Or.inl ⟨by rfl, ?_⟩) ?_ ?_
              rotate_left
              · intro w'
                go_simp
                with_reducible rfl
              rotate_left
              · simp only [Act.put, List.setIfInBounds_toArray, List.set_cons_zero, List.set_cons_succ, i64_w, i32_w]
                rfl
              refine pure_ (i := 3) (N := some 111) (v := undef) (a' := ?_) #[true, true, true, true, false, false, false, false, false, false, false, false] rfl rfl (by kernel_rfl) (fun _ _ _ h => h) (Or.inr ⟨by rfl, rfl⟩) ?_ ?_
              rotate_left
              · simp only [Act.put, List.setIfInBounds_toArray, List.set_cons_zero, List.set_cons_succ, i64_w, i32_w]
                rfl
              refine pure_ (i := 4) (N := some 112) (v := undef) (a' := ?_) #[true, true, true, true, true, false, false, false, false, false, false, false] rfl rfl (by kernel_rfl) (fun _ _ _ h => h) (Or.inr ⟨by rfl, rfl⟩) ?_ ?_
              rotate_left
              · simp only [Act.put, List.setIfInBounds_toArray, List.set_cons_zero, List.set_cons_succ, i64_w, i32_w]
                rfl
              refine pure_ (i := 5) (N := some 113) (v := undef) (a' := ?_) #[true, true, true, true, true, true, false, false, false, false, false, false] rfl rfl (by kernel_rfl) (fun _ _ _ h => h) (Or.inr ⟨by rfl, rfl⟩) ?_ ?_
              rotate_left
              · simp only [Act.put, List.setIfInBounds_toArray, List.set_cons_zero, List.set_cons_succ, i64_w, i32_w]
                rfl
              refine pure_ (i := 6) (N := some 114) (v := undef) (a' := ?_) #[true, true, true, true, true, true, true, false, false, false, false, false] rfl rfl (by kernel_rfl) (fun _ _ _ h => h) (Or.inr ⟨by rfl, rfl⟩) ?_ ?_
              rotate_left
              · simp only [Act.put, List.setIfInBounds_toArray, List.set_cons_zero, List.set_cons_succ, i64_w, i32_w]
                rfl
              refine pure_ (i := 7) (N := some 115) (v := undef) (a' := ?_) #[true, true, true, true, true, true, true, true, false, false, false, false] rfl rfl (by kernel_rfl) (fun _ _ _ h => h) (Or.inr ⟨by rfl, rfl⟩) ?_ ?_
              rotate_left
              · simp only [Act.put, List.setIfInBounds_toArray, List.set_cons_zero, List.set_cons_succ, i64_w, i32_w]
                rfl
              refine pure_ (i := 8) (N := some 116) (v := undef) (a' := ?_) #[true, true, true, true, true, true, true, true, true, false, false, false] rfl rfl (by kernel_rfl) (fun _ _ _ h => h) (Or.inr ⟨by rfl, rfl⟩) ?_ ?_
              rotate_left
              · simp only [Act.put, List.setIfInBounds_toArray, List.set_cons_zero, List.set_cons_succ, i64_w, i32_w]
                rfl
              refine pure_ (i := 9) (N := some 117) (v := undef) (a' := ?_) #[true, true, true, true, true, true, true, true, true, true, false, false] rfl rfl (by kernel_rfl) (fun _ _ _ h => h) (Or.inr ⟨by rfl, rfl⟩) ?_ ?_
              rotate_left
              · simp only [Act.put, List.setIfInBounds_toArray, List.set_cons_zero, List.set_cons_succ, i64_w, i32_w]
                rfl
              refine pure_ (i := 10) (N := some 118) (v := undef) (a' := ?_) #[true, true, true, true, true, true, true, true, true, true, true, false] rfl rfl (by kernel_rfl) (fun _ _ _ h => h) (Or.inr ⟨by rfl, rfl⟩) ?_ ?_
              rotate_left
              · simp only [Act.put, List.setIfInBounds_toArray, List.set_cons_zero, List.set_cons_succ, i64_w, i32_w]
                rfl
              refine pure_ (i := 11) (N := some 119) (v := ?_) (a' := ?_) #[true, true, true, true, true, true, true, true, true, true, true, true] rfl rfl (by kernel_rfl) (fun _ _ _ h => h) (Or.inl ⟨by rfl, ?_⟩) ?_ ?_
              rotate_left
              · intro w'
                go_simp
                with_reducible rfl
              rotate_left
              · simp only [Act.put, List.setIfInBounds_toArray, List.set_cons_zero, List.set_cons_succ, i64_w, i32_w]
                rfl
              refine done_ (by kernel_rfl) ?_
              go_upto_region 21 with fail
              have HJ9 := Aside0.mk (HJ8.out.below (below_drew (Below.refl w8.heap.size w8)))
              have HG9 := Aside0.mk (show w8.drew.heap[gq]? = some (.cells #[.int .u64 y.v.set, .int .i64 y.v.num, .int .i64 y.v.cnt, .bool y.v.sp, .int .i64 y.v.whole, .int .i64 y.v.off, .int .i64 y.v.size, .slice y.A y.v.b.length y.c] 88 (0, 0)) from HG8.out)
              generalize w8.drew = w9 at HJ9 HG9 ⊢
              clear HJ8 HG8
              have a8 : w9.drew.cell? ⟨gw, 8, none⟩ = some (.slice (some ⟨gl, 0, none⟩) n cl) := cell_of_row w9.drew _ 8 _ 119 (0, 0) HJ9.out.blk
              have a1 : w9.drew.cell? ⟨gq, 1, none⟩ = some (.int .i64 (m : Int)) := by rw [← HMY.out]; exact cell_of_row w9.drew _ 1 _ 88 (0, 0) HG9.out
              obtain ⟨ps2, hps2, _⟩ := HJ9.out.rowP
              have am := Kd.R_celln (enc := Value.pointer) (h1 := fun _ => rfl) (none : Option Addr) (Kd.R_drew hps2) (m : Int) (by omega) (by have := HMN.out; omega)
              rw [Int.toNat_natCast] at am
              obtain ⟨am, fm⟩ := am
              have HJB := Aside0.mk (HJ9.out.below (below_drew (Below.refl w9.heap.size w9)))
              clear hps2
              refine start_ (n := 12) (S := fun w' => w'.cell? ⟨gw, 8, none⟩ = some (.slice (some ⟨gl, 0, none⟩) n cl) ∧ w'.cell? ⟨gq, 1, none⟩ = some (.int .i64 (m : Int))) (ds := [11]) #[false, false, false, false, false, false, false, false, false, false, false, false] (by kernel_rfl) rfl rfl ⟨a8, a1⟩ (fun hHeld => ?_)
              generalize w9.drew = wd at HJB hHeld a8 a1 am fm ⊢
              refine pure_ (i := 0) (N := some 120) (v := ?_) (a' := ?_) #[true, false, false, false, false, false, false, false, false, false, false, false] rfl rfl (by kernel_rfl) (fun _ _ _ h => h) (Or.inl ⟨by rfl, ?_⟩) ?_ ?_
              rotate_left
              · intro w'
                go_simp
                with_reducible rfl
              rotate_left
              · simp only [Act.put, List.setIfInBounds_toArray, List.set_cons_zero, List.set_cons_succ, i64_w, i32_w]
                rfl
              refine pure_ (i := 1) (N := some 121) (v := ?_) (a' := ?_) #[true, true, false, false, false, false, false, false, false, false, false, false] rfl rfl (by kernel_rfl) (fun _ _ _ h => h) (Or.inl ⟨by rfl, ?_⟩) ?_ ?_
              rotate_left
              · intro w'
                go_simp
                with_reducible rfl
              rotate_left
              · simp only [Act.put, List.setIfInBounds_toArray, List.set_cons_zero, List.set_cons_succ, i64_w, i32_w]
                rfl
              refine pure_ (i := 2) (N := some 122) (v := ?_) (a' := ?_) #[true, true, true, false, false, false, false, false, false, false, false, false] rfl rfl (by kernel_rfl) (fun _ _ _ h => h) (Or.inl ⟨by rfl, ?_⟩) ?_ ?_
              rotate_left
              · intro w'
                go_simp
                with_reducible rfl
              rotate_left
              · simp only [Act.put, List.setIfInBounds_toArray, List.set_cons_zero, List.set_cons_succ, i64_w, i32_w]
                rfl
              refine pure_ (i := 4) (N := some 124) (v := ?_) (a' := ?_) #[true, true, true, false, true, false, false, false, false, false, false, false] rfl rfl (by kernel_rfl) (fun _ _ _ h => h) (Or.inl ⟨by rfl, ?_⟩) ?_ ?_
              rotate_left
              · intro w'
                go_simp
                with_reducible rfl
              rotate_left
              · simp only [Act.put, List.setIfInBounds_toArray, List.set_cons_zero, List.set_cons_succ, i64_w, i32_w]
                rfl
              refine pure_ (i := 5) (N := some 125) (v := ?_) (a' := ?_) #[true, true, true, false, true, true, false, false, false, false, false, false] rfl rfl (by kernel_rfl) (fun _ _ _ h => h) (Or.inl ⟨by rfl, ?_⟩) ?_ ?_
              rotate_left
              · intro w'
                go_simp
                with_reducible rfl
              rotate_left
              · simp only [Act.put, List.setIfInBounds_toArray, List.set_cons_zero, List.set_cons_succ, i64_w, i32_w]
                rfl
              refine pure_ (i := 7) (N := some 127) (v := ?_) (a' := ?_) #[true, true, true, false, true, true, false, true, false, false, false, false] rfl rfl (by kernel_rfl) (fun _ _ _ h => h) (Or.inl ⟨by rfl, ?_⟩) ?_ ?_
              rotate_left
              · intro w'
                go_simp
                with_reducible rfl
              rotate_left
              · simp only [Act.put, List.setIfInBounds_toArray, List.set_cons_zero, List.set_cons_succ, i64_w, i32_w]
                rfl
              refine pure_ (i := 8) (N := some 128) (v := ?_) (a' := ?_) #[true, true, true, false, true, true, false, true, true, false, false, false] rfl rfl (by kernel_rfl) (fun _ _ _ h => h) (Or.inl ⟨by rfl, ?_⟩) ?_ ?_
              rotate_left
              · intro w'
                go_simp
                with_reducible rfl
              rotate_left
              · simp only [Act.put, List.setIfInBounds_toArray, List.set_cons_zero, List.set_cons_succ, i64_w, i32_w]
                rfl
              refine pure_ (i := 9) (N := some 129) (v := ?_) (a' := ?_) #[true, true, true, false, true, true, false, true, true, true, false, false] rfl rfl (by kernel_rfl) (fun _ _ _ h => h) (Or.inl ⟨by rfl, ?_⟩) ?_ ?_
              rotate_left
              · intro w'
                go_simp
                with_reducible rfl
              rotate_left
              · simp only [Act.put, List.setIfInBounds_toArray, List.set_cons_zero, List.set_cons_succ, i64_w, i32_w]
                rfl
              refine take_ (i := 3) (N := some 123) (v := ?_) (a' := ?_) #[true, true, true, true, true, true, false, true, true, true, false, false] rfl rfl (by kernel_rfl) (fun _ _ _ h => h) (Or.inl ⟨by rfl, ?_⟩) hHeld ?_ ?_
              rotate_left
              · rintro w' ⟨s0, s1⟩
                go_simp
                with_reducible rfl
              rotate_left
              · simp only [Act.put, List.setIfInBounds_toArray, List.set_cons_zero, List.set_cons_succ, i64_w, i32_w]
                rfl
              refine take_ (i := 6) (N := some 126) (v := ?_) (a' := ?_) #[true, true, true, true, true, true, true, true, true, true, false, false] rfl rfl (by kernel_rfl) (fun _ _ _ h => h) (Or.inl ⟨by rfl, ?_⟩) hHeld ?_ ?_
              rotate_left
              · rintro w' ⟨s0, s1⟩
                go_simp
                with_reducible rfl
              rotate_left
              · simp only [Act.put, List.setIfInBounds_toArray, List.set_cons_zero, List.set_cons_succ, i64_w, i32_w]
                rfl
              refine pure_ (i := 10) (N := some 130) (v := ?_) (a' := ?_) #[true, true, true, true, true, true, true, true, true, true, true, false] rfl rfl (by kernel_rfl) (fun _ _ _ h => h) (Or.inl ⟨by rfl, ?_⟩) ?_ ?_
              rotate_left
              · intro w'
                go_simp
                with_reducible rfl
              rotate_left
              · simp only [Act.put, List.setIfInBounds_toArray, List.set_cons_zero, List.set_cons_succ, i64_w, i32_w]
                rfl
              refine last_ (i := 11) (N := none) #[true, true, true, true, true, true, true, true, true, true, true, true] rfl rfl (by kernel_rfl) (by decide) (fun K hK => ?_)
              refine skip_ (w1 := ?_) (by rfl) rfl ?_ ?_
              rotate_left
              · go_simp
                rfl
              refine hK.out _ _ ?_
              clear hK K
              refine done_ (by kernel_rfl) ?_
              go_wp2
              go_roundg k2
              case measure => have := HM2.out; omega
              case rel => exact ⟨i + 1, P.set m (some y.v.b), by first | rfl | (rw [wrap_succ _ (by have := HM2.out; have := HLN.out; have := HN.out; omega)]), ⟨HJB.out.step (by have := HM2.out; omega) HYE.out HMY.out HMN.out HAG.out HPP.out⟩, ⟨by have := HM2.out; omega, by have := HM2.out; omega⟩⟩
            · have HP2 := Aside0.mk hP
              obtain ⟨z, hz⟩ : ∃ z, z = ll.getD j zVol := ⟨_, rfl⟩
              have hjl : j < ll.length := by omega
              have hzm : z ∈ ll := by rw [hz, List.getD_eq_getElem?_getD, List.getElem?_eq_getElem hjl, Option.getD_some]; exact List.getElem_mem _
              obtain ⟨cc, _, hM, hcc, _⟩ := Kd.R_elem (Kd.R_drew HJ8.out.rowV) zVol (j : Int) (by omega) (by omega)
              rw [Int.toNat_natCast, ← hz] at hM
              rw [Int.toNat_natCast] at hcc
              obtain rfl : cc = z.cells := hM
              have b7 : w8.drew.cell? ⟨g4, j * 8 + 7, none⟩ = some (.slice z.A z.v.b.length z.c) := hcc 7 _ rfl
              have c7 : w8.drew.cell? ⟨gq, 7, none⟩ = some (.slice y.A y.v.b.length y.c) := cell_of_row w8.drew _ 7 _ 88 (0, 0) HG8.out
              have HEQ := Aside0.mk (fun (W : World) (hW : Below w.heap.size w W) => equal_calls z.A z.c z.v.b y.A y.c y.v.b W ((HVW.out z hzm).1.below hW) ((HVW.out y HYM.out).1.below hW) (HVW.out z hzm).2.2.2 (HVW.out y HYM.out).2.2.2)
              rw [← hz] at HP2
              clear hcc hzm hz hP hj hjl
              (try clear hM)
              have heq : z.v.b = y.v.b := by
                have h2 := HCD.out.2
                rw [HMY.out, Int.toNat_natCast, HP2.out] at h2
                rcases h2 with h2 | h2
                · exact absurd h2 (by simp)
                · injection h2
              have hde : decide (z.v.b = y.v.b) = true := decide_eq_true heq
              have HPP := Aside0.mk (show slot P m = none ∨ slot P m = some y.v.b from .inr (by rw [HP2.out, heq]))
              clear heq
              rw [hde] at HEQ
              clear hde
              go_upto_region 19 with fail
              have HJA := Aside0.mk (HJ8.out.below (below_drew (Below.refl w8.heap.size w8)))
              have HGA := Aside0.mk (show w8.drew.heap[gq]? = some (.cells #[.int .u64 y.v.set, .int .i64 y.v.num, .int .i64 y.v.cnt, .bool y.v.sp, .int .i64 y.v.whole, .int .i64 y.v.off, .int .i64 y.v.size, .slice y.A y.v.b.length y.c] 88 (0, 0)) from HG8.out)
              refine start_ (n := 12) (S := fun w' => w'.cell? ⟨g4, j * 8 + 7, none⟩ = some (.slice z.A z.v.b.length z.c) ∧ w'.cell? ⟨gq, 7, none⟩ = some (.slice y.A y.v.b.length y.c)) (ds := []) #[false, false, false, false, false, false, false, false, false, false, false, false] (by kernel_rfl) rfl rfl ⟨b7, c7⟩ (fun hHeld => ?_)
              generalize w8.drew = wd at HJA HGA hHeld b7 c7 ⊢
              refine pure_ (i := 0) (N := some 108) (v := ?_) (a' := ?_) #[true, false, false, false, false, false, false, false, false, false, false, false] rfl rfl (by kernel_rfl) (fun _ _ _ h => h) (Or.inl ⟨by rfl, ?_⟩) ?_ ?_
              rotate_left
              · intro w'
                go_simp
                with_reducible rfl
              rotate_left
              · simp only [Act.put, List.setIfInBounds_toArray, List.set_cons_zero, List.set_cons_succ, i64_w, i32_w]
                rfl
              refine pure_ (i := 1) (N := some 109) (v := ?_) (a' := ?_) #[true, true, false, false, false, false, false, false, false, false, false, false] rfl rfl (by kernel_rfl) (fun _ _ _ h => h) (Or.inl ⟨by rfl, ?_⟩) ?_ ?_
              rotate_left
              · intro w'
                go_simp
                with_reducible rfl
              rotate_left
              · simp only [Act.put, List.setIfInBounds_toArray, List.set_cons_zero, List.set_cons_succ, i64_w, i32_w]
                rfl
              refine pure_ (i := 2) (N := some 110) (v := ?_) (a' := ?_) #[true, true, true, false, false, false, false, false, false, false, false, false] rfl rfl (by kernel_rfl) (fun _ _ _ h => h) (Or.inl ⟨by rfl, ?_⟩) ?_ ?_
              rotate_left
              · intro w'
                go_simp
                with_reducible rfl
              rotate_left
              · simp only [Act.put, List.setIfInBounds_toArray, List.set_cons_zero, List.set_cons_succ, i64_w, i32_w]
                rfl
              refine pure_ (i := 3) (N := some 111) (v := ?_) (a' := ?_) #[true, true, true, true, false, false, false, false, false, false, false, false] rfl rfl (by kernel_rfl) (fun _ _ _ h => h) (Or.inl ⟨by rfl, ?_⟩) ?_ ?_
              rotate_left
              · intro w'
                go_simp
                with_reducible rfl
              rotate_left
              · simp only [Act.put, List.setIfInBounds_toArray, List.set_cons_zero, List.set_cons_succ, i64_w, i32_w]
                rfl
              refine pure_ (i := 4) (N := some 112) (v := ?_) (a' := ?_) #[true, true, true, true, true, false, false, false, false, false, false, false] rfl rfl (by kernel_rfl) (fun _ _ _ h => h) (Or.inl ⟨by rfl, ?_⟩) ?_ ?_
              rotate_left
              · intro w'
                go_simp
                with_reducible rfl
              rotate_left
              · simp only [Act.put, List.setIfInBounds_toArray, List.set_cons_zero, List.set_cons_succ, i64_w, i32_w]
                rfl
              refine pure_ (i := 5) (N := some 113) (v := ?_) (a' := ?_) #[true, true, true, true, true, true, false, false, false, false, false, false] rfl rfl (by kernel_rfl) (fun _ _ _ h => h) (Or.inl ⟨by rfl, ?_⟩) ?_ ?_
              rotate_left
              · intro w'
                go_simp
                with_reducible rfl
              rotate_left
              · simp only [Act.put, List.setIfInBounds_toArray, List.set_cons_zero, List.set_cons_succ, i64_w, i32_w]
                rfl
              refine pure_ (i := 7) (N := some 115) (v := ?_) (a' := ?_) #[true, true, true, true, true, true, false, true, false, false, false, false] rfl rfl (by kernel_rfl) (fun _ _ _ h => h) (Or.inl ⟨by rfl, ?_⟩) ?_ ?_
              rotate_left
              · intro w'
                go_simp
                with_reducible rfl
              rotate_left
              · simp only [Act.put, List.setIfInBounds_toArray, List.set_cons_zero, List.set_cons_succ, i64_w, i32_w]
                rfl
              refine take_ (i := 6) (N := some 114) (v := ?_) (a' := ?_) #[true, true, true, true, true, true, true, true, false, false, false, false] rfl rfl (by kernel_rfl) (fun _ _ _ h => h) (Or.inl ⟨by rfl, ?_⟩) hHeld ?_ ?_
              rotate_left
              · rintro w' ⟨s0, s1⟩
                go_simp
                with_reducible rfl
              rotate_left
              · simp only [Act.put, List.setIfInBounds_toArray, List.set_cons_zero, List.set_cons_succ, i64_w, i32_w]
                rfl
              refine take_ (i := 8) (N := some 116) (v := ?_) (a' := ?_) #[true, true, true, true, true, true, true, true, true, false, false, false] rfl rfl (by kernel_rfl) (fun _ _ _ h => h) (Or.inl ⟨by rfl, ?_⟩) hHeld ?_ ?_
              rotate_left
              · rintro w' ⟨s0, s1⟩
                go_simp
                with_reducible rfl
              rotate_left
              · simp only [Act.put, List.setIfInBounds_toArray, List.set_cons_zero, List.set_cons_succ, i64_w, i32_w]
                rfl
              refine one_ (i := 9) (N := some 117) #[true, true, true, true, true, true, true, true, true, true, false, false] rfl rfl (by kernel_rfl) (by decide) (fun K hK => ?_)
              refine goes_ Try.func93 (by kernel_rfl) rfl #[.slice z.A z.v.b.length z.c, .slice y.A y.v.b.length y.c] (by rfl) rfl rfl (by simp only [List.map_toArray, List.map_cons, List.map_nil]; rfl) ?_
              with_reducible refine ((HEQ.out wd HJA.out.bel)).mono ?_
              rintro e w9 ⟨rfl, b9⟩
              refine ⟨_, rfl, ?_⟩
              have HB9 := Aside0.mk b9
              clear b9
              refine hK.out _ _ ⟨(pw_cell_below HB9.out b7), (pw_cell_below HB9.out c7)⟩ (fun hHeld => ?_)
              clear hK K
              refine norm_ (a' := ?_) ?_ ?_
              rotate_left
              · show Act.put _ (some 117) _ = _
                simp only [Act.put, List.setIfInBounds_toArray, List.set_cons_zero, List.set_cons_succ, i64_w, i32_w]
                rfl
              refine pure_ (i := 10) (N := some 118) (v := ?_) (a' := ?_) #[true, true, true, true, true, true, true, true, true, true, true, false] rfl rfl (by kernel_rfl) (fun _ _ _ h => h) (Or.inl ⟨by rfl, ?_⟩) ?_ ?_
              rotate_left
              · intro w'
                go_simp
                with_reducible rfl
              rotate_left
              · simp only [Act.put, List.setIfInBounds_toArray, List.set_cons_zero, List.set_cons_succ, i64_w, i32_w]
                rfl
              refine pure_ (i := 11) (N := some 119) (v := ?_) (a' := ?_) #[true, true, true, true, true, true, true, true, true, true, true, true] rfl rfl (by kernel_rfl) (fun _ _ _ h => h) (Or.inl ⟨by rfl, ?_⟩) ?_ ?_
              rotate_left
              · intro w'
                go_simp
                with_reducible rfl
              rotate_left
              · simp only [Act.put, List.setIfInBounds_toArray, List.set_cons_zero, List.set_cons_succ, i64_w, i32_w]
                rfl
              refine done_ (by kernel_rfl) ?_
              have HJ9 := Aside0.mk (HJA.out.below HB9.out)
              have HG9 := Aside0.mk ((HB9.out.block _ (blk_lt HGA.out)).trans HGA.out)
              clear HJ8 HG8 HJA HGA HB9 b7 c7 hHeld
              go_upto_region 21 with fail
              have a8 : w9.drew.cell? ⟨gw, 8, none⟩ = some (.slice (some ⟨gl, 0, none⟩) n cl) := cell_of_row w9.drew _ 8 _ 119 (0, 0) HJ9.out.blk
              have a1 : w9.drew.cell? ⟨gq, 1, none⟩ = some (.int .i64 (m : Int)) := by rw [← HMY.out]; exact cell_of_row w9.drew _ 1 _ 88 (0, 0) HG9.out
              obtain ⟨ps2, hps2, _⟩ := HJ9.out.rowP
              have am := Kd.R_celln (enc := Value.pointer) (h1 := fun _ => rfl) (none : Option Addr) (Kd.R_drew hps2) (m : Int) (by omega) (by have := HMN.out; omega)
              rw [Int.toNat_natCast] at am
              obtain ⟨am, fm⟩ := am
              have HJB := Aside0.mk (HJ9.out.below (below_drew (Below.refl w9.heap.size w9)))
              clear hps2
              refine start_ (n := 12) (S := fun w' => w'.cell? ⟨gw, 8, none⟩ = some (.slice (some ⟨gl, 0, none⟩) n cl) ∧ w'.cell? ⟨gq, 1, none⟩ = some (.int .i64 (m : Int))) (ds := [11]) #[false, false, false, false, false, false, false, false, false, false, false, false] (by kernel_rfl) rfl rfl ⟨a8, a1⟩ (fun hHeld => ?_)
              generalize w9.drew = wd at HJB hHeld a8 a1 am fm ⊢
              refine pure_ (i := 0) (N := some 120) (v := ?_) (a' := ?_) #[true, false, false, false, false, false, false, false, false, false, false, false] rfl rfl (by kernel_rfl) (fun _ _ _ h => h) (Or.inl ⟨by rfl, ?_⟩) ?_ ?_
              rotate_left
              · intro w'
                go_simp
                with_reducible rfl
              rotate_left
              · simp only [Act.put, List.setIfInBounds_toArray, List.set_cons_zero, List.set_cons_succ, i64_w, i32_w]
                rfl
              refine pure_ (i := 1) (N := some 121) (v := ?_) (a' := ?_) #[true, true, false, false, false, false, false, false, false, false, false, false] rfl rfl (by kernel_rfl) (fun _ _ _ h => h) (Or.inl ⟨by rfl, ?_⟩) ?_ ?_
              rotate_left
              · intro w'
                go_simp
                with_reducible rfl
              rotate_left
              · simp only [Act.put, List.setIfInBounds_toArray, List.set_cons_zero, List.set_cons_succ, i64_w, i32_w]
                rfl
              refine pure_ (i := 2) (N := some 122) (v := ?_) (a' := ?_) #[true, true, true, false, false, false, false, false, false, false, false, false] rfl rfl (by kernel_rfl) (fun _ _ _ h => h) (Or.inl ⟨by rfl, ?_⟩) ?_ ?_
              rotate_left
              · intro w'
                go_simp
                with_reducible rfl
              rotate_left
              · simp only [Act.put, List.setIfInBounds_toArray, List.set_cons_zero, List.set_cons_succ, i64_w, i32_w]
                rfl
              refine pure_ (i := 4) (N := some 124) (v := ?_) (a' := ?_) #[true, true, true, false, true, false, false, false, false, false, false, false] rfl rfl (by kernel_rfl) (fun _ _ _ h => h) (Or.inl ⟨by rfl, ?_⟩) ?_ ?_
              rotate_left
              · intro w'
                go_simp
                with_reducible rfl
              rotate_left
              · simp only [Act.put, List.setIfInBounds_toArray, List.set_cons_zero, List.set_cons_succ, i64_w, i32_w]
                rfl
              refine pure_ (i := 5) (N := some 125) (v := ?_) (a' := ?_) #[true, true, true, false, true, true, false, false, false, false, false, false] rfl rfl (by kernel_rfl) (fun _ _ _ h => h) (Or.inl ⟨by rfl, ?_⟩) ?_ ?_
              rotate_left
              · intro w'
                go_simp
                with_reducible rfl
              rotate_left
              · simp only [Act.put, List.setIfInBounds_toArray, List.set_cons_zero, List.set_cons_succ, i64_w, i32_w]
                rfl
              refine pure_ (i := 7) (N := some 127) (v := ?_) (a' := ?_) #[true, true, true, false, true, true, false, true, false, false, false, false] rfl rfl (by kernel_rfl) (fun _ _ _ h => h) (Or.inl ⟨by rfl, ?_⟩) ?_ ?_
              rotate_left
              · intro w'
                go_simp
                with_reducible rfl
              rotate_left
              · simp only [Act.put, List.setIfInBounds_toArray, List.set_cons_zero, List.set_cons_succ, i64_w, i32_w]
                rfl
              refine pure_ (i := 8) (N := some 128) (v := ?_) (a' := ?_) #[true, true, true, false, true, true, false, true, true, false, false, false] rfl rfl (by kernel_rfl) (fun _ _ _ h => h) (Or.inl ⟨by rfl, ?_⟩) ?_ ?_
              rotate_left
              · intro w'
                go_simp
                with_reducible rfl
              rotate_left
              · simp only [Act.put, List.setIfInBounds_toArray, List.set_cons_zero, List.set_cons_succ, i64_w, i32_w]
                rfl
              refine pure_ (i := 9) (N := some 129) (v := ?_) (a' := ?_) #[true, true, true, false, true, true, false, true, true, true, false, false] rfl rfl (by kernel_rfl) (fun _ _ _ h => h) (Or.inl ⟨by rfl, ?_⟩) ?_ ?_
              rotate_left
              · intro w'
                go_simp
                with_reducible rfl
              rotate_left
              · simp only [Act.put, List.setIfInBounds_toArray, List.set_cons_zero, List.set_cons_succ, i64_w, i32_w]
                rfl
              refine take_ (i := 3) (N := some 123) (v := ?_) (a' := ?_) #[true, true, true, true, true, true, false, true, true, true, false, false] rfl rfl (by kernel_rfl) (fun _ _ _ h => h) (Or.inl ⟨by rfl, ?_⟩) hHeld ?_ ?_
              rotate_left
              · rintro w' ⟨s0, s1⟩
                go_simp
                with_reducible rfl
              rotate_left
              · simp only [Act.put, List.setIfInBounds_toArray, List.set_cons_zero, List.set_cons_succ, i64_w, i32_w]
                rfl
              refine take_ (i := 6) (N := some 126) (v := ?_) (a' := ?_) #[true, true, true, true, true, true, true, true, true, true, false, false] rfl rfl (by kernel_rfl) (fun _ _ _ h => h) (Or.inl ⟨by rfl, ?_⟩) hHeld ?_ ?_
              rotate_left
              · rintro w' ⟨s0, s1⟩
                go_simp
                with_reducible rfl
              rotate_left
              · simp only [Act.put, List.setIfInBounds_toArray, List.set_cons_zero, List.set_cons_succ, i64_w, i32_w]
                rfl
              refine pure_ (i := 10) (N := some 130) (v := ?_) (a' := ?_) #[true, true, true, true, true, true, true, true, true, true, true, false] rfl rfl (by kernel_rfl) (fun _ _ _ h => h) (Or.inl ⟨by rfl, ?_⟩) ?_ ?_
              rotate_left
              · intro w'
                go_simp
                with_reducible rfl
              rotate_left
              · simp only [Act.put, List.setIfInBounds_toArray, List.set_cons_zero, List.set_cons_succ, i64_w, i32_w]
                rfl
              refine last_ (i := 11) (N := none) #[true, true, true, true, true, true, true, true, true, true, true, true] rfl rfl (by kernel_rfl) (by decide) (fun K hK => ?_)
              refine skip_ (w1 := ?_) (by rfl) rfl ?_ ?_
              rotate_left
              · go_simp
                rfl
              refine hK.out _ _ ?_
              clear hK K
              refine done_ (by kernel_rfl) ?_
              go_wp2
              go_roundg k2
              case measure => have := HM2.out; omega
              case rel => exact ⟨i + 1, P.set m (some y.v.b), by first | rfl | (rw [wrap_succ _ (by have := HM2.out; have := HLN.out; have := HN.out; omega)]), ⟨HJB.out.step (by have := HM2.out; omega) HYE.out HMY.out HMN.out HAG.out HPP.out⟩, ⟨by have := HM2.out; omega, by have := HM2.out; omega⟩⟩
          · have hd : decide (i < ll.length) = false := decide_eq_false hi
            have hie : i = ll.length := by have := HM2.out; omega
            subst hie
            have hfl := HJ.out.fill
            rw [List.drop_length, List.map_nil] at hfl
            have hgr := gather_eq gE vO L x cs ll n HFE.out HLL.out HCM.out (by have := HNX.out; omega)
            rw [hfl] at hgr
            have HGR := Aside0.mk (show gatherR gE vO L = (0, x.v, P) from hgr)
            clear hgr hfl hi
            rw [HGR.out] at HQ
            go_wp2
            have HWW := HJ.out.whole (by have := HNX.out; omega) HVW.out HLW.out
            refine HQ.out _ _ ⟨by repeat (first | exact HJ.out.bel | apply below_alloc | apply pw_below_drewN | apply below_drew1), fun h => absurd rfl h, fun _ => ⟨gw, rfl, HWW⟩⟩
end Go.Proofs.Ytnkcbkfccbfjpaa.Z
/- Volumes: Clone of bytes (f68), gone (f70), place (f71). -/

namespace Go.Proofs.Ytnkcbkfccbfjpaa.Z
open Go.RowKit Go.Proofs.Ytnkcbkfccbfjpaa.XxhW Go.Proofs.Ytnkcbkfccbfjpaa.QVolumesCuts Go.Proofs.YtnkcbkfccbfjpaaW.PrintWords Go.Proofs.YtnkcbkfccbfjpaaW.PrintLast Go.Proofs.YtnkcbkfccbfjpaaW.PrintMore
attribute [local go_sem] max2_int min2_int max_two min_two max_three min_three max_four min_four
set_option linter.unusedVariables false
set_option linter.unusedSimpArgs false
/-- x[:j], within the capacity. -/
theorem slice_run {P : Program} (t e : TypeId) {i : TypeInfo} (ht : P.underlying t = some (.slice e)) (hi : P.info? e = some i) (hsz : i.size = 1) (A : Option Addr) (n c j : Nat) (hj : j ≤ c) (W : World) :
    (Instr.slice t (.slice A n c) none (some (.int .i64 (j : Int))) none).run P W = .ok (.slice A j c) W := by
  have hel : P.elem t = e := by simp [Program.elem, ht]
  have hu : P.underlying t = some (.slice (P.elem t)) := by rw [hel]; exact ht
  have ha : (A.map fun x => x.add 0) = A := by cases A <;> simp [Addr.add]
  rw [run_slice_h W t A n c hu .i64 (j : Int) (by omega) (by omega), hel]
  simp [sizeOf, typeInfo, hi, hsz, sliced, Result.andThen, ha]
theorem info3 : (Try.prog.info? 3).map (fun i => (i.zero, i.size, i.bytes)) = some (some (.int .i64 0), 1, 8) := by kernel_rfl
/-- Where a volume's bytes lie. -/
def placeP (v0 : Vol) (i : Nat) : Int × Int := if v0.cnt = 1 then (0, v0.whole) else ((i : Int) * stepV v0, if v0.whole < (i : Int) * stepV v0 + stepV v0 then v0.whole else (i : Int) * stepV v0 + stepV v0)
set_option maxHeartbeats 4000000 in
set_option maxRecDepth 100000 in
theorem place_calls (v0 : Vol) (gw gl n cap i : Nat) (w : World) (hblk : w.heap[gw]? = some (.cells #[.int .u64 v0.set, .int .i64 v0.num, .int .i64 v0.cnt, .bool v0.sp, .int .i64 v0.whole, .int .i64 v0.off, .int .i64 v0.size, .int .i64 (stepV v0), .slice (some ⟨gl, 0, none⟩) n cap] 119 (0, 0))) (hs : 0 ≤ stepV v0 ∧ stepV v0 ≤ 4194304) (hi : i ≤ 1000) (hc : 1 ≤ v0.cnt ∧ v0.cnt ≤ 1000) :
    Calls Try.prog 71 #[.pointer (some ⟨gw, 0, none⟩), .int .i64 (i : Int)] w fun e w' => e = .returned (.agg #[.int .i64 (placeP v0 i).1, .int .i64 (placeP v0 i).2]) ∧ Below w.heap.size w w' := by
  have c2 : w.cell? ⟨gw, 2, none⟩ = some (.int .i64 v0.cnt) := cell_of_row w _ 2 _ 119 (0, 0) hblk
  have c4 : w.cell? ⟨gw, 4, none⟩ = some (.int .i64 v0.whole) := cell_of_row w _ 4 _ 119 (0, 0) hblk
  have c7 : w.cell? ⟨gw, 7, none⟩ = some (.int .i64 (stepV v0)) := cell_of_row w _ 7 _ 119 (0, 0) hblk
  have hlt := blk_lt hblk
  have hne : gw ≠ w.heap.size := by omega
  obtain ⟨p, hp⟩ : ∃ p, p = placeP v0 i := ⟨_, rfl⟩
  rw [← hp]
  unfold placeP at hp
  by_cases h1 : v0.cnt = 1
  · rw [if_pos h1] at hp
    rw [h1] at c2
    have HV1 := Aside0.mk h1
    have HBK := Aside0.mk hblk
    clear hs hi hc hlt h1 c7 hne hblk c2 c4
    subst hp
    go_enter Try.func71, Try.ntmps71
    go_upto_region 1 with fail
    have HQB := Aside0.mk (below_alloc (Below.refl w.heap.size w) (.cells #[.int .i64 0, .int .i64 0] 82))
    have HGQ := Aside0.mk (heap_alloc_new w (.cells #[.int .i64 0, .int .i64 0] 82))
    obtain ⟨wq, hwq⟩ : ∃ wq, wq = w.alloc (.cells #[.int .i64 0, .int .i64 0] 82) := ⟨_, rfl⟩
    rw [← hwq] at HQB HGQ ⊢
    clear hwq
    have HGE := Aside0.mk (Nat.le_refl w.heap.size)
    have HBQ := Aside0.mk ((HQB.out.block _ (blk_lt HBK.out)).trans HBK.out)
    obtain ⟨gv, hgv⟩ : ∃ gv, gv = w.heap.size := ⟨_, rfl⟩
    have HGV := Aside0.mk hgv
    rw [← hgv] at HGQ ⊢
    clear hgv HGE
    have c2 : wq.cell? ⟨gw, 2, none⟩ = some (.int .i64 1) := by rw [← HV1.out]; exact cell_of_row wq _ 2 _ 119 (0, 0) HBQ.out
    have c4 : wq.cell? ⟨gw, 4, none⟩ = some (.int .i64 v0.whole) := cell_of_row wq _ 4 _ 119 (0, 0) HBQ.out
    have z0 : wq.cell? ⟨gv, 0, none⟩ = some (.int .i64 0) := cell_of_row wq _ 0 _ 82 (0, 0) HGQ.out
    have z1 : wq.cell? ⟨gv, 1, none⟩ = some (.int .i64 0) := cell_of_row wq _ 1 _ 82 (0, 0) HGQ.out
    have f0 := blk_frozen HGQ.out 0
    have f1 := blk_frozen HGQ.out 1
    have g1 := blk_set HGQ.out 0 (.int .i64 0)
    have g2 := blk_set g1 1 (.int .i64 v0.whole)
    have HBX := Aside0.mk (below_set (below_set HQB.out (g := gv) (j := 0) (v := .int .i64 0) (Nat.le_of_eq HGV.out.symm)) (g := gv) (j := 1) (v := .int .i64 v0.whole) (Nat.le_of_eq HGV.out.symm))
    have x0 : ((wq.setCell ⟨gv, 0, none⟩ (.int .i64 0)).setCell ⟨gv, 1, none⟩ (.int .i64 v0.whole)).cell? ⟨gv, 0, none⟩ = some (.int .i64 0) := cell_of_row _ _ 0 _ 82 (0, 0) g2
    have x1 : ((wq.setCell ⟨gv, 0, none⟩ (.int .i64 0)).setCell ⟨gv, 1, none⟩ (.int .i64 v0.whole)).cell? ⟨gv, 1, none⟩ = some (.int .i64 v0.whole) := cell_of_row _ _ 1 _ 82 (0, 0) g2
    clear g1 g2
    go_wp2
    refine bodyPost_ret (by simp [results, Try.results71, go_sem, x0, x1]; try rfl) rfl ?_
    exact ⟨rfl, HBX.out⟩
  · rw [if_neg h1] at hp
    have hcb : (v0.cnt == 1) = false := by rw [beq_eq_false_iff_ne]; exact h1
    obtain ⟨s, hsn⟩ : ∃ s : Int, s = stepV v0 := ⟨_, rfl⟩
    rw [← hsn] at hp c7 hs hblk
    have hm : 0 ≤ (i : Int) * s ∧ (i : Int) * s ≤ 1000 * 4194304 := ⟨Int.mul_nonneg (by omega) (by omega), Int.mul_le_mul (by omega) (by omega) (by omega) (by omega)⟩
    have hw1 : wrap64 ((i : Int) * s) = (i : Int) * s := IntWalk.wrap64_in _ (by omega)
    obtain ⟨f, hf⟩ : ∃ f, f = (i : Int) * s := ⟨_, rfl⟩
    rw [← hf] at hp hm hw1
    have hw2 : wrap64 (f + s) = f + s := IntWalk.wrap64_in _ (by omega)
    have HW1 := Aside0.mk hw1
    have HW2 := Aside0.mk hw2
    have HFF := Aside0.mk hf
    have HBK := Aside0.mk hblk
    obtain ⟨ti, hti⟩ : ∃ ti, ti = if v0.whole < f + s then v0.whole else f + s := ⟨_, rfl⟩
    rw [← hti] at hp
    have HTI := Aside0.mk hti
    subst hp
    clear hs hi hc hlt h1 c7 hne hblk c2 c4 hm hw1 hw2 hsn hf hti
    go_enter Try.func71, Try.ntmps71
    go_upto_region 1 with fail
    have HQB := Aside0.mk (below_alloc (Below.refl w.heap.size w) (.cells #[.int .i64 0, .int .i64 0] 82))
    have HGQ := Aside0.mk (heap_alloc_new w (.cells #[.int .i64 0, .int .i64 0] 82))
    obtain ⟨wq, hwq⟩ : ∃ wq, wq = w.alloc (.cells #[.int .i64 0, .int .i64 0] 82) := ⟨_, rfl⟩
    rw [← hwq] at HQB HGQ ⊢
    clear hwq
    have HBQ := Aside0.mk ((HQB.out.block _ (blk_lt HBK.out)).trans HBK.out)
    obtain ⟨gv, hgv⟩ : ∃ gv, gv = w.heap.size := ⟨_, rfl⟩
    have HGV := Aside0.mk hgv
    rw [← hgv] at HGQ ⊢
    clear hgv
    have c2 : wq.cell? ⟨gw, 2, none⟩ = some (.int .i64 v0.cnt) := cell_of_row wq _ 2 _ 119 (0, 0) HBQ.out
    have c7 : wq.cell? ⟨gw, 7, none⟩ = some (.int .i64 s) := cell_of_row wq _ 7 _ 119 (0, 0) HBQ.out
    go_upto_region 4 with fail
    clear c2 c7
    rw [← HFF.out]
    have hw1 := HW1.out
    have hw2 := HW2.out
    rw [hw1]
    clear hw1
    have c4 : wq.drew.cell? ⟨gw, 4, none⟩ = some (.int .i64 v0.whole) := cell_of_row wq.drew _ 4 _ 119 (0, 0) HBQ.out
    have c7 : wq.drew.cell? ⟨gw, 7, none⟩ = some (.int .i64 s) := cell_of_row wq.drew _ 7 _ 119 (0, 0) HBQ.out
    have z0 : wq.cell? ⟨gv, 0, none⟩ = some (.int .i64 0) := cell_of_row wq _ 0 _ 82 (0, 0) HGQ.out
    have z1 : wq.cell? ⟨gv, 1, none⟩ = some (.int .i64 0) := cell_of_row wq _ 1 _ 82 (0, 0) HGQ.out
    have f0 : wq.frozen? ⟨gv, 0, none⟩ = false := blk_frozen HGQ.out 0
    have f1 : wq.frozen? ⟨gv, 1, none⟩ = false := blk_frozen HGQ.out 1
    have g1 := blk_set HGQ.out 0 (.int .i64 f)
    have g2 := blk_set g1 1 (.int .i64 (if v0.whole < f + s then v0.whole else f + s))
    have HBX := Aside0.mk (below_drew (below_set (below_set HQB.out (g := gv) (j := 0) (v := .int .i64 f) (Nat.le_of_eq HGV.out.symm)) (g := gv) (j := 1) (v := .int .i64 (if v0.whole < f + s then v0.whole else f + s)) (Nat.le_of_eq HGV.out.symm)))
    have x0 : ((wq.setCell ⟨gv, 0, none⟩ (.int .i64 f)).setCell ⟨gv, 1, none⟩ (.int .i64 (if v0.whole < f + s then v0.whole else f + s))).drew.cell? ⟨gv, 0, none⟩ = some (.int .i64 f) := cell_of_row _ _ 0 _ 82 (0, 0) g2
    have x1 : ((wq.setCell ⟨gv, 0, none⟩ (.int .i64 f)).setCell ⟨gv, 1, none⟩ (.int .i64 (if v0.whole < f + s then v0.whole else f + s))).drew.cell? ⟨gv, 1, none⟩ = some (.int .i64 (if v0.whole < f + s then v0.whole else f + s)) := cell_of_row _ _ 1 _ 82 (0, 0) g2
    clear g1 g2
    refine start_ (n := 15) (S := fun w' => w'.cell? ⟨gw, 4, none⟩ = some (.int .i64 v0.whole) ∧ w'.cell? ⟨gw, 7, none⟩ = some (.int .i64 s)) (ds := [14]) #[false, false, false, false, false, false, false, false, false, false, false, false, false, false, false] (by kernel_rfl) rfl rfl ⟨c4, c7⟩ (fun hHeld => ?_)
    refine pure_ (i := 0) (N := some 24) (v := ?_) (a' := ?_) #[true, false, false, false, false, false, false, false, false, false, false, false, false, false, false] rfl rfl (by kernel_rfl) (fun _ _ _ h => h) (Or.inl ⟨by rfl, ?_⟩) ?_ ?_
    rotate_left
    · intro w'
      go_simp
      with_reducible rfl
    rotate_left
    · simp only [Act.put, List.setIfInBounds_toArray, List.set_cons_zero, List.set_cons_succ, i64_w, i32_w]
      rfl
    refine pure_ (i := 1) (N := some 25) (v := ?_) (a' := ?_) #[true, true, false, false, false, false, false, false, false, false, false, false, false, false, false] rfl rfl (by kernel_rfl) (fun _ _ _ h => h) (Or.inl ⟨by rfl, ?_⟩) ?_ ?_
    rotate_left
    · intro w'
      go_simp
      with_reducible rfl
    rotate_left
    · simp only [Act.put, List.setIfInBounds_toArray, List.set_cons_zero, List.set_cons_succ, i64_w, i32_w]
      rfl
    refine pure_ (i := 2) (N := some 26) (v := ?_) (a' := ?_) #[true, true, true, false, false, false, false, false, false, false, false, false, false, false, false] rfl rfl (by kernel_rfl) (fun _ _ _ h => h) (Or.inl ⟨by rfl, ?_⟩) ?_ ?_
    rotate_left
    · intro w'
      go_simp
      with_reducible rfl
    rotate_left
    · simp only [Act.put, List.setIfInBounds_toArray, List.set_cons_zero, List.set_cons_succ, i64_w, i32_w]
      rfl
    refine pure_ (i := 3) (N := some 27) (v := ?_) (a' := ?_) #[true, true, true, true, false, false, false, false, false, false, false, false, false, false, false] rfl rfl (by kernel_rfl) (fun _ _ _ h => h) (Or.inl ⟨by rfl, ?_⟩) ?_ ?_
    rotate_left
    · intro w'
      go_simp
      with_reducible rfl
    rotate_left
    · simp only [Act.put, List.setIfInBounds_toArray, List.set_cons_zero, List.set_cons_succ, i64_w, i32_w]
      rfl
    refine pure_ (i := 4) (N := some 28) (v := ?_) (a' := ?_) #[true, true, true, true, true, false, false, false, false, false, false, false, false, false, false] rfl rfl (by kernel_rfl) (fun _ _ _ h => h) (Or.inl ⟨by rfl, ?_⟩) ?_ ?_
    rotate_left
    · intro w'
      go_simp
      with_reducible rfl
    rotate_left
    · simp only [Act.put, List.setIfInBounds_toArray, List.set_cons_zero, List.set_cons_succ, i64_w, i32_w]
      rfl
    refine pure_ (i := 7) (N := some 31) (v := ?_) (a' := ?_) #[true, true, true, true, true, false, false, true, false, false, false, false, false, false, false] rfl rfl (by kernel_rfl) (fun _ _ _ h => h) (Or.inl ⟨by rfl, ?_⟩) ?_ ?_
    rotate_left
    · intro w'
      go_simp
      with_reducible rfl
    rotate_left
    · simp only [Act.put, List.setIfInBounds_toArray, List.set_cons_zero, List.set_cons_succ, i64_w, i32_w]
      rfl
    refine pure_ (i := 8) (N := some 32) (v := ?_) (a' := ?_) #[true, true, true, true, true, false, false, true, true, false, false, false, false, false, false] rfl rfl (by kernel_rfl) (fun _ _ _ h => h) (Or.inl ⟨by rfl, ?_⟩) ?_ ?_
    rotate_left
    · intro w'
      go_simp
      with_reducible rfl
    rotate_left
    · simp only [Act.put, List.setIfInBounds_toArray, List.set_cons_zero, List.set_cons_succ, i64_w, i32_w]
      rfl
    refine pure_ (i := 9) (N := some 33) (v := ?_) (a' := ?_) #[true, true, true, true, true, false, false, true, true, true, false, false, false, false, false] rfl rfl (by kernel_rfl) (fun _ _ _ h => h) (Or.inl ⟨by rfl, ?_⟩) ?_ ?_
    rotate_left
    · intro w'
      go_simp
      with_reducible rfl
    rotate_left
    · simp only [Act.put, List.setIfInBounds_toArray, List.set_cons_zero, List.set_cons_succ, i64_w, i32_w]
      rfl
    refine pure_ (i := 10) (N := some 34) (v := ?_) (a' := ?_) #[true, true, true, true, true, false, false, true, true, true, true, false, false, false, false] rfl rfl (by kernel_rfl) (fun _ _ _ h => h) (Or.inl ⟨by rfl, ?_⟩) ?_ ?_
    rotate_left
    · intro w'
      go_simp
      with_reducible rfl
    rotate_left
    · simp only [Act.put, List.setIfInBounds_toArray, List.set_cons_zero, List.set_cons_succ, i64_w, i32_w]
      rfl
    refine take_ (i := 5) (N := some 29) (v := ?_) (a' := ?_) #[true, true, true, true, true, true, false, true, true, true, true, false, false, false, false] rfl rfl (by kernel_rfl) (fun _ _ _ h => h) (Or.inl ⟨by rfl, ?_⟩) hHeld ?_ ?_
    rotate_left
    · rintro w' ⟨s0, s1⟩
      go_simp
      with_reducible rfl
    rotate_left
    · simp only [Act.put, List.setIfInBounds_toArray, List.set_cons_zero, List.set_cons_succ, i64_w, i32_w]
      rfl
    refine pure_ (i := 6) (N := some 30) (v := ?_) (a' := ?_) #[true, true, true, true, true, true, true, true, true, true, true, false, false, false, false] rfl rfl (by kernel_rfl) (fun _ _ _ h => h) (Or.inl ⟨by rfl, ?_⟩) ?_ ?_
    rotate_left
    · intro w'
      go_simp
      with_reducible rfl
    rotate_left
    · simp only [Act.put, List.setIfInBounds_toArray, List.set_cons_zero, List.set_cons_succ, i64_w, i32_w]
      rfl
    refine take_ (i := 11) (N := some 35) (v := ?_) (a' := ?_) #[true, true, true, true, true, true, true, true, true, true, true, true, false, false, false] rfl rfl (by kernel_rfl) (fun _ _ _ h => h) (Or.inl ⟨by rfl, ?_⟩) hHeld ?_ ?_
    rotate_left
    · rintro w' ⟨s0, s1⟩
      go_simp
      with_reducible rfl
    rotate_left
    · simp only [Act.put, List.setIfInBounds_toArray, List.set_cons_zero, List.set_cons_succ, i64_w, i32_w]
      rfl
    refine pure_ (i := 12) (N := some 36) (v := ?_) (a' := ?_) #[true, true, true, true, true, true, true, true, true, true, true, true, true, false, false] rfl rfl (by kernel_rfl) (fun _ _ _ h => h) (Or.inl ⟨by rfl, ?_⟩) ?_ ?_
    rotate_left
    · intro w'
      go_simp
      with_reducible rfl
    rotate_left
    · simp only [Act.put, List.setIfInBounds_toArray, List.set_cons_zero, List.set_cons_succ, i64_w, i32_w]
      rfl
    refine pure_ (i := 13) (N := some 37) (v := ?_) (a' := ?_) #[true, true, true, true, true, true, true, true, true, true, true, true, true, true, false] rfl rfl (by kernel_rfl) (fun _ _ _ h => h) (Or.inl ⟨by rfl, ?_⟩) ?_ ?_
    rotate_left
    · intro w'
      go_simp
      with_reducible rfl
    rotate_left
    · simp only [Act.put, List.setIfInBounds_toArray, List.set_cons_zero, List.set_cons_succ, i64_w, i32_w]
      rfl
    refine last_ (i := 14) (N := none) #[true, true, true, true, true, true, true, true, true, true, true, true, true, true, true] rfl rfl (by kernel_rfl) (by decide) (fun K hK => ?_)
    refine skip_ (w1 := ?_) (by rfl) rfl ?_ ?_
    rotate_left
    · go_simp
      rfl
    refine hK.out _ _ ?_
    clear hK K
    refine done_ (by kernel_rfl) ?_
    rw [← HTI.out] at x0 x1 HBX
    rw [← HTI.out]
    generalize ((wq.setCell ⟨gv, 0, none⟩ (.int .i64 f)).setCell ⟨gv, 1, none⟩ (.int .i64 ti)).drew = wx at x0 x1 HBX ⊢
    go_wp2
    refine bodyPost_ret (by simp [results, Try.results71, go_sem, x0, x1]; try rfl) rfl ?_
    exact ⟨rfl, HBX.out⟩
end Go.Proofs.Ytnkcbkfccbfjpaa.Z
/- Volumes: gather (f69) at any bytes; what Join makes. -/
namespace Go.Proofs.Ytnkcbkfccbfjpaa.Z
open Go.RowKit Go.Proofs.Ytnkcbkfccbfjpaa.XxhW Go.Proofs.Ytnkcbkfccbfjpaa.QVolumesCuts Go.Proofs.YtnkcbkfccbfjpaaW.PrintWords Go.Proofs.YtnkcbkfccbfjpaaW.PrintLast Go.Proofs.YtnkcbkfccbfjpaaW.PrintMore
set_option linter.unusedVariables false
set_option linter.unusedSimpArgs false
theorem gatherV_calls (A : Option Addr) (c : Nat) (L : List (List Int)) (w : World) (hr : Kd.C (Kd.slice 5 (Kd.int .u8)) w A L.length L) (H0 : (gatherR getE volOf L).1 = 0 ∨ L = []) (hc : L.length ≤ c) (hL : ∀ b ∈ L, b.length ≤ 100000000 ∧ ∀ q ∈ b, 0 ≤ q ∧ q < 256) (hn : L.length ≤ 1000000000) :
    Calls Try.prog 69 #[.slice A L.length c] w fun e w' => Below w.heap.size w w' ∧ ((gatherR getE volOf L).1 ≠ 0 → e = .returned (.tuple #[.pointer none, .int .i64 (gatherR getE volOf L).1])) ∧
      ((gatherR getE volOf L).1 = 0 → ∃ gw, e = .returned (.tuple #[.pointer (some ⟨gw, 0, none⟩), .int .i64 0]) ∧ Whole w w' gw (gatherR getE volOf L).2.1 (gatherR getE volOf L).2.2) := by
  refine gather_calls getE volOf (fun A c b w h1 h2 h3 h4 h5 => ?_) (fun b hb => ?_) A c L w hr H0 hc hL hn
  · refine (get_ok A c b w h1 h2 h3 ((isByte_iff b).2 h4) h5).mono fun e w' ⟨g1, g3⟩ => ⟨g1, ?_⟩
    obtain ⟨A', he, hv⟩ := g3
    refine ⟨⟨volOf b, A', c - 64⟩, rfl, he, hv, ?_, ?_, fun q hq => h4 q (List.mem_of_mem_drop hq)⟩
    · show (b.drop 64).length ≤ c - 64
      rw [List.length_drop]; omega
    · show (b.drop 64).length ≤ 100000000
      rw [List.length_drop]; omega
  · have h := getE_ok hb
    exact ⟨h.step, h.cnt.1, h.cnt.2, h.num.1, h.num.2⟩
/-- What must hold for Join not to fall. -/
structure Fit (v0 : Vol) (P : List (Option (List Int))) : Prop where
  cnt : 1 ≤ v0.cnt ∧ v0.cnt ≤ 1000
  step : 0 ≤ stepV v0 ∧ stepV v0 ≤ 4194304
  fits : ∀ b, slot P v0.cnt.toNat = some b → ∀ k, k < v0.cnt.toNat → ∀ o, slot P k = some o → o.length ≤ b.length
  room : ∀ b, slot P v0.cnt.toNat = some b → ∀ g, g < v0.cnt.toNat → 0 ≤ (placeP v0 g).2 - (placeP v0 g).1 ∧ (placeP v0 g).2 - (placeP v0 g).1 ≤ (b.length : Int)
end Go.Proofs.Ytnkcbkfccbfjpaa.Z
/- Join of volumes (f40), where gather finds a set. -/
namespace Go.Proofs.Ytnkcbkfccbfjpaa.Z
open Go.RowKit Go.Proofs.Ytnkcbkfccbfjpaa.XxhW Go.Proofs.Ytnkcbkfccbfjpaa.QVolumesCuts Go.Proofs.YtnkcbkfccbfjpaaW.PrintWords Go.Proofs.YtnkcbkfccbfjpaaW.PrintLast Go.Proofs.YtnkcbkfccbfjpaaW.PrintMore
set_option linter.unusedVariables false
set_option linter.unusedSimpArgs false
/-- A set's volumes, with the pointers. -/
structure WAt (w W : World) (gw gl cap c : Nat) (v0 : Vol) (ps : List (Option Addr)) (P : List (Option (List Int))) : Prop where
  bel : Below w.heap.size w W
  blk : W.heap[gw]? = some (.cells #[.int .u64 v0.set, .int .i64 v0.num, .int .i64 v0.cnt, .bool v0.sp, .int .i64 v0.whole, .int .i64 v0.off, .int .i64 v0.size, .int .i64 (stepV v0), .slice (some ⟨gl, 0, none⟩) (c + 1) cap] 119 (0, 0))
  row : Kd.R kP 116 W w.heap.size (fun _ => True) (.slice (some ⟨gl, 0, none⟩) (c + 1) cap) ps
  len : P.length = c + 1
  mat : ∀ k, k < c + 1 → (ps.getD k none = none ∧ slot P k = none) ∨ ∃ ad A o cc, ps.getD k none = some ad ∧ slot P k = some o ∧ W.cell? ⟨ad.block, ad.off + 7, none⟩ = some (.slice A o.length cc) ∧ ReadsInt w .u8 A o.length o ∧ o.length ≤ cc ∧ o.length ≤ 100000000 ∧ ad.block ≠ gl
theorem WAt.below {w W W' : World} {gw gl cap c : Nat} {v0 : Vol} {ps : List (Option Addr)} {P : List (Option (List Int))} (h : WAt w W gw gl cap c v0 ps P) (hb : Below W.heap.size W W') : WAt w W' gw gl cap c v0 ps P := by
  refine ⟨below_step h.bel hb, (hb.block _ (blk_lt h.blk)).trans h.blk, Kd.R_below h.row hb, h.len, fun k hk => ?_⟩
  rcases h.mat k hk with h1 | ⟨ad, A, o, cc, h1, h2, h3, h4⟩
  · exact .inl h1
  · exact .inr ⟨ad, A, o, cc, h1, h2, pw_cell_below hb h3, h4⟩
theorem Whole.wat {w W : World} {gw c : Nat} {v0 : Vol} {P : List (Option (List Int))} (h : Whole w W gw v0 P) (hb : Below w.heap.size w W) (hc : v0.cnt.toNat = c) : ∃ gl cap ps, WAt w W gw gl cap c v0 ps P := by
  obtain ⟨gl, cap, ps, h1, h2, h3, h4⟩ := h.row
  rw [hc] at h1 h2 h3 h4
  refine ⟨gl, cap, ps, hb, h1, h2, h3, fun k hk => ?_⟩
  rcases h4 k hk with h5 | ⟨ad, x, g1, g2, g3, g4, g5, g6, g7, g8, g9, g10⟩
  · exact .inl h5
  · exact .inr ⟨ad, x.A, x.v.b, x.c, g1, g2, g3.c7, g7, g8, g9, g5⟩
end Go.Proofs.Ytnkcbkfccbfjpaa.Z
