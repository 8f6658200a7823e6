/- slices.Clone at ranges (f51; most of it printed by a program of the kit's), All and Has of sizes.Ranges. -/
import Derived.Test.YtanbicpkdkcpbaaGd
import Derived.Lib.SliceRun
namespace Go.Proofs.Ytanbicpkdkcpbaa.RSizesRanges
open Go.RowKit Go.Proofs.YtanbicpkdkcpbaaW.PrintWords Go.Proofs.YtanbicpkdkcpbaaW.PrintLast Go.Proofs.YtanbicpkdkcpbaaW.PrintMore
attribute [local go_sem] max2_int min2_int max_two min_two max_three min_three max_four min_four
set_option linter.unusedVariables false
set_option linter.unusedSimpArgs false
def clone67.f (l0 : List (S67)) : Option ((List (S67))) := (some (([] : List (S67)) : List (S67))).bind fun y207 => (if y207.length + l0.length < 8796093022208 then (some (y207 ++ l0)) else (none))
set_option maxHeartbeats 8000000 in
set_option maxRecDepth 100000 in
theorem clone67.some_ (ad0 : Addr) (c0 : Nat) (l0 : List (S67)) (r : List (S67)) (w : World) (hr0 : Kd.C k67 w (some ad0) l0.length l0) (hc0 : l0.length ≤ c0) (h : clone67.f l0 = some r) :
    Calls Try.prog 51 #[.slice (some ad0) l0.length c0] w fun e w' => ∃ v0_ : Value, e = .returned (v0_) ∧ Kd.R k67 67 w' w.heap.size (fun _ => True) v0_ r ∧ Below w.heap.size w w' := by
  have hq := @Lib.run_eql_slice_nil Try.prog
  have HR0 := Aside0.mk hr0
  have HC0 := Aside0.mk hc0
  clear hr0 hc0
  have HB := Aside0.mk (Below.refl w.heap.size w)
  have H : ((some (([] : List (S67)) : List (S67))).bind fun y207 => (if y207.length + l0.length < 8796093022208 then (some (y207 ++ l0)) else (none))) = some r := h
  clear h
  obtain ⟨y207, hy207⟩ : ∃ y_ : List (S67), y_ = (([] : List (S67))) := ⟨_, rfl⟩
  replace H : (if y207.length + l0.length < 8796093022208 then (some (y207 ++ l0)) else (none)) = some r := by first | (rw [hy207]; with_reducible exact H) | (have H2_ := (Option.bind_some _ _).symm.trans H; rw [hy207]; with_reducible exact H2_) | (have H2_ := (Option.bind_some _ _).symm.trans H; with_reducible exact H2_) | with_reducible exact H | (rw [hy207]; exact H) | exact H
  have Ny207 := Aside0.mk hy207
  clear hy207
  by_cases c2 : y207.length + l0.length < 8796093022208
  · rw [if_pos c2] at H
    have LMc2 := Aside0.mk c2
    clear c2
    obtain ⟨y210, hy210⟩ : ∃ y_ : List (S67), y_ = (y207 ++ l0) := ⟨_, rfl⟩
    replace H : (some y210) = some r := by first | (rw [hy210]; with_reducible exact H) | (have H2_ := (Option.bind_some _ _).symm.trans H; rw [hy210]; with_reducible exact H2_) | (have H2_ := (Option.bind_some _ _).symm.trans H; with_reducible exact H2_) | with_reducible exact H | (rw [hy210]; exact H) | exact H
    have Ny210 := Aside0.mk hy210
    clear hy210
    obtain rfl := Option.some.inj H
    go_enter Try.func51, Try.ntmps51
    go_wp2_with (first | ((with_reducible refine gate_dst (N := 5) rfl ?_); refine Kd.R_lit k67 _ 67 ?hg (N := 5) ?hd (xs := ([] : List (S67))) (inner := []) (ok := fun _ => True) (okp := fun _ => True) ?hr ?hp (fun _ hk => hk) trivial (Below.refl _ _) (Nat.le_refl _) (by simp) ?_; (case hd => rfl); (case hg => rfl); (case hr => first | (go_simp; done) | (go_simp; rfl)); (case hp => exact (Reps.none _ _)); intro v208 w3 ho4 hb hg_ hnew_; clear hg_ hnew_; (first | rw [← Ny207.out] at ho4 | (simp only [Int.reduceToNat] at ho4; rw [← Ny207.out] at ho4)); have n0_ := Aside0.mk (Kd.R_lower ho4 (below_size (by repeat (first | (with_reducible first | exact HB.out | apply below_alloc | apply pw_below_drewN | apply below_drew1) | exact HB.out)))); have n1_ := Aside0.mk (below_step (by repeat (first | (with_reducible first | exact HB.out | apply below_alloc | apply pw_below_drewN | apply below_drew1) | exact HB.out)) hb); clear HB; have HO209 := n0_; have HB := n1_; clear n0_ n1_; clear hb ho4) | ((with_reducible refine gate_builtin (b := .append) (xs := #[.tmp 5, .tmp 6]) rfl ?_); at_builtin; refine Kd.R_append_rows k67 (w0 := w) w.heap.size rfl (.tmp 5) (.tmp 6) 43 67 (.agg #[(.int .i64 0), (.int .i64 0)]) 16 rfl Try.underlying43 info67 rfl (by decide) (by omega) v208 y207 l0 _ _ _ (fun _ => True) (fun _ => False) rfl rfl ?aO ?aR (fun _ _ h => h) (fun _ h => h.elim) ?aF ?aB ?aS ?aL ?_; (case aR => repeat (first | exact (Kd.C_below HR0.out HB.out) | (with_reducible refine Kd.C_alloc ?_ _) | (with_reducible refine Kd.C_drewN ?_ _) | (with_reducible refine Kd.C_drew ?_))); (case aB => exact (by repeat (first | (with_reducible first | exact HB.out | apply below_alloc | apply pw_below_drewN | apply below_drew1) | exact HB.out))); (case aF => exact (fun _ _ => trivial)); (case aO => exact (by (with_reducible repeat (first | apply Kd.R_alloc | apply Kd.R_drewN | apply Kd.R_drew)); exact HO209.out)); (case aS => exact (below_size (by repeat (first | (with_reducible first | exact HB.out | apply below_alloc | apply pw_below_drewN | apply below_drew1) | exact HB.out)))); (case aL => have := LMc2.out; omega); intro v211 w5 ho hb hg hat; rw [← Ny210.out] at ho; have n0_ := Aside0.mk (hb); have n1_ := Aside0.mk (ho); clear HB; clear HO209; have HB := n0_; have HO212 := n1_; clear n0_ n1_; clear ho hb hg hat))
    go_ret
    exact ⟨_, by first | rfl | (simp [errW_none, errW_some] <;> rfl) | (simp [*, errW_none, errW_some] <;> rfl), by (with_reducible repeat (first | apply Kd.R_alloc | apply Kd.R_drewN | apply Kd.R_drew)); exact HO212.out, by repeat (first | (with_reducible first | exact HB.out | apply below_alloc | apply pw_below_drewN | apply below_drew1) | exact HB.out)⟩
  · rw [if_neg c2] at H
    exact absurd H (by simp)

theorem clone67.none_ (n c : Nat) (w : World) : Calls Try.prog 51 #[.slice none n c] w fun e w' => e = .returned (.slice none 0 0) ∧ w' = w := by
  have hq := @Lib.run_eql_slice_nil Try.prog
  go_enter Try.func51, Try.ntmps51
  go_wp2
  go_ret
  exact ⟨rfl, rfl⟩
theorem clone67.calls (A0 : Option Addr) (c0 : Nat) (l0 : List S67) (w : World) (hr0 : Kd.C k67 w A0 l0.length l0) (hc0 : l0.length ≤ c0) (hl : l0.length < 8796093022208) :
    Calls Try.prog 51 #[.slice A0 l0.length c0] w fun e w' => ∃ v0_ : Value, e = .returned v0_ ∧ Kd.R k67 67 w' w.heap.size (fun _ => True) v0_ l0 ∧ Below w.heap.size w w' := by
  cases A0 with
  | some ad =>
    refine clone67.some_ ad c0 l0 l0 w hr0 hc0 ?_
    unfold clone67.f
    rw [Option.bind_some, if_pos (by rw [List.length_nil]; omega), List.nil_append]
  | none =>
    have h0 : l0 = [] := by
      rcases Nat.eq_zero_or_pos l0.length with h | h
      · exact List.eq_nil_of_length_eq_zero h
      · obtain ⟨ad, e, _⟩ := hr0.2.2 h; cases e
    subst h0
    exact (clone67.none_ _ c0 w).mono fun e w' ⟨he, hw⟩ => by
      subst he hw
      exact ⟨_, rfl, Kd.R_nil _ _ _ _ _, Below.refl _ _⟩
set_option maxHeartbeats 4000000 in
theorem sizes_Ranges_All.calls (gP : Nat) (A0 : Option Addr) (c0 : Nat) (l0 : List S67) (w : World) (hr0 : Kd.C k67 w A0 l0.length l0) (hc0 : l0.length ≤ c0) (hrow : Holds w gP (.slice A0 l0.length c0)) (hl : l0.length < 8796093022208) :
    Calls Try.prog 32 #[.pointer (some ⟨gP, 0, none⟩)] w fun e w' => ∃ v0_ : Value, e = .returned v0_ ∧ Kd.R k67 67 w' w.heap.size (fun _ => True) v0_ l0 ∧ Below w.heap.size w w' := by
  have hcp : w.cell? ⟨gP, 0, none⟩ = some (.slice A0 l0.length c0) := (blk_cell hrow 0).trans rfl
  have HC := Aside0.mk (clone67.calls A0 c0 l0 w hr0 hc0 hl)
  clear hr0 hc0 hrow hl
  go_enter Try.func32, Try.ntmps32
  go_wp2_with (go_at_call 51; refine HC.out.mono ?_; rintro e w2 ⟨v, rfl, ho, hb⟩)
  go_ret
  exact ⟨_, rfl, ho, hb⟩
set_option maxHeartbeats 4000000 in
set_option maxRecDepth 100000 in
theorem sizes_Ranges_Has.calls (k gP : Nat) (A0 : Option Addr) (c0 : Nat) (l0 : List S67) (a b : Int) (t : Bool) (r : List S67) (w : World) (hr0 : Kd.C k67 w A0 l0.length l0) (hc0 : l0.length ≤ c0) (hrow : Holds w gP (.slice A0 l0.length c0)) (ht : sizes_can.f a b = some t) (h : sizes_Ranges_Gaps.f k l0 a b = some r) :
    Calls Try.prog 38 #[.pointer (some ⟨gP, 0, none⟩), .agg #[.int .i64 a, .int .i64 b]] w fun e w' => e = .returned (.bool (t && decide (r.length = 0))) ∧ Below w.heap.size w w' := by
  have HG : Aside0 (∀ W : World, Below w.heap.size w W → Calls Try.prog 33 #[.pointer (some ⟨gP, 0, none⟩), .agg #[.int .i64 a, .int .i64 b]] W fun e w' => ∃ v0_ : Value, e = .returned v0_ ∧ Kd.R k67 67 w' W.heap.size (fun _ => True) v0_ r ∧ Below W.heap.size W w') :=
    ⟨fun W hW => sizes_Ranges_Gaps.calls k gP A0 c0 l0 a b r W (Kd.C_below hr0 hW) hc0 (blk_below hrow hW) h⟩
  clear hr0 hc0 hrow h
  have HB := Aside0.mk (Below.refl w.heap.size w)
  cases t with
  | false =>
    go_enter Try.func38, Try.ntmps38
    go_wp2_with (first | ((with_reducible refine gate_dst (N := 3) rfl ?_); refine box_event ?hg (N := 3) ?hd (cs := #[.int .i64 a, .int .i64 b]) (t := 67) ?hr ?_; (case hd => rfl); (case hg => rfl); (case hr => first | (go_simp; done) | (go_simp; rfl)); intro gb hgv w1 hbox hb; have n0 := Aside0.mk (below_step HB.out hb); have n1 := Aside0.mk (show w.heap.size ≤ gb by rw [hgv]; exact below_size HB.out); have BK := Aside0.mk hbox; have GB := n1; clear n1; have x0 : w1.cell? ⟨gb, 0, none⟩ = some (.int .i64 a) := (blk_cell hbox 0).trans rfl; have x1 : w1.cell? ⟨gb, 1, none⟩ = some (.int .i64 b) := (blk_cell hbox 1).trans rfl; clear HB; have HB := n0; clear n0 hb hbox hgv) | (go_at_call 47; refine (sizes_can.calls a b false _ ht).mono ?_; rintro e w2 ⟨rfl, hb⟩; have n0 := Aside0.mk (below_step HB.out hb); have n1 := Aside0.mk (blk_below BK.out hb); clear HB BK; have HB := n0; have BK := n1; clear n0 n1 hb; have y0 : w2.cell? ⟨gb, 0, none⟩ = some (.int .i64 a) := (blk_cell BK.out 0).trans rfl; have y1 : w2.cell? ⟨gb, 1, none⟩ = some (.int .i64 b) := (blk_cell BK.out 1).trans rfl))
    go_ret
    exact ⟨rfl, HB.out⟩
  | true =>
    by_cases hz : r.length = 0
    · have hz1 : ((r.length : Int) == 0) = true := by rw [hz]; rfl
      have HZ := Aside0.mk hz
      clear hz
      go_enter Try.func38, Try.ntmps38
      go_wp2_with (first | ((with_reducible refine gate_dst (N := 3) rfl ?_); refine box_event ?hg (N := 3) ?hd (cs := #[.int .i64 a, .int .i64 b]) (t := 67) ?hr ?_; (case hd => rfl); (case hg => rfl); (case hr => first | (go_simp; done) | (go_simp; rfl)); intro gb hgv w1 hbox hb; have n0 := Aside0.mk (below_step HB.out hb); have n1 := Aside0.mk (show w.heap.size ≤ gb by rw [hgv]; exact below_size HB.out); have BK := Aside0.mk hbox; have GB := n1; clear n1; have x0 : w1.cell? ⟨gb, 0, none⟩ = some (.int .i64 a) := (blk_cell hbox 0).trans rfl; have x1 : w1.cell? ⟨gb, 1, none⟩ = some (.int .i64 b) := (blk_cell hbox 1).trans rfl; clear HB; have HB := n0; clear n0 hb hbox hgv) | (go_at_call 47; refine (sizes_can.calls a b true _ ht).mono ?_; rintro e w2 ⟨rfl, hb⟩; have n0 := Aside0.mk (below_step HB.out hb); have n1 := Aside0.mk (blk_below BK.out hb); clear HB BK; have HB := n0; have BK := n1; clear n0 n1 hb; have y0 : w2.cell? ⟨gb, 0, none⟩ = some (.int .i64 a) := (blk_cell BK.out 0).trans rfl; have y1 : w2.cell? ⟨gb, 1, none⟩ = some (.int .i64 b) := (blk_cell BK.out 1).trans rfl) | (go_at_call 33; refine (HG.out _ HB.out).mono ?_; rintro e w3 ⟨v3, rfl, ho, hb⟩; have n0 := Aside0.mk (below_step HB.out hb); clear HB; have HB := n0; clear n0; obtain ⟨A3, c3, rfl⟩ := Kd.R_slice ho; clear ho hb))
      go_ret
      exact ⟨by rw [HZ.out]; rfl, HB.out⟩
    · have hz1 : ((r.length : Int) == 0) = false := by rw [beq_eq_false_iff_ne]; omega
      have HZ := Aside0.mk hz
      clear hz
      go_enter Try.func38, Try.ntmps38
      go_wp2_with (first | ((with_reducible refine gate_dst (N := 3) rfl ?_); refine box_event ?hg (N := 3) ?hd (cs := #[.int .i64 a, .int .i64 b]) (t := 67) ?hr ?_; (case hd => rfl); (case hg => rfl); (case hr => first | (go_simp; done) | (go_simp; rfl)); intro gb hgv w1 hbox hb; have n0 := Aside0.mk (below_step HB.out hb); have n1 := Aside0.mk (show w.heap.size ≤ gb by rw [hgv]; exact below_size HB.out); have BK := Aside0.mk hbox; have GB := n1; clear n1; have x0 : w1.cell? ⟨gb, 0, none⟩ = some (.int .i64 a) := (blk_cell hbox 0).trans rfl; have x1 : w1.cell? ⟨gb, 1, none⟩ = some (.int .i64 b) := (blk_cell hbox 1).trans rfl; clear HB; have HB := n0; clear n0 hb hbox hgv) | (go_at_call 47; refine (sizes_can.calls a b true _ ht).mono ?_; rintro e w2 ⟨rfl, hb⟩; have n0 := Aside0.mk (below_step HB.out hb); have n1 := Aside0.mk (blk_below BK.out hb); clear HB BK; have HB := n0; have BK := n1; clear n0 n1 hb; have y0 : w2.cell? ⟨gb, 0, none⟩ = some (.int .i64 a) := (blk_cell BK.out 0).trans rfl; have y1 : w2.cell? ⟨gb, 1, none⟩ = some (.int .i64 b) := (blk_cell BK.out 1).trans rfl) | (go_at_call 33; refine (HG.out _ HB.out).mono ?_; rintro e w3 ⟨v3, rfl, ho, hb⟩; have n0 := Aside0.mk (below_step HB.out hb); clear HB; have HB := n0; clear n0; obtain ⟨A3, c3, rfl⟩ := Kd.R_slice ho; clear ho hb))
      go_ret
      exact ⟨by rw [decide_eq_false HZ.out]; rfl, HB.out⟩
end Go.Proofs.Ytanbicpkdkcpbaa.RSizesRanges
