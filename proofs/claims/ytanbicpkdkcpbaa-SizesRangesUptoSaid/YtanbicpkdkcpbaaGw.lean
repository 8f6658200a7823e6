/- Cut and Add2 of the document: what is told is the list that came in, or a new one. -/
import Derived.Test.YtanbicpkdkcpbaaGv
namespace Go.Proofs.Ytanbicpkdkcpbaa.Rng
open Go.RowKit Go.Proofs.Ytanbicpkdkcpbaa.RSizesRanges Go.Proofs.YtanbicpkdkcpbaaW.PrintWords Go.Proofs.YtanbicpkdkcpbaaW.PrintLast Go.Proofs.YtanbicpkdkcpbaaW.PrintMore
set_option linter.unusedVariables false
set_option linter.unusedSimpArgs false
set_option maxHeartbeats 4000000 in
set_option maxRecDepth 100000 in
theorem rcut_calls (A0 : Option Addr) (c0 : Nat) (L : List S67) (a b : Int) (w : World) (hC : Kd.C k67 w A0 L.length L) (hc : L.length ≤ c0) (hF : Fine L 65536) :
    Calls Try.prog 29 #[.slice A0 L.length c0, .agg #[.int .i64 a, .int .i64 b]] w fun e w' => ∃ v : Value, e = .returned (.tuple #[v, .int .i64 (cutR L a b).2]) ∧ Below w.heap.size w w' ∧ ((v = .slice A0 L.length c0 ∧ (cutR L a b).1 = L) ∨ Kd.R k67 67 w' w.heap.size (fun _ => True) v (cutR L a b).1) := by
  have HB := Aside0.mk (Below.refl w.heap.size w)
  have HC := Aside0.mk (rcan_f a b)
  have hl := hF.len
  by_cases hcn : canB a b = true
  · obtain ⟨r, hr⟩ : ∃ r, r = outG L a b := ⟨_, rfl⟩
    have HW : Aside0 (∀ W : World, Below w.heap.size w W → Calls Try.prog 49 #[.slice A0 L.length c0, .agg #[.int .i64 a, .int .i64 b]] W fun e w' => ∃ v0_ : Value, e = .returned v0_ ∧ Kd.R k67 67 w' W.heap.size (fun _ => True) v0_ r ∧ Below W.heap.size W w') :=
      ⟨fun W hW => satchelref01_Without.calls (2 * L.length + 1) A0 c0 L a b r W (Kd.C_below hC hW) hc (by rw [hr]; exact out_f _ L (by omega) (by omega) a b)⟩
    have hR : cutR L a b = if 65536 < r.length then (L, 2) else (r, 0) := by
      have h := rcut_f (2 * L.length + 1) L hF (by omega) a b
      unfold satchelref01_Cut.f at h
      rw [rcan_f, Option.bind_some, if_pos hcn, out_f _ L (by omega) (by omega), Option.bind_some, ← hr] at h
      by_cases q : 65536 < r.length
      · rw [if_pos (by omega)] at h
        rw [if_pos q]
        exact (Option.some.inj h).symm
      · rw [if_neg (by omega)] at h
        rw [if_neg q]
        exact (Option.some.inj h).symm
    rw [hcn] at HC
    clear hr hC hc hF hl hcn
    by_cases q : 65536 < r.length
    · rw [if_pos q] at hR
      rw [hR]
      clear hR
      have hz : decide (65536 < (r.length : Int)) = true := decide_eq_true (by omega)
      go_enter Try.func29, Try.ntmps29
      go_wp2_with (first | ((with_reducible refine gate_dst (N := 3) rfl ?_); refine box_event ?hg (N := 3) ?hd (cs := #[.int .i64 a, .int .i64 b]) (t := 67) ?hr ?_; (case hd => rfl); (case hg => rfl); (case hr => first | (go_simp; done) | (go_simp; rfl)); intro gb hgv w1 hbox hb; have n0 := Aside0.mk (below_step HB.out hb); have BK := Aside0.mk hbox; have x0 : w1.cell? ⟨gb, 0, none⟩ = some (.int .i64 a) := (blk_cell hbox 0).trans rfl; have x1 : w1.cell? ⟨gb, 1, none⟩ = some (.int .i64 b) := (blk_cell hbox 1).trans rfl; clear HB; have HB := n0; clear n0 hb hbox hgv) | (go_at_call 39; refine (satchelref01_Can.calls a b true _ HC.out).mono ?_; rintro e w2 ⟨rfl, hb⟩; have n0 := Aside0.mk (below_step HB.out hb); have n1 := Aside0.mk (blk_below BK.out hb); clear HB BK; have HB := n0; have BK := n1; clear n0 n1 hb; have y0 : w2.cell? ⟨gb, 0, none⟩ = some (.int .i64 a) := (blk_cell BK.out 0).trans rfl; have y1 : w2.cell? ⟨gb, 1, none⟩ = some (.int .i64 b) := (blk_cell BK.out 1).trans rfl) | (go_at_call 49; refine (HW.out _ HB.out).mono ?_; rintro e w3 ⟨v3, rfl, ho, hb⟩; have HO := Aside0.mk (Kd.R_lower ho (below_size HB.out)); have n0 := Aside0.mk (below_step HB.out hb); clear HB; have HB := n0; clear n0; obtain ⟨A3, c3, rfl⟩ := Kd.R_slice ho; clear ho hb))
      go_ret2
      exact ⟨_, rfl, HB.out, .inl ⟨rfl, by first | rfl | trivial⟩⟩
    · rw [if_neg q] at hR
      rw [hR]
      clear hR
      have hz : decide (65536 < (r.length : Int)) = false := decide_eq_false (by omega)
      go_enter Try.func29, Try.ntmps29
      go_wp2_with (first | ((with_reducible refine gate_dst (N := 3) rfl ?_); refine box_event ?hg (N := 3) ?hd (cs := #[.int .i64 a, .int .i64 b]) (t := 67) ?hr ?_; (case hd => rfl); (case hg => rfl); (case hr => first | (go_simp; done) | (go_simp; rfl)); intro gb hgv w1 hbox hb; have n0 := Aside0.mk (below_step HB.out hb); have BK := Aside0.mk hbox; have x0 : w1.cell? ⟨gb, 0, none⟩ = some (.int .i64 a) := (blk_cell hbox 0).trans rfl; have x1 : w1.cell? ⟨gb, 1, none⟩ = some (.int .i64 b) := (blk_cell hbox 1).trans rfl; clear HB; have HB := n0; clear n0 hb hbox hgv) | (go_at_call 39; refine (satchelref01_Can.calls a b true _ HC.out).mono ?_; rintro e w2 ⟨rfl, hb⟩; have n0 := Aside0.mk (below_step HB.out hb); have n1 := Aside0.mk (blk_below BK.out hb); clear HB BK; have HB := n0; have BK := n1; clear n0 n1 hb; have y0 : w2.cell? ⟨gb, 0, none⟩ = some (.int .i64 a) := (blk_cell BK.out 0).trans rfl; have y1 : w2.cell? ⟨gb, 1, none⟩ = some (.int .i64 b) := (blk_cell BK.out 1).trans rfl) | (go_at_call 49; refine (HW.out _ HB.out).mono ?_; rintro e w3 ⟨v3, rfl, ho, hb⟩; have HO := Aside0.mk (Kd.R_lower ho (below_size HB.out)); have n0 := Aside0.mk (below_step HB.out hb); clear HB; have HB := n0; clear n0; obtain ⟨A3, c3, rfl⟩ := Kd.R_slice ho; clear ho hb))
      go_ret2
      exact ⟨_, rfl, HB.out, .inr HO.out⟩
  ·
    have hR : cutR L a b = (L, 12) := by unfold cutR; rw [if_neg hcn]
    have hcf : canB a b = false := by simpa using hcn
    rw [hcf] at HC
    rw [hR]
    clear hcn hcf hl hF hC hR hc
    go_enter Try.func29, Try.ntmps29
    go_wp2_with (first | ((with_reducible refine gate_dst (N := 3) rfl ?_); refine box_event ?hg (N := 3) ?hd (cs := #[.int .i64 a, .int .i64 b]) (t := 67) ?hr ?_; (case hd => rfl); (case hg => rfl); (case hr => first | (go_simp; done) | (go_simp; rfl)); intro gb hgv w1 hbox hb; have n0 := Aside0.mk (below_step HB.out hb); have BK := Aside0.mk hbox; have x0 : w1.cell? ⟨gb, 0, none⟩ = some (.int .i64 a) := (blk_cell hbox 0).trans rfl; have x1 : w1.cell? ⟨gb, 1, none⟩ = some (.int .i64 b) := (blk_cell hbox 1).trans rfl; clear HB; have HB := n0; clear n0 hb hbox hgv) | (go_at_call 39; refine (satchelref01_Can.calls a b false _ HC.out).mono ?_; rintro e w2 ⟨rfl, hb⟩; have n0 := Aside0.mk (below_step HB.out hb); have n1 := Aside0.mk (blk_below BK.out hb); clear HB BK; have HB := n0; have BK := n1; clear n0 n1 hb; have y0 : w2.cell? ⟨gb, 0, none⟩ = some (.int .i64 a) := (blk_cell BK.out 0).trans rfl; have y1 : w2.cell? ⟨gb, 1, none⟩ = some (.int .i64 b) := (blk_cell BK.out 1).trans rfl))
    go_ret2
    exact ⟨_, rfl, HB.out, .inl ⟨rfl, by first | rfl | trivial⟩⟩
set_option maxHeartbeats 4000000 in
set_option maxRecDepth 100000 in
/-- With a range that is empty: the list that came in. -/
theorem with_empty (A0 : Option Addr) (c0 n : Nat) (a : Int) (w : World) :
    Calls Try.prog 50 #[.slice A0 n c0, .agg #[.int .i64 a, .int .i64 a]] w fun e w' => e = .returned (.slice A0 n c0) ∧ Below w.heap.size w w' := by
  have HB := Aside0.mk (Below.refl w.heap.size w)
  have d1 : decide (a ≤ a) = true := decide_eq_true (Int.le_refl _)
  go_enter Try.func50, Try.ntmps50
  go_upto_region 1 with ((with_reducible refine gate_dst (N := 3) rfl ?_); refine box_event ?hg (N := 3) ?hd (cs := #[.int .i64 a, .int .i64 a]) (t := 67) ?hr ?_; (case hd => rfl); (case hg => rfl); (case hr => first | (go_simp; done) | (go_simp; rfl)); intro gb hgv w1 hbox hb; have n0 := Aside0.mk (below_step HB.out hb); have BK := Aside0.mk hbox; have x0 : w1.cell? ⟨gb, 0, none⟩ = some (.int .i64 a) := (blk_cell hbox 0).trans rfl; have x1 : w1.cell? ⟨gb, 1, none⟩ = some (.int .i64 a) := (blk_cell hbox 1).trans rfl; clear HB; have HB := n0; clear n0 hb hbox hgv)
  go_wp2_with fail
  go_ret
  exact ⟨rfl, HB.out⟩
set_option maxHeartbeats 4000000 in
set_option maxRecDepth 100000 in
theorem radd_same (A0 : Option Addr) (c0 : Nat) (L : List S67) (a : Int) (w : World) (hF : Fine L 65536) (hcn : canB a a = true) :
    Calls Try.prog 31 #[.slice A0 L.length c0, .agg #[.int .i64 a, .int .i64 a]] w fun e w' => e = .returned (.tuple #[.slice A0 L.length c0, .int .i64 0]) ∧ Below w.heap.size w w' := by
  have HB := Aside0.mk (Below.refl w.heap.size w)
  have HC := Aside0.mk (rcan_f a a)
  have hl := hF.len
  rw [hcn] at HC
  have hz : decide (65536 < (L.length : Int)) = false := decide_eq_false (by omega)
  clear hF hl hcn
  go_enter Try.func31, Try.ntmps31
  go_wp2_with (first | ((with_reducible refine gate_dst (N := 3) rfl ?_); refine box_event ?hg (N := 3) ?hd (cs := #[.int .i64 a, .int .i64 a]) (t := 67) ?hr ?_; (case hd => rfl); (case hg => rfl); (case hr => first | (go_simp; done) | (go_simp; rfl)); intro gb hgv w1 hbox hb; have n0 := Aside0.mk (below_step HB.out hb); have BK := Aside0.mk hbox; have x0 : w1.cell? ⟨gb, 0, none⟩ = some (.int .i64 a) := (blk_cell hbox 0).trans rfl; have x1 : w1.cell? ⟨gb, 1, none⟩ = some (.int .i64 a) := (blk_cell hbox 1).trans rfl; clear HB; have HB := n0; clear n0 hb hbox hgv) | (go_at_call 39; refine (satchelref01_Can.calls a a true _ HC.out).mono ?_; rintro e w2 ⟨rfl, hb⟩; have n0 := Aside0.mk (below_step HB.out hb); have n1 := Aside0.mk (blk_below BK.out hb); clear HB BK; have HB := n0; have BK := n1; clear n0 n1 hb; have y0 : w2.cell? ⟨gb, 0, none⟩ = some (.int .i64 a) := (blk_cell BK.out 0).trans rfl; have y1 : w2.cell? ⟨gb, 1, none⟩ = some (.int .i64 a) := (blk_cell BK.out 1).trans rfl) | (go_at_call 50; refine (with_empty A0 c0 L.length a _).mono ?_; rintro e w3 ⟨rfl, hb⟩; have n0 := Aside0.mk (below_step HB.out hb); clear HB; have HB := n0; clear n0 hb))
  go_ret2
  exact ⟨rfl, HB.out⟩
set_option maxHeartbeats 4000000 in
set_option maxRecDepth 100000 in
theorem radd_calls0 (A0 : Option Addr) (c0 : Nat) (L : List S67) (a b : Int) (w : World) (hC : Kd.C k67 w A0 L.length L) (hc : L.length ≤ c0) (hF : Fine L 65536) (hne : ¬ a = b) :
    Calls Try.prog 31 #[.slice A0 L.length c0, .agg #[.int .i64 a, .int .i64 b]] w fun e w' => ∃ v : Value, e = .returned (.tuple #[v, .int .i64 (addR L a b).2]) ∧ Below w.heap.size w w' ∧ ((v = .slice A0 L.length c0 ∧ (addR L a b).1 = L) ∨ Kd.R k67 67 w' w.heap.size (fun _ => True) v (addR L a b).1) := by
  have HB := Aside0.mk (Below.refl w.heap.size w)
  have HC := Aside0.mk (rcan_f a b)
  have hl := hF.len
  by_cases hcn : canB a b = true
  · have hab := (canB_iff a b).1 hcn
    obtain ⟨r, hr⟩ : ∃ r, r = addG L false a b := ⟨_, rfl⟩
    have hlt : a < b := by omega
    have HW : Aside0 (∀ W : World, Below w.heap.size w W → Calls Try.prog 50 #[.slice A0 L.length c0, .agg #[.int .i64 a, .int .i64 b]] W fun e w' => ∃ v0_ : Value, e = .returned v0_ ∧ Kd.R k67 67 w' W.heap.size (fun _ => True) v0_ r ∧ Below W.heap.size W w') :=
      ⟨fun W hW => satchelref01_With.calls (10 * L.length + 101) A0 c0 L a b r W (Kd.C_below hC hW) hc hlt (by rw [hr]; exact with_f _ L hF (by omega) a b hab.1 hlt)⟩
    have hR : addR L a b = if 65536 < r.length then (L, 2) else (r, 0) := by
      unfold addR
      rw [if_pos hcn, if_neg hne, ← hr]
    rw [hcn] at HC
    clear hr hC hc hF hl hcn hab hlt hne
    by_cases q : 65536 < r.length
    · rw [if_pos q] at hR
      rw [hR]
      clear hR
      have hz : decide (65536 < (r.length : Int)) = true := decide_eq_true (by omega)
      go_enter Try.func31, Try.ntmps31
      go_wp2_with (first | ((with_reducible refine gate_dst (N := 3) rfl ?_); refine box_event ?hg (N := 3) ?hd (cs := #[.int .i64 a, .int .i64 b]) (t := 67) ?hr ?_; (case hd => rfl); (case hg => rfl); (case hr => first | (go_simp; done) | (go_simp; rfl)); intro gb hgv w1 hbox hb; have n0 := Aside0.mk (below_step HB.out hb); have BK := Aside0.mk hbox; have x0 : w1.cell? ⟨gb, 0, none⟩ = some (.int .i64 a) := (blk_cell hbox 0).trans rfl; have x1 : w1.cell? ⟨gb, 1, none⟩ = some (.int .i64 b) := (blk_cell hbox 1).trans rfl; clear HB; have HB := n0; clear n0 hb hbox hgv) | (go_at_call 39; refine (satchelref01_Can.calls a b true _ HC.out).mono ?_; rintro e w2 ⟨rfl, hb⟩; have n0 := Aside0.mk (below_step HB.out hb); have n1 := Aside0.mk (blk_below BK.out hb); clear HB BK; have HB := n0; have BK := n1; clear n0 n1 hb; have y0 : w2.cell? ⟨gb, 0, none⟩ = some (.int .i64 a) := (blk_cell BK.out 0).trans rfl; have y1 : w2.cell? ⟨gb, 1, none⟩ = some (.int .i64 b) := (blk_cell BK.out 1).trans rfl) | (go_at_call 50; refine (HW.out _ HB.out).mono ?_; rintro e w3 ⟨v3, rfl, ho, hb⟩; have HO := Aside0.mk (Kd.R_lower ho (below_size HB.out)); have n0 := Aside0.mk (below_step HB.out hb); clear HB; have HB := n0; clear n0; obtain ⟨A3, c3, rfl⟩ := Kd.R_slice ho; clear ho hb))
      go_ret2
      exact ⟨_, rfl, HB.out, .inl ⟨rfl, by first | rfl | trivial⟩⟩
    · rw [if_neg q] at hR
      rw [hR]
      clear hR
      have hz : decide (65536 < (r.length : Int)) = false := decide_eq_false (by omega)
      go_enter Try.func31, Try.ntmps31
      go_wp2_with (first | ((with_reducible refine gate_dst (N := 3) rfl ?_); refine box_event ?hg (N := 3) ?hd (cs := #[.int .i64 a, .int .i64 b]) (t := 67) ?hr ?_; (case hd => rfl); (case hg => rfl); (case hr => first | (go_simp; done) | (go_simp; rfl)); intro gb hgv w1 hbox hb; have n0 := Aside0.mk (below_step HB.out hb); have BK := Aside0.mk hbox; have x0 : w1.cell? ⟨gb, 0, none⟩ = some (.int .i64 a) := (blk_cell hbox 0).trans rfl; have x1 : w1.cell? ⟨gb, 1, none⟩ = some (.int .i64 b) := (blk_cell hbox 1).trans rfl; clear HB; have HB := n0; clear n0 hb hbox hgv) | (go_at_call 39; refine (satchelref01_Can.calls a b true _ HC.out).mono ?_; rintro e w2 ⟨rfl, hb⟩; have n0 := Aside0.mk (below_step HB.out hb); have n1 := Aside0.mk (blk_below BK.out hb); clear HB BK; have HB := n0; have BK := n1; clear n0 n1 hb; have y0 : w2.cell? ⟨gb, 0, none⟩ = some (.int .i64 a) := (blk_cell BK.out 0).trans rfl; have y1 : w2.cell? ⟨gb, 1, none⟩ = some (.int .i64 b) := (blk_cell BK.out 1).trans rfl) | (go_at_call 50; refine (HW.out _ HB.out).mono ?_; rintro e w3 ⟨v3, rfl, ho, hb⟩; have HO := Aside0.mk (Kd.R_lower ho (below_size HB.out)); have n0 := Aside0.mk (below_step HB.out hb); clear HB; have HB := n0; clear n0; obtain ⟨A3, c3, rfl⟩ := Kd.R_slice ho; clear ho hb))
      go_ret2
      exact ⟨_, rfl, HB.out, .inr HO.out⟩
  · clear hne
    have hR : addR L a b = (L, 12) := by unfold addR; rw [if_neg hcn]
    have hcf : canB a b = false := by simpa using hcn
    rw [hcf] at HC
    rw [hR]
    clear hcn hcf hl hF hC hR hc
    go_enter Try.func31, Try.ntmps31
    go_wp2_with (first | ((with_reducible refine gate_dst (N := 3) rfl ?_); refine box_event ?hg (N := 3) ?hd (cs := #[.int .i64 a, .int .i64 b]) (t := 67) ?hr ?_; (case hd => rfl); (case hg => rfl); (case hr => first | (go_simp; done) | (go_simp; rfl)); intro gb hgv w1 hbox hb; have n0 := Aside0.mk (below_step HB.out hb); have BK := Aside0.mk hbox; have x0 : w1.cell? ⟨gb, 0, none⟩ = some (.int .i64 a) := (blk_cell hbox 0).trans rfl; have x1 : w1.cell? ⟨gb, 1, none⟩ = some (.int .i64 b) := (blk_cell hbox 1).trans rfl; clear HB; have HB := n0; clear n0 hb hbox hgv) | (go_at_call 39; refine (satchelref01_Can.calls a b false _ HC.out).mono ?_; rintro e w2 ⟨rfl, hb⟩; have n0 := Aside0.mk (below_step HB.out hb); have n1 := Aside0.mk (blk_below BK.out hb); clear HB BK; have HB := n0; have BK := n1; clear n0 n1 hb; have y0 : w2.cell? ⟨gb, 0, none⟩ = some (.int .i64 a) := (blk_cell BK.out 0).trans rfl; have y1 : w2.cell? ⟨gb, 1, none⟩ = some (.int .i64 b) := (blk_cell BK.out 1).trans rfl))
    go_ret2
    exact ⟨_, rfl, HB.out, .inl ⟨rfl, by first | rfl | trivial⟩⟩
set_option maxHeartbeats 4000000 in
set_option maxRecDepth 100000 in
theorem radd_refused (A0 : Option Addr) (c0 : Nat) (L : List S67) (a b : Int) (w : World) (hcn : ¬ canB a b = true) :
    Calls Try.prog 31 #[.slice A0 L.length c0, .agg #[.int .i64 a, .int .i64 b]] w fun e w' => ∃ v : Value, e = .returned (.tuple #[v, .int .i64 (addR L a b).2]) ∧ Below w.heap.size w w' ∧ ((v = .slice A0 L.length c0 ∧ (addR L a b).1 = L) ∨ Kd.R k67 67 w' w.heap.size (fun _ => True) v (addR L a b).1) := by
  have HB := Aside0.mk (Below.refl w.heap.size w)
  have HC := Aside0.mk (rcan_f a b)
  have hR : addR L a b = (L, 12) := by unfold addR; rw [if_neg hcn]
  have hcf : canB a b = false := by simpa using hcn
  rw [hcf] at HC
  rw [hR]
  clear hcn hcf hR
  go_enter Try.func31, Try.ntmps31
  go_wp2_with (first | ((with_reducible refine gate_dst (N := 3) rfl ?_); refine box_event ?hg (N := 3) ?hd (cs := #[.int .i64 a, .int .i64 b]) (t := 67) ?hr ?_; (case hd => rfl); (case hg => rfl); (case hr => first | (go_simp; done) | (go_simp; rfl)); intro gb hgv w1 hbox hb; have n0 := Aside0.mk (below_step HB.out hb); have BK := Aside0.mk hbox; have x0 : w1.cell? ⟨gb, 0, none⟩ = some (.int .i64 a) := (blk_cell hbox 0).trans rfl; have x1 : w1.cell? ⟨gb, 1, none⟩ = some (.int .i64 b) := (blk_cell hbox 1).trans rfl; clear HB; have HB := n0; clear n0 hb hbox hgv) | (go_at_call 39; refine (satchelref01_Can.calls a b false _ HC.out).mono ?_; rintro e w2 ⟨rfl, hb⟩; have n0 := Aside0.mk (below_step HB.out hb); have n1 := Aside0.mk (blk_below BK.out hb); clear HB BK; have HB := n0; have BK := n1; clear n0 n1 hb; have y0 : w2.cell? ⟨gb, 0, none⟩ = some (.int .i64 a) := (blk_cell BK.out 0).trans rfl; have y1 : w2.cell? ⟨gb, 1, none⟩ = some (.int .i64 b) := (blk_cell BK.out 1).trans rfl))
  go_ret2
  exact ⟨_, rfl, HB.out, .inl ⟨rfl, by first | rfl | trivial⟩⟩
theorem radd_calls (A0 : Option Addr) (c0 : Nat) (L : List S67) (a b : Int) (w : World) (hC : Kd.C k67 w A0 L.length L) (hc : L.length ≤ c0) (hF : Fine L 65536) :
    Calls Try.prog 31 #[.slice A0 L.length c0, .agg #[.int .i64 a, .int .i64 b]] w fun e w' => ∃ v : Value, e = .returned (.tuple #[v, .int .i64 (addR L a b).2]) ∧ Below w.heap.size w w' ∧ ((v = .slice A0 L.length c0 ∧ (addR L a b).1 = L) ∨ Kd.R k67 67 w' w.heap.size (fun _ => True) v (addR L a b).1) := by
  by_cases e : a = b
  · subst e
    by_cases hcn : canB a a = true
    · have hR : addR L a a = (L, 0) := by unfold addR; rw [if_pos hcn, if_pos rfl]
      rw [hR]
      exact (radd_same A0 c0 L a w hF hcn).mono fun e w' ⟨he, hb⟩ => ⟨_, he, hb, .inl ⟨rfl, by first | rfl | trivial⟩⟩
    · exact radd_refused A0 c0 L a a w hcn
  · exact radd_calls0 A0 c0 L a b w hC hc hF e
end Go.Proofs.Ytanbicpkdkcpbaa.Rng
