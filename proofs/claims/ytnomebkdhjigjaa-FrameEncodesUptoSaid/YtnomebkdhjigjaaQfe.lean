/- Contracts and plain facts (texts of mine, and printed ones, made one; what nothing leads to is left out). -/
import Derived.Laws.BitsAllLaws
import Derived.Test.YtnomebkdhjigjaaQfd
namespace Go.Proofs.Ytnomebkdhjigjaa.GFrameEncodes
open Go.RowKit Go.Proofs.Ytnomebkdhjigjaa.Z Go.Proofs.YtnomebkdhjigjaaW.PrintWords Go.Proofs.YtnomebkdhjigjaaW.PrintLast Go.Proofs.YtnomebkdhjigjaaW.PrintMore
attribute [local go_sem] max2_int min2_int max_two min_two max_three min_three max_four min_four   -- for this text's walks alone
set_option linter.unusedVariables false
set_option linter.unusedSimpArgs false

/-! ### satchelref04_Lay: function 83 -/
def satchelref04_Lay.l0 : Nat → List Int → List (List Int) → List Int → List (List Int) → Int → Int → Bool → Bool → Bool → Bool → Option (List Int)
  | 0, _, _, _, _, _, _, _, _, _, _ => none
  | k + 1, x0, x2, x7, x8, x9, x350000, x350001, x350002, x350003, x350004 => if x9 < (x8.length : Int) then (if 0 ≤ x9 then (if x9 < (x2.length : Int) then (if ((rd_L1 x2 x9).length : Int) ≥ ((rd_L1 x8 x9).length : Int) then ((satchelref04_low.f k (IntKind.u64.wrap ((IntKind.u64.wrap (((rd_L1 x8 x9).length : Int))) + 2147483648)) 4).bind fun t359 => (if x7.length + t359.length < 140737488355328 then ((some (x7 ++ t359 : List Int)).bind fun y362 => (if y362.length + (rd_L1 x8 x9).length < 140737488355328 then ((some (y362 ++ (rd_L1 x8 x9) : List Int)).bind fun y365 => (if x350002 = true then ((satchelref02_Sum32.f 0 (rd_L1 x8 x9)).bind fun t368 => ((satchelref04_low.f k (IntKind.u64.wrap (t368)) 4).bind fun t369 => (if y365.length + t369.length < 140737488355328 then (satchelref04_Lay.l0 k x0 x2 (y365 ++ t369) x8 (wrap64 (x9 + 1)) x350000 x350001 x350002 x350003 x350004) else (none)))) else (satchelref04_Lay.l0 k x0 x2 y365 x8 (wrap64 (x9 + 1)) x350000 x350001 x350002 x350003 x350004))) else (none))) else (none))) else ((satchelref04_low.f k (IntKind.u64.wrap ((IntKind.u64.wrap (((rd_L1 x2 x9).length : Int))) + 0)) 4).bind fun t375 => (if x7.length + t375.length < 140737488355328 then ((some (x7 ++ t375 : List Int)).bind fun y378 => (if y378.length + (rd_L1 x2 x9).length < 140737488355328 then ((some (y378 ++ (rd_L1 x2 x9) : List Int)).bind fun y381 => (if x350002 = true then ((satchelref02_Sum32.f 0 (rd_L1 x2 x9)).bind fun t384 => ((satchelref04_low.f k (IntKind.u64.wrap (t384)) 4).bind fun t385 => (if y381.length + t385.length < 140737488355328 then (satchelref04_Lay.l0 k x0 x2 (y381 ++ t385) x8 (wrap64 (x9 + 1)) x350000 x350001 x350002 x350003 x350004) else (none)))) else (satchelref04_Lay.l0 k x0 x2 y381 x8 (wrap64 (x9 + 1)) x350000 x350001 x350002 x350003 x350004))) else (none))) else (none)))) else (none)) else (none)) else ((some (([0, 0, 0, 0] : List Int) : List Int)).bind fun y391 => (if x7.length + y391.length < 140737488355328 then ((some (x7 ++ y391 : List Int)).bind fun y394 => (if x350003 = true then ((satchelref02_Sum32.f 0 x0).bind fun t397 => ((satchelref04_low.f k (IntKind.u64.wrap (t397)) 4).bind fun t398 => (if y394.length + t398.length < 140737488355328 then (some (y394 ++ t398)) else (none)))) else (some y394))) else (none)))
def satchelref04_Lay.f (k : Nat) (l0 : List Int) (a1_0 : Int) (a1_1 : Bool) (a1_2 : Bool) (a1_3 : Bool) (a1_4 : Bool) (l2 : List (List Int)) : Option (List Int) := (satchelref04_head.f k a1_0 a1_1 a1_2 a1_3 a1_4 (l0.length : Int)).bind fun t350 => ((satchelref04_Pieces.f k l0 a1_0 a1_1 a1_2 a1_3 a1_4).bind fun t353 => (satchelref04_Lay.l0 k l0 l2 t350 t353 0 a1_0 a1_1 a1_2 a1_3 a1_4))
set_option maxHeartbeats 8000000 in
set_option maxRecDepth 100000 in
theorem satchelref04_Lay.calls (k : Nat) (A0 : Option Addr) (c0 : Nat) (l0 : List Int) (a1_0 : Int) (a1_1 : Bool) (a1_2 : Bool) (a1_3 : Bool) (a1_4 : Bool) (A2 : Option Addr) (c2 : Nat) (l2 : List (List Int)) (r : List Int) (w : World) (hr0 : Kd.C (Kd.int .u8) w A0 l0.length l0) (hc0 : l0.length ≤ c0) (hr2 : Kd.C (Kd.slice 5 (Kd.int .u8)) w A2 l2.length l2) (hc2 : l2.length ≤ c2) (h : satchelref04_Lay.f k l0 a1_0 a1_1 a1_2 a1_3 a1_4 l2 = some r) :
    Calls Try.prog 83 #[.slice A0 l0.length c0, .agg #[.int .i64 a1_0, .bool a1_1, .bool a1_2, .bool a1_3, .bool a1_4], .slice A2 l2.length c2] w fun e w' => ∃ v0_ : Value, e = .returned (v0_) ∧ Kd.R (Kd.int .u8) 5 w' w.heap.size (fun _ => True) v0_ r ∧ Below w.heap.size w w' := by
  have hu31 := Try.underlying31
  have HR0 := Aside0.mk hr0
  have HC0 := Aside0.mk hc0
  clear hr0 hc0
  have HR2 := Aside0.mk hr2
  have HC2 := Aside0.mk hc2
  clear hr2 hc2
  have HB := Aside0.mk (Below.refl w.heap.size w)
  have H : ((satchelref04_head.f k a1_0 a1_1 a1_2 a1_3 a1_4 (l0.length : Int)).bind fun t350 => ((satchelref04_Pieces.f k l0 a1_0 a1_1 a1_2 a1_3 a1_4).bind fun t353 => (satchelref04_Lay.l0 k l0 l2 t350 t353 0 a1_0 a1_1 a1_2 a1_3 a1_4))) = some r := h
  clear h
  replace H := Option.bind_eq_some_iff.mp H
  obtain ⟨t350, A40, H⟩ := H
  replace H : ((satchelref04_Pieces.f k l0 a1_0 a1_1 a1_2 a1_3 a1_4).bind fun t353 => (satchelref04_Lay.l0 k l0 l2 t350 t353 0 a1_0 a1_1 a1_2 a1_3 a1_4)) = some r := H
  have A4 := Aside0.mk A40
  clear A40
  replace H := Option.bind_eq_some_iff.mp H
  obtain ⟨t353, A50, H⟩ := H
  replace H : (satchelref04_Lay.l0 k l0 l2 t350 t353 0 a1_0 a1_1 a1_2 a1_3 a1_4) = some r := H
  have A5 := Aside0.mk A50
  clear A50
  have H' := Aside0.mk H
  clear H
  go_enter Try.func83, Try.ntmps83
  go_wp2_with (first | ((with_reducible refine gate_dst (N := 4) rfl ?_); refine box_event ?hg (N := 4) ?hd (cs := #[.int .i64 a1_0, .bool a1_1, .bool a1_2, .bool a1_3, .bool a1_4]) (t := 31) ?hr ?_; (case hd => rfl); (case hg => rfl); (case hr => first | (go_simp; done) | (go_simp; rfl)); intro gb349 hg w6 hbox hb; have n0_ := Aside0.mk (below_step (by repeat (first | (with_reducible first | exact HB.out | apply below_alloc | apply pw_below_drewN | apply below_drew1) | exact HB.out)) hb); have n1_ := Aside0.mk (hbox); have n2_ := Aside0.mk ((by rw [hg]; exact (below_size (by repeat (first | (with_reducible first | exact HB.out | apply below_alloc | apply pw_below_drewN | apply below_drew1) | exact HB.out))) : w.heap.size ≤ gb349)); have n3_ := Aside0.mk ((by rw [hg]; exact (below_size (by repeat (first | (with_reducible first | exact HB.out | apply below_alloc | apply pw_below_drewN | apply below_drew1) | exact HB.out))) : w.heap.size ≤ gb349)); clear HB; have HB := n0_; have BK349 := n1_; have GW349 := n2_; have GE349 := n3_; clear n0_ n1_ n2_ n3_; clear hb hbox hg; have hcz7_0 : w6.cell? ⟨gb349, 0, none⟩ = some (.int .i64 a1_0) := (blk_cell BK349.out 0).trans rfl; have hcz7_1 : w6.cell? ⟨gb349, 1, none⟩ = some (.bool a1_1) := (blk_cell BK349.out 1).trans rfl; have hcz7_2 : w6.cell? ⟨gb349, 2, none⟩ = some (.bool a1_2) := (blk_cell BK349.out 2).trans rfl; have hcz7_3 : w6.cell? ⟨gb349, 3, none⟩ = some (.bool a1_3) := (blk_cell BK349.out 3).trans rfl; have hcz7_4 : w6.cell? ⟨gb349, 4, none⟩ = some (.bool a1_4) := (blk_cell BK349.out 4).trans rfl; have hfz7_0 := blk_frozen BK349.out 0; have hfz7_1 := blk_frozen BK349.out 1; have hfz7_2 := blk_frozen BK349.out 2; have hfz7_3 := blk_frozen BK349.out 3; have hfz7_4 := blk_frozen BK349.out 4) | ((with_reducible refine gate_callee (f := 101) rfl ?_); refine goesL_ (some 15) rfl rfl Try.func101 (by kernel_rfl) rfl #[.agg #[.int .i64 a1_0, .bool a1_1, .bool a1_2, .bool a1_3, .bool a1_4], .int .i64 (l0.length : Int)] rfl (by (try simp only [List.map_toArray, List.map_cons, List.map_nil]); first | done | rfl | (simp only [List.length_drop, List.length_take]; rfl)) ?_; (with_reducible refine (satchelref04_head.calls k a1_0 a1_1 a1_2 a1_3 a1_4 (l0.length : Int) t350 _ A4.out).mono ?_); rintro e w8 ⟨v351, rfl, ho0, hb⟩; refine ⟨_, rfl, ?_⟩; have n0_ := Aside0.mk (Kd.R_lower ho0 (below_size (by repeat (first | (with_reducible first | exact HB.out | apply below_alloc | apply pw_below_drewN | apply below_drew1 | refine below_set ?_ GE349.out) | exact HB.out)))); have n1_ := Aside0.mk (blk_below (g := gb349) (o := .cells #[.int .i64 a1_0, .bool a1_1, .bool a1_2, .bool a1_3, .bool a1_4] 31 (0, 0)) (by (with_reducible repeat (first | refine blk_drewN ?_ _ | refine blk_drew ?_ | refine blk_alloc ?_ _)); exact BK349.out) hb); have n2_ := Aside0.mk (below_step (by repeat (first | (with_reducible first | exact HB.out | apply below_alloc | apply pw_below_drewN | apply below_drew1 | refine below_set ?_ GE349.out) | exact HB.out)) hb); clear BK349; clear HB; have HO352 := n0_; have BK349 := n1_; have HB := n2_; clear n0_ n1_ n2_; (try clear hb); (try clear hb2); (try clear hk); (try clear hi); (try clear ho0); have hcz9_0 : w8.cell? ⟨gb349, 0, none⟩ = some (.int .i64 a1_0) := (blk_cell BK349.out 0).trans rfl; have hcz9_1 : w8.cell? ⟨gb349, 1, none⟩ = some (.bool a1_1) := (blk_cell BK349.out 1).trans rfl; have hcz9_2 : w8.cell? ⟨gb349, 2, none⟩ = some (.bool a1_2) := (blk_cell BK349.out 2).trans rfl; have hcz9_3 : w8.cell? ⟨gb349, 3, none⟩ = some (.bool a1_3) := (blk_cell BK349.out 3).trans rfl; have hcz9_4 : w8.cell? ⟨gb349, 4, none⟩ = some (.bool a1_4) := (blk_cell BK349.out 4).trans rfl; have hfz9_0 := blk_frozen BK349.out 0; have hfz9_1 := blk_frozen BK349.out 1; have hfz9_2 := blk_frozen BK349.out 2; have hfz9_3 := blk_frozen BK349.out 3; have hfz9_4 := blk_frozen BK349.out 4) | ((with_reducible refine gate_callee (f := 82) rfl ?_); refine goesL_ (some 18) rfl rfl Try.func82 (by kernel_rfl) rfl #[.slice A0 l0.length c0, .agg #[.int .i64 a1_0, .bool a1_1, .bool a1_2, .bool a1_3, .bool a1_4]] rfl (by (try simp only [List.map_toArray, List.map_cons, List.map_nil]); first | done | rfl | (simp only [List.length_drop, List.length_take]; rfl)) ?_; (with_reducible refine (satchelref04_Pieces.calls k (fun k_ => k_ < w.heap.size) _ _ l0 a1_0 a1_1 a1_2 a1_3 a1_4 t353 _ ?side1 A5.out).mono ?_); (case side1 => exact Kd.V_mk HC0.out (Kd.F_below (Kd.C_F (Kd.heap_int .u8) HR0.out) (by repeat (first | (with_reducible first | exact HB.out | apply below_alloc | apply pw_below_drewN | apply below_drew1 | refine below_set ?_ GE349.out) | exact HB.out)))); rintro e w10 ⟨v354, rfl, ho0, hb⟩; refine ⟨_, rfl, ?_⟩; have n0_ := Aside0.mk (Kd.R_below (by (with_reducible repeat (first | apply Kd.R_alloc | apply Kd.R_drewN | apply Kd.R_drew)); exact HO352.out) hb); have n1_ := Aside0.mk (Kd.N_lower (Kd.N_mono (ok' := fun k_ => some k_ ≠ (v351 : Value).ownBlock ∧ k_ ≠ gb349) ho0 (fun k_ hk_ => ⟨Or.elim hk_ (fun hs_ => fun e_ => Nat.not_le.2 hs_ (Kd.R_base HO352.out k_ e_.symm)) (fun hn_ => (Kd.fresh' (Kd.R_lt (by (with_reducible repeat (first | apply Kd.R_alloc | apply Kd.R_drewN | apply Kd.R_drew)); exact HO352.out)) k_ hn_)), Or.elim hk_ (fun hs_ => fun e_ => Nat.not_le.2 hs_ (by rw [e_]; exact GW349.out)) (fun hn_ => (Kd.freshB (g := gb349) (o := .cells #[.int .i64 a1_0, .bool a1_1, .bool a1_2, .bool a1_3, .bool a1_4] 31 (0, 0)) (by (with_reducible repeat (first | refine blk_drewN ?_ _ | refine blk_drew ?_ | refine blk_alloc ?_ _)); exact BK349.out) k_ hn_))⟩)) (below_size (by repeat (first | (with_reducible first | exact HB.out | apply below_alloc | apply pw_below_drewN | apply below_drew1 | refine below_set ?_ GE349.out) | exact HB.out)))); have n2_ := Aside0.mk (blk_below (g := gb349) (o := .cells #[.int .i64 a1_0, .bool a1_1, .bool a1_2, .bool a1_3, .bool a1_4] 31 (0, 0)) (by (with_reducible repeat (first | refine blk_drewN ?_ _ | refine blk_drew ?_ | refine blk_alloc ?_ _)); exact BK349.out) hb); have n3_ := Aside0.mk (below_step (by repeat (first | (with_reducible first | exact HB.out | apply below_alloc | apply pw_below_drewN | apply below_drew1 | refine below_set ?_ GE349.out) | exact HB.out)) hb); clear HO352; clear BK349; clear HB; have HO352 := n0_; have HO355 := n1_; have BK349 := n2_; have HB := n3_; clear n0_ n1_ n2_ n3_; (try clear hb); (try clear hb2); (try clear hk); (try clear hi); (try clear ho0)))
  go_loopg [7, 9] k (fun kq v7 v9 w' => ∃ (x7_1 : List Int) (x9_1 : Int), v9 = .int .i64 x9_1 ∧ Aside0 (satchelref04_Lay.l0 kq l0 l2 x7_1 t353 x9_1 a1_0 a1_1 a1_2 a1_3 a1_4 = some r) ∧ Aside0 (kq ≤ k) ∧ Aside0 (Kd.R (Kd.int .u8) 5 w' w.heap.size (fun _ => True) v7 x7_1) ∧ Aside0 (Kd.N (Kd.slice 5 (Kd.int .u8)) 22 w' w.heap.size (fun k_ => some k_ ≠ (v7 : Value).ownBlock ∧ k_ ≠ gb349) v354 t353) ∧ Aside0 (w'.heap[gb349]? = some (.cells #[.int .i64 a1_0, .bool a1_1, .bool a1_2, .bool a1_3, .bool a1_4] 31 (0, 0))) ∧ Aside0 (Below w.heap.size w w'))
  case atStart => exact ⟨(t350), (0), (by first | rfl | (simp; done) | (simp [*]; done)), H', ⟨Nat.le_refl _⟩, ⟨by (with_reducible repeat (first | apply Kd.R_alloc | apply Kd.R_drewN | apply Kd.R_drew)); exact HO352.out⟩, ⟨by (with_reducible repeat (first | apply Kd.N_alloc | apply Kd.N_drewN | apply Kd.N_drew)); exact HO355.out⟩, ⟨by (with_reducible repeat (first | refine blk_drewN ?_ _ | refine blk_drew ?_ | refine blk_alloc ?_ _)); exact BK349.out⟩, ⟨by repeat (first | (with_reducible first | exact HB.out | apply below_alloc | apply pw_below_drewN | apply below_drew1 | refine below_set ?_ GE349.out) | exact HB.out)⟩⟩
  case round =>
    clear H'
    try clear c1
    try clear c2
    try clear p2
    try clear c8
    try clear c10
    try clear hcz7_0
    try clear hcz7_1
    try clear hcz7_2
    try clear hcz7_3
    try clear hcz7_4
    try clear hcz9_0
    try clear hcz9_1
    try clear hcz9_2
    try clear hcz9_3
    try clear hcz9_4
    try clear hfz7_0
    try clear hfz7_1
    try clear hfz7_2
    try clear hfz7_3
    try clear hfz7_4
    try clear hfz9_0
    try clear hfz9_1
    try clear hfz9_2
    try clear hfz9_3
    try clear hfz9_4
    obtain ⟨x7_1, x9_1, rfl, HA, HK1, HO_7, HO_8, BK349, HB⟩ := hrel
    cases gk with
    | zero => exact absurd HA.out (by simp [satchelref04_Lay.l0])
    | succ k1 =>
      have H := HA.out
      clear HA
      simp only [satchelref04_Lay.l0] at H
      by_cases c11 : x9_1 < (t353.length : Int)
      · rw [if_pos c11] at H
        have c11b0 : decide (x9_1 < (t353.length : Int)) = true := decide_eq_true c11
        clear c11
        by_cases c12 : 0 ≤ x9_1
        · rw [if_pos c12] at H
          have c12b0 : decide (0 ≤ x9_1) = true := decide_eq_true c12
          clear c12
          by_cases c13 : x9_1 < (l2.length : Int)
          · rw [if_pos c13] at H
            have c13b0 : decide (x9_1 < (l2.length : Int)) = true := decide_eq_true c13
            clear c13
            by_cases c14 : ((rd_L1 l2 x9_1).length : Int) ≥ ((rd_L1 t353 x9_1).length : Int)
            · rw [if_pos c14] at H
              have c14b0 : decide (((rd_L1 t353 x9_1).length : Int) ≤ ((rd_L1 l2 x9_1).length : Int)) = true := decide_eq_true c14
              have c14b1 : decide ((rd_L1 t353 x9_1).length ≤ (rd_L1 l2 x9_1).length) = true := decide_eq_true (Int.ofNat_le.mp c14)
              clear c14
              replace H := Option.bind_eq_some_iff.mp H
              obtain ⟨t359, A150, H⟩ := H
              replace H : (if x7_1.length + t359.length < 140737488355328 then ((some (x7_1 ++ t359 : List Int)).bind fun y362 => (if y362.length + (rd_L1 t353 x9_1).length < 140737488355328 then ((some (y362 ++ (rd_L1 t353 x9_1) : List Int)).bind fun y365 => (if a1_2 = true then ((satchelref02_Sum32.f 0 (rd_L1 t353 x9_1)).bind fun t368 => ((satchelref04_low.f k1 (IntKind.u64.wrap (t368)) 4).bind fun t369 => (if y365.length + t369.length < 140737488355328 then (satchelref04_Lay.l0 k1 l0 l2 (y365 ++ t369) t353 (wrap64 (x9_1 + 1)) a1_0 a1_1 a1_2 a1_3 a1_4) else (none)))) else (satchelref04_Lay.l0 k1 l0 l2 y365 t353 (wrap64 (x9_1 + 1)) a1_0 a1_1 a1_2 a1_3 a1_4))) else (none))) else (none)) = some r := H
              have A15 := Aside0.mk A150
              clear A150
              by_cases c16 : x7_1.length + t359.length < 140737488355328
              · rw [if_pos c16] at H
                have LMc16 := Aside0.mk c16
                clear c16
                obtain ⟨y362, hy362⟩ : ∃ y_ : List Int, y_ = (x7_1 ++ t359) := ⟨_, rfl⟩
                replace H : (if y362.length + (rd_L1 t353 x9_1).length < 140737488355328 then ((some (y362 ++ (rd_L1 t353 x9_1) : List Int)).bind fun y365 => (if a1_2 = true then ((satchelref02_Sum32.f 0 (rd_L1 t353 x9_1)).bind fun t368 => ((satchelref04_low.f k1 (IntKind.u64.wrap (t368)) 4).bind fun t369 => (if y365.length + t369.length < 140737488355328 then (satchelref04_Lay.l0 k1 l0 l2 (y365 ++ t369) t353 (wrap64 (x9_1 + 1)) a1_0 a1_1 a1_2 a1_3 a1_4) else (none)))) else (satchelref04_Lay.l0 k1 l0 l2 y365 t353 (wrap64 (x9_1 + 1)) a1_0 a1_1 a1_2 a1_3 a1_4))) else (none)) = some r := by first | (rw [hy362]; with_reducible exact H) | (have H2_ := (Option.bind_some _ _).symm.trans H; rw [hy362]; with_reducible exact H2_) | (have H2_ := (Option.bind_some _ _).symm.trans H; with_reducible exact H2_) | with_reducible exact H | (rw [hy362]; exact H) | exact H
                have Ny362 := Aside0.mk hy362
                clear hy362
                by_cases c17 : y362.length + (rd_L1 t353 x9_1).length < 140737488355328
                · rw [if_pos c17] at H
                  have LMc17 := Aside0.mk c17
                  clear c17
                  obtain ⟨y365, hy365⟩ : ∃ y_ : List Int, y_ = (y362 ++ (rd_L1 t353 x9_1)) := ⟨_, rfl⟩
                  replace H : (if a1_2 = true then ((satchelref02_Sum32.f 0 (rd_L1 t353 x9_1)).bind fun t368 => ((satchelref04_low.f k1 (IntKind.u64.wrap (t368)) 4).bind fun t369 => (if y365.length + t369.length < 140737488355328 then (satchelref04_Lay.l0 k1 l0 l2 (y365 ++ t369) t353 (wrap64 (x9_1 + 1)) a1_0 a1_1 a1_2 a1_3 a1_4) else (none)))) else (satchelref04_Lay.l0 k1 l0 l2 y365 t353 (wrap64 (x9_1 + 1)) a1_0 a1_1 a1_2 a1_3 a1_4)) = some r := by first | (rw [hy365]; with_reducible exact H) | (have H2_ := (Option.bind_some _ _).symm.trans H; rw [hy365]; with_reducible exact H2_) | (have H2_ := (Option.bind_some _ _).symm.trans H; with_reducible exact H2_) | with_reducible exact H | (rw [hy365]; exact H) | exact H
                  have Ny365 := Aside0.mk hy365
                  clear hy365
                  by_cases c18 : a1_2 = true
                  · subst c18
                    have H1 : ((satchelref02_Sum32.f 0 (rd_L1 t353 x9_1)).bind fun t368 => ((satchelref04_low.f k1 (IntKind.u64.wrap (t368)) 4).bind fun t369 => (if y365.length + t369.length < 140737488355328 then (satchelref04_Lay.l0 k1 l0 l2 (y365 ++ t369) t353 (wrap64 (x9_1 + 1)) a1_0 a1_1 true a1_3 a1_4) else (none)))) = some r := by rw [if_pos rfl] at H; exact H
                    clear H
                    have H := H1
                    clear H1
                    replace H := Option.bind_eq_some_iff.mp H
                    obtain ⟨t368, A190, H⟩ := H
                    replace H : ((satchelref04_low.f k1 (IntKind.u64.wrap (t368)) 4).bind fun t369 => (if y365.length + t369.length < 140737488355328 then (satchelref04_Lay.l0 k1 l0 l2 (y365 ++ t369) t353 (wrap64 (x9_1 + 1)) a1_0 a1_1 true a1_3 a1_4) else (none))) = some r := H
                    have A19 := Aside0.mk A190
                    clear A190
                    replace H := Option.bind_eq_some_iff.mp H
                    obtain ⟨t369, A200, H⟩ := H
                    replace H : (if y365.length + t369.length < 140737488355328 then (satchelref04_Lay.l0 k1 l0 l2 (y365 ++ t369) t353 (wrap64 (x9_1 + 1)) a1_0 a1_1 true a1_3 a1_4) else (none)) = some r := H
                    have A20 := Aside0.mk A200
                    clear A200
                    by_cases c21 : y365.length + t369.length < 140737488355328
                    · rw [if_pos c21] at H
                      have LMc21 := Aside0.mk c21
                      clear c21
                      obtain ⟨y372, hy372⟩ : ∃ y_ : List Int, y_ = (y365 ++ t369) := ⟨_, rfl⟩
                      replace H : (satchelref04_Lay.l0 k1 l0 l2 y372 t353 (wrap64 (x9_1 + 1)) a1_0 a1_1 true a1_3 a1_4) = some r := by first | (rw [hy372]; with_reducible exact H) | (have H2_ := (Option.bind_some _ _).symm.trans H; rw [hy372]; with_reducible exact H2_) | (have H2_ := (Option.bind_some _ _).symm.trans H; with_reducible exact H2_) | with_reducible exact H | (rw [hy372]; exact H) | exact H
                      have Ny372 := Aside0.mk hy372
                      clear hy372
                      have H' := Aside0.mk H
                      clear H
                      obtain ⟨Ao22, co22, eo22⟩ := Kd.N_slice HO_8.out
                      subst eo22
                      have p356 : 0 ≤ (x9_1 : Int) := of_decide_eq_true (by first | (with_reducible assumption) | assumption)
                      have q356 : x9_1 < (l2.length : Int) := of_decide_eq_true (by first | (with_reducible assumption) | assumption)
                      obtain ⟨ad356, A356_0, c356_0, e356, hx356_0, hl356_0, hi356_0⟩ := at_L1 HR2.out x9_1 p356 q356
                      cases e356
                      replace hx356_0 := (HB.out.cell (World.block_lt_of_cell? w _ hx356_0)).trans hx356_0
                      have HR356_0 := Aside0.mk hi356_0
                      have HC356_0 := Aside0.mk hl356_0
                      clear hi356_0 hl356_0
                      replace p356 := eq_true p356
                      replace q356 := eq_true q356
                      have p357 : 0 ≤ (x9_1 : Int) := of_decide_eq_true (by first | (with_reducible assumption) | assumption)
                      have q357 : x9_1 < (t353.length : Int) := of_decide_eq_true (by first | (with_reducible assumption) | assumption)
                      obtain ⟨ad357, A357_0, c357_0, e357, hx357_0, hl357_0, hi357_0⟩ := at_L1 (Kd.N_reads' HO_8.out).2.2 x9_1 p357 q357
                      cases e357
                      obtain ⟨ce357, hce357, hMe357, hcc357⟩ := Kd.N_get HO_8.out [] x9_1 p357 (by first | exact q357 | exact of_decide_eq_true (by first | (with_reducible assumption) | assumption) | (have e_ := (Kd.N_reads' HO_8.out).1; omega))
                      obtain ⟨ua357_0, uc357_0, rfl, ul357_0, ge357_0⟩ := Kd.FK_slice_open hMe357
                      have hv357_0 := hcc357 0 _ rfl
                      rw [Nat.add_zero, show ((Kd.slice 5 (Kd.int .u8))).sz = 1 from rfl, Nat.mul_one] at hv357_0
                      replace hv357_0 := Option.some.inj (hv357_0.symm.trans hx357_0)
                      injection hv357_0 with hva_ hvn_ hvc_
                      rw [hva_] at ge357_0
                      rw [hvc_] at ul357_0
                      have HL357_0 := Aside0.mk (show Kd.V (Kd.int .u8) 5 _ w.heap.size _ _ (rd_L1 t353 x9_1) from Kd.V_mk ul357_0 ge357_0)
                      clear hva_ hvn_ hvc_ ge357_0 ul357_0
                      clear hcc357 hce357
                      have HR357_0 := Aside0.mk hi357_0
                      have HC357_0 := Aside0.mk hl357_0
                      clear hi357_0 hl357_0
                      replace p357 := eq_true p357
                      replace q357 := eq_true q357
                      have p358 : 0 ≤ (x9_1 : Int) := of_decide_eq_true (by first | (with_reducible assumption) | assumption)
                      have q358 : x9_1 < (t353.length : Int) := of_decide_eq_true (by first | (with_reducible assumption) | assumption)
                      obtain ⟨ad358, A358_0, c358_0, e358, hx358_0, hl358_0, hi358_0⟩ := at_L1 (Kd.N_reads' HO_8.out).2.2 x9_1 p358 q358
                      obtain rfl : ad357 = ad358 := (by injection e358)
                      obtain ⟨ce358, hce358, hMe358, hcc358⟩ := Kd.N_get HO_8.out [] x9_1 p358 (by first | exact q358 | exact of_decide_eq_true (by first | (with_reducible assumption) | assumption) | (have e_ := (Kd.N_reads' HO_8.out).1; omega))
                      obtain ⟨ua358_0, uc358_0, rfl, ul358_0, ge358_0⟩ := Kd.FK_slice_open hMe358
                      have hv358_0 := hcc358 0 _ rfl
                      rw [Nat.add_zero, show ((Kd.slice 5 (Kd.int .u8))).sz = 1 from rfl, Nat.mul_one] at hv358_0
                      replace hv358_0 := Option.some.inj (hv358_0.symm.trans hx358_0)
                      injection hv358_0 with hva_ hvn_ hvc_
                      rw [hva_] at ge358_0
                      rw [hvc_] at ul358_0
                      have HL358_0 := Aside0.mk (show Kd.V (Kd.int .u8) 5 _ w.heap.size _ _ (rd_L1 t353 x9_1) from Kd.V_mk ul358_0 ge358_0)
                      clear hva_ hvn_ hvc_ ge358_0 ul358_0
                      clear hcc358 hce358
                      have HR358_0 := Aside0.mk hi358_0
                      have HC358_0 := Aside0.mk hl358_0
                      clear hi358_0 hl358_0
                      replace p358 := eq_true p358
                      replace q358 := eq_true q358
                      have ea_ := Option.some.inj (hx357_0.symm.trans hx358_0)
                      injection ea_ with ea_ en_ ec_
                      subst ea_
                      subst ec_
                      clear en_
                      go_wp2_with (first | ((with_reducible refine gate_callee (f := 84) rfl ?_); refine goesL_ (some 47) rfl rfl Try.func84 (by kernel_rfl) rfl #[.int .u64 (IntKind.u64.wrap ((IntKind.u64.wrap (((rd_L1 t353 x9_1).length : Int))) + 2147483648)), .int .i64 4] rfl (by (try simp only [List.map_toArray, List.map_cons, List.map_nil]); first | done | (go_simp; done) | (with_reducible rfl)) ?_; (with_reducible refine (satchelref04_low.calls k1 (IntKind.u64.wrap ((IntKind.u64.wrap (((rd_L1 t353 x9_1).length : Int))) + 2147483648)) 4 t359 _ A15.out).mono ?_); rintro e w23 ⟨v360, rfl, ho0, hb⟩; refine ⟨_, rfl, ?_⟩; have n0_ := Aside0.mk (Kd.R_elder' (by (with_reducible repeat (first | apply Kd.R_alloc | apply Kd.R_drewN | apply Kd.R_drew)); exact HO_7.out) (Kd.R_base ho0) hb); have n1_ := Aside0.mk (Kd.N_elder' (by (with_reducible repeat (first | apply Kd.N_alloc | apply Kd.N_drewN | apply Kd.N_drew)); exact HO_8.out) (Kd.R_base ho0) hb); have n2_ := Aside0.mk (Kd.V_elder' (by (with_reducible repeat (first | apply Kd.V_alloc | apply Kd.V_drewN | apply Kd.V_drew)); exact HL357_0.out) (Kd.R_base ho0) hb); have n3_ := Aside0.mk (Kd.V_elder' (by (with_reducible repeat (first | apply Kd.V_alloc | apply Kd.V_drewN | apply Kd.V_drew)); exact HL358_0.out) (Kd.R_base ho0) hb); have n4_ := Aside0.mk (Kd.R_lower (Kd.R_new' ho0 (Kd.R_lt (by (with_reducible repeat (first | apply Kd.R_alloc | apply Kd.R_drewN | apply Kd.R_drew)); exact HO_7.out))) (below_size (by repeat (first | (with_reducible first | exact HB.out | apply below_alloc | apply pw_below_drewN | apply below_drew1 | refine below_set ?_ GE349.out) | exact HB.out)))); have n5_ := Aside0.mk (blk_below (g := gb349) (o := .cells #[.int .i64 a1_0, .bool a1_1, .bool true, .bool a1_3, .bool a1_4] 31 (0, 0)) (by (with_reducible repeat (first | refine blk_drewN ?_ _ | refine blk_drew ?_ | refine blk_alloc ?_ _)); exact BK349.out) hb); have n6_ := Aside0.mk (Kd.C_below (by repeat (first | (with_reducible exact HR357_0.out) | (with_reducible refine Kd.C_alloc ?_ _) | (with_reducible refine Kd.C_drewN ?_ _) | (with_reducible refine Kd.C_drew ?_) | exact HR357_0.out)) hb); have n7_ := Aside0.mk (Kd.C_below (by repeat (first | (with_reducible exact HR358_0.out) | (with_reducible refine Kd.C_alloc ?_ _) | (with_reducible refine Kd.C_drewN ?_ _) | (with_reducible refine Kd.C_drew ?_) | exact HR358_0.out)) hb); have n8_ := Aside0.mk (below_step (by repeat (first | (with_reducible first | exact HB.out | apply below_alloc | apply pw_below_drewN | apply below_drew1 | refine below_set ?_ GE349.out) | exact HB.out)) hb); clear HO_7; clear HO_8; clear HL357_0; clear HL358_0; clear BK349; clear HR357_0; clear HR358_0; clear HB; have HO_7 := n0_; have HO_8 := n1_; have HL357_0 := n2_; have HL358_0 := n3_; have HO361 := n4_; have BK349 := n5_; have HR357_0 := n6_; have HR358_0 := n7_; have HB := n8_; clear n0_ n1_ n2_ n3_ n4_ n5_ n6_ n7_ n8_; (try clear hb); (try clear hb2); (try clear hk); (try clear hi); (try clear ho0); obtain ⟨Ao25, co25, eo25⟩ := Kd.R_slice HO361.out; subst eo25) | ((with_reducible refine gate_builtin (b := .append) (xs := #[.tmp 41, .tmp 47]) rfl ?_); at_builtin; refine Kd.R_append_rows (Kd.int .u8) (w0 := w) w.heap.size rfl (.tmp 41) (.tmp 47) 22 5 (.int .u8 0) 1 rfl Try.underlying22 info5 rfl (by decide) (by omega) u7 x7_1 t359 _ _ _ (fun k_ => some k_ ≠ (.slice Ao25 t359.length co25 : Value).ownBlock) (fun _ => False) rfl rfl ?aO ?aR (fun _ _ h => h) (fun _ h => h.elim) ?aF ?aB ?aS ?aL ?_; (case aR => repeat (first | exact (Kd.R_reads' HO361.out).2.2 | (with_reducible refine Kd.C_alloc ?_ _) | (with_reducible refine Kd.C_drewN ?_ _) | (with_reducible refine Kd.C_drew ?_))); (case aB => exact (by repeat (first | (with_reducible first | exact HB.out | apply below_alloc | apply pw_below_drewN | apply below_drew1 | refine below_set ?_ GE349.out) | exact HB.out))); (case aF => exact (fun k_ hk => Kd.fresh' (Kd.R_lt (by (with_reducible repeat (first | apply Kd.R_alloc | apply Kd.R_drewN | apply Kd.R_drew)); exact HO361.out)) k_ hk)); (case aO => exact (by (with_reducible repeat (first | apply Kd.R_alloc | apply Kd.R_drewN | apply Kd.R_drew)); exact Kd.R_mono HO_7.out (fun _ hk => hk.2))); (case aS => exact (below_size (by repeat (first | (with_reducible first | exact HB.out | apply below_alloc | apply pw_below_drewN | apply below_drew1 | refine below_set ?_ GE349.out) | exact HB.out)))); (case aL => have := LMc16.out; omega); intro v363 w24 ho hb hg hat; rw [← Ny362.out] at ho; have n0_ := Aside0.mk (Kd.N_afterv (ok := (fun k_ => some k_ ≠ (.slice Ao25 t359.length co25 : Value).ownBlock ∧ k_ ≠ gb349)) (by (with_reducible repeat (first | apply Kd.N_alloc | apply Kd.N_drewN | apply Kd.N_drew)); exact Kd.N_mono HO_8.out (fun _ hk => ⟨⟨hk.2, hk.1.2⟩, hk.1.1⟩)) hg hat); have n1_ := Aside0.mk (blk_grown (g := gb349) (o := .cells #[.int .i64 a1_0, .bool a1_1, .bool true, .bool a1_3, .bool a1_4] 31 (0, 0)) (by (with_reducible repeat (first | refine blk_drewN ?_ _ | refine blk_drew ?_ | refine blk_alloc ?_ _)); exact BK349.out) hg (Kd.R_ne HO_7.out BK349.out (by decide))); have n2_ := Aside0.mk (Kd.V_afterv (ok := (fun k_ => some k_ ≠ (.slice (some ad357) t353.length co22 : Value).ownBlock ∧ some k_ ≠ (.slice Ao25 t359.length co25 : Value).ownBlock ∧ k_ ≠ gb349)) (by (with_reducible repeat (first | apply Kd.V_alloc | apply Kd.V_drewN | apply Kd.V_drew)); exact Kd.V_mono HL357_0.out (fun _ hk => ⟨⟨hk.1.2, ⟨hk.2, hk.1.1.2⟩⟩, hk.1.1.1⟩)) hg hat); have n3_ := Aside0.mk (Kd.V_afterv (ok := (fun k_ => some k_ ≠ (.slice (some ad357) t353.length co22 : Value).ownBlock ∧ some k_ ≠ (.slice Ao25 t359.length co25 : Value).ownBlock ∧ k_ ≠ gb349)) (by (with_reducible repeat (first | apply Kd.V_alloc | apply Kd.V_drewN | apply Kd.V_drew)); exact Kd.V_mono HL358_0.out (fun _ hk => ⟨⟨hk.1.2, ⟨hk.2, hk.1.1.2⟩⟩, hk.1.1.1⟩)) hg hat); have n4_ := Aside0.mk (Kd.R_after (ok := (fun _ => True)) (by (with_reducible repeat (first | apply Kd.R_alloc | apply Kd.R_drewN | apply Kd.R_drew)); exact HO361.out) hg hat); have n5_ := Aside0.mk (hb); have n6_ := Aside0.mk (ho); clear HO_8; clear BK349; clear HL357_0; clear HL358_0; clear HO361; clear HB; clear HO_7; have HO_8 := n0_; have BK349 := n1_; have HL357_0 := n2_; have HL358_0 := n3_; have HO361 := n4_; have HB := n5_; have HO364 := n6_; clear n0_ n1_ n2_ n3_ n4_ n5_ n6_; clear ho hb hg hat) | ((with_reducible refine gate_builtin (b := .append) (xs := #[.tmp 49, .tmp 50]) rfl ?_); at_builtin; refine Kd.R_append_rows (Kd.int .u8) (w0 := w) w.heap.size rfl (.tmp 49) (.tmp 50) 22 5 (.int .u8 0) 1 rfl Try.underlying22 info5 rfl (by decide) (by omega) v363 y362 (rd_L1 t353 x9_1) _ _ _ (fun k_ => some k_ ≠ (.slice Ao25 t359.length co25 : Value).ownBlock) (fun _ => False) rfl rfl ?aO ?aR (fun _ _ h => h) (fun _ h => h.elim) ?aF ?aB ?aS ?aL ?_; (case aR => repeat (first | exact ((Kd.V_reads' (by (with_reducible repeat (first | apply Kd.V_alloc | apply Kd.V_drewN | apply Kd.V_drew)); exact HL358_0.out)).2.2) | (with_reducible refine Kd.C_alloc ?_ _) | (with_reducible refine Kd.C_drewN ?_ _) | (with_reducible refine Kd.C_drew ?_))); (case aB => exact (by repeat (first | (with_reducible first | exact HB.out | apply below_alloc | apply pw_below_drewN | apply below_drew1 | refine below_set ?_ GE349.out) | exact HB.out))); (case aF => exact (fun k_ hk => Kd.fresh' (Kd.R_lt (by (with_reducible repeat (first | apply Kd.R_alloc | apply Kd.R_drewN | apply Kd.R_drew)); exact HO361.out)) k_ hk)); (case aO => exact (by (with_reducible repeat (first | apply Kd.R_alloc | apply Kd.R_drewN | apply Kd.R_drew)); exact HO364.out)); (case aS => exact (below_size (by repeat (first | (with_reducible first | exact HB.out | apply below_alloc | apply pw_below_drewN | apply below_drew1 | refine below_set ?_ GE349.out) | exact HB.out)))); (case aL => have := LMc17.out; omega); intro v366 w26 ho hb hg hat; rw [← Ny365.out] at ho; have n0_ := Aside0.mk (Kd.N_afterv (ok := (fun k_ => some k_ ≠ (.slice Ao25 t359.length co25 : Value).ownBlock ∧ k_ ≠ gb349)) (by (with_reducible repeat (first | apply Kd.N_alloc | apply Kd.N_drewN | apply Kd.N_drew)); exact HO_8.out) hg hat); have n1_ := Aside0.mk (blk_grown (g := gb349) (o := .cells #[.int .i64 a1_0, .bool a1_1, .bool true, .bool a1_3, .bool a1_4] 31 (0, 0)) (by (with_reducible repeat (first | refine blk_drewN ?_ _ | refine blk_drew ?_ | refine blk_alloc ?_ _)); exact BK349.out) hg (Kd.R_ne HO364.out BK349.out (by decide))); have n2_ := Aside0.mk (Kd.V_afterv (ok := (fun k_ => some k_ ≠ (.slice (some ad357) t353.length co22 : Value).ownBlock ∧ some k_ ≠ (.slice Ao25 t359.length co25 : Value).ownBlock ∧ k_ ≠ gb349)) (by (with_reducible repeat (first | apply Kd.V_alloc | apply Kd.V_drewN | apply Kd.V_drew)); exact HL357_0.out) hg hat); have n3_ := Aside0.mk (Kd.V_afterv (ok := (fun k_ => some k_ ≠ (.slice (some ad357) t353.length co22 : Value).ownBlock ∧ some k_ ≠ (.slice Ao25 t359.length co25 : Value).ownBlock ∧ k_ ≠ gb349)) (by (with_reducible repeat (first | apply Kd.V_alloc | apply Kd.V_drewN | apply Kd.V_drew)); exact HL358_0.out) hg hat); have n4_ := Aside0.mk (Kd.R_after (ok := (fun _ => True)) (by (with_reducible repeat (first | apply Kd.R_alloc | apply Kd.R_drewN | apply Kd.R_drew)); exact HO361.out) hg hat); have n5_ := Aside0.mk (hb); have n6_ := Aside0.mk (ho); clear HO_8; clear BK349; clear HL357_0; clear HL358_0; clear HO361; clear HB; clear HO364; have HO_8 := n0_; have BK349 := n1_; have HL357_0 := n2_; have HL358_0 := n3_; have HO361 := n4_; have HB := n5_; have HO367 := n6_; clear n0_ n1_ n2_ n3_ n4_ n5_ n6_; clear ho hb hg hat; have hcz27_0 : w26.cell? ⟨gb349, 0, none⟩ = some (.int .i64 a1_0) := (blk_cell BK349.out 0).trans rfl; have hcz27_1 : w26.cell? ⟨gb349, 1, none⟩ = some (.bool a1_1) := (blk_cell BK349.out 1).trans rfl; have hcz27_2 : w26.cell? ⟨gb349, 2, none⟩ = some (.bool true) := (blk_cell BK349.out 2).trans rfl; have hcz27_3 : w26.cell? ⟨gb349, 3, none⟩ = some (.bool a1_3) := (blk_cell BK349.out 3).trans rfl; have hcz27_4 : w26.cell? ⟨gb349, 4, none⟩ = some (.bool a1_4) := (blk_cell BK349.out 4).trans rfl; have hfz27_0 := blk_frozen BK349.out 0; have hfz27_1 := blk_frozen BK349.out 1; have hfz27_2 := blk_frozen BK349.out 2; have hfz27_3 := blk_frozen BK349.out 3; have hfz27_4 := blk_frozen BK349.out 4) | ((with_reducible refine gate_callee (f := 102) rfl ?_); refine goesL_ (some 56) rfl rfl Try.func102 (by kernel_rfl) rfl #[.int .u32 0, .slice A357_0 (rd_L1 t353 x9_1).length c357_0] rfl (by (try simp only [List.map_toArray, List.map_cons, List.map_nil]); first | done | rfl | (simp only [List.length_drop, List.length_take]; rfl)) ?_; (with_reducible refine (satchelref02_Sum32.calls 0 _ _ (rd_L1 t353 x9_1) t368 _ ?side1 ?side2 A19.out).mono ?_); (case side1 => repeat (first | exact ((Kd.V_reads' (by (with_reducible repeat (first | apply Kd.V_alloc | apply Kd.V_drewN | apply Kd.V_drew)); exact HL358_0.out)).2.2) | (with_reducible refine Kd.C_alloc ?_ _) | (with_reducible refine Kd.C_drewN ?_ _) | (with_reducible refine Kd.C_drew ?_))); (case side2 => exact HC358_0.out); rintro e w28 ⟨rfl, hb⟩; refine ⟨_, rfl, ?_⟩; have n0_ := Aside0.mk (Kd.N_below (by (with_reducible repeat (first | apply Kd.N_alloc | apply Kd.N_drewN | apply Kd.N_drew)); exact HO_8.out) hb); have n1_ := Aside0.mk (Kd.V_below (by (with_reducible repeat (first | apply Kd.V_alloc | apply Kd.V_drewN | apply Kd.V_drew)); exact HL357_0.out) hb); have n2_ := Aside0.mk (Kd.V_below (by (with_reducible repeat (first | apply Kd.V_alloc | apply Kd.V_drewN | apply Kd.V_drew)); exact HL358_0.out) hb); have n3_ := Aside0.mk (Kd.R_below (by (with_reducible repeat (first | apply Kd.R_alloc | apply Kd.R_drewN | apply Kd.R_drew)); exact HO361.out) hb); have n4_ := Aside0.mk (Kd.R_below (by (with_reducible repeat (first | apply Kd.R_alloc | apply Kd.R_drewN | apply Kd.R_drew)); exact HO367.out) hb); have n5_ := Aside0.mk (blk_below (g := gb349) (o := .cells #[.int .i64 a1_0, .bool a1_1, .bool true, .bool a1_3, .bool a1_4] 31 (0, 0)) (by (with_reducible repeat (first | refine blk_drewN ?_ _ | refine blk_drew ?_ | refine blk_alloc ?_ _)); exact BK349.out) hb); have n6_ := Aside0.mk (below_step (by repeat (first | (with_reducible first | exact HB.out | apply below_alloc | apply pw_below_drewN | apply below_drew1 | refine below_set ?_ GE349.out) | exact HB.out)) hb); clear HO_8; clear HL357_0; clear HL358_0; clear HO361; clear HO367; clear BK349; clear HB; have HO_8 := n0_; have HL357_0 := n1_; have HL358_0 := n2_; have HO361 := n3_; have HO367 := n4_; have BK349 := n5_; have HB := n6_; clear n0_ n1_ n2_ n3_ n4_ n5_ n6_; (try clear hb); (try clear hb2); (try clear hk); (try clear hi)) | ((with_reducible refine gate_callee (f := 84) rfl ?_); refine goesL_ (some 58) rfl rfl Try.func84 (by kernel_rfl) rfl #[.int .u64 (IntKind.u64.wrap (t368)), .int .i64 4] rfl (by (try simp only [List.map_toArray, List.map_cons, List.map_nil]); first | done | rfl | (simp only [List.length_drop, List.length_take]; rfl)) ?_; (with_reducible refine (satchelref04_low.calls k1 (IntKind.u64.wrap (t368)) 4 t369 _ A20.out).mono ?_); rintro e w29 ⟨v370, rfl, ho0, hb⟩; refine ⟨_, rfl, ?_⟩; have n0_ := Aside0.mk (Kd.N_elder' (by (with_reducible repeat (first | apply Kd.N_alloc | apply Kd.N_drewN | apply Kd.N_drew)); exact HO_8.out) (Kd.R_base ho0) hb); have n1_ := Aside0.mk (Kd.V_elder' (by (with_reducible repeat (first | apply Kd.V_alloc | apply Kd.V_drewN | apply Kd.V_drew)); exact HL357_0.out) (Kd.R_base ho0) hb); have n2_ := Aside0.mk (Kd.V_elder' (by (with_reducible repeat (first | apply Kd.V_alloc | apply Kd.V_drewN | apply Kd.V_drew)); exact HL358_0.out) (Kd.R_base ho0) hb); have n3_ := Aside0.mk (Kd.R_elder' (by (with_reducible repeat (first | apply Kd.R_alloc | apply Kd.R_drewN | apply Kd.R_drew)); exact HO361.out) (Kd.R_base ho0) hb); have n4_ := Aside0.mk (Kd.R_elder' (by (with_reducible repeat (first | apply Kd.R_alloc | apply Kd.R_drewN | apply Kd.R_drew)); exact HO367.out) (Kd.R_base ho0) hb); have n5_ := Aside0.mk (Kd.R_lower (Kd.R_new' (Kd.R_new' ho0 (Kd.R_lt (by (with_reducible repeat (first | apply Kd.R_alloc | apply Kd.R_drewN | apply Kd.R_drew)); exact HO361.out))) (Kd.R_lt (by (with_reducible repeat (first | apply Kd.R_alloc | apply Kd.R_drewN | apply Kd.R_drew)); exact HO367.out))) (below_size (by repeat (first | (with_reducible first | exact HB.out | apply below_alloc | apply pw_below_drewN | apply below_drew1 | refine below_set ?_ GE349.out) | exact HB.out)))); have n6_ := Aside0.mk (blk_below (g := gb349) (o := .cells #[.int .i64 a1_0, .bool a1_1, .bool true, .bool a1_3, .bool a1_4] 31 (0, 0)) (by (with_reducible repeat (first | refine blk_drewN ?_ _ | refine blk_drew ?_ | refine blk_alloc ?_ _)); exact BK349.out) hb); have n7_ := Aside0.mk (below_step (by repeat (first | (with_reducible first | exact HB.out | apply below_alloc | apply pw_below_drewN | apply below_drew1 | refine below_set ?_ GE349.out) | exact HB.out)) hb); clear HO_8; clear HL357_0; clear HL358_0; clear HO361; clear HO367; clear BK349; clear HB; have HO_8 := n0_; have HL357_0 := n1_; have HL358_0 := n2_; have HO361 := n3_; have HO367 := n4_; have HO371 := n5_; have BK349 := n6_; have HB := n7_; clear n0_ n1_ n2_ n3_ n4_ n5_ n6_ n7_; (try clear hb); (try clear hb2); (try clear hk); (try clear hi); (try clear ho0); obtain ⟨Ao31, co31, eo31⟩ := Kd.R_slice HO371.out; subst eo31) | ((with_reducible refine gate_builtin (b := .append) (xs := #[.tmp 54, .tmp 58]) rfl ?_); at_builtin; refine Kd.R_append_rows (Kd.int .u8) (w0 := w) w.heap.size rfl (.tmp 54) (.tmp 58) 22 5 (.int .u8 0) 1 rfl Try.underlying22 info5 rfl (by decide) (by omega) v366 y365 t369 _ _ _ (fun k_ => some k_ ≠ (.slice Ao25 t359.length co25 : Value).ownBlock ∧ some k_ ≠ (.slice Ao31 t369.length co31 : Value).ownBlock) (fun _ => False) rfl rfl ?aO ?aR (fun _ _ h => h) (fun _ h => h.elim) ?aF ?aB ?aS ?aL ?_; (case aR => repeat (first | exact (Kd.R_reads' HO371.out).2.2 | (with_reducible refine Kd.C_alloc ?_ _) | (with_reducible refine Kd.C_drewN ?_ _) | (with_reducible refine Kd.C_drew ?_))); (case aB => exact (by repeat (first | (with_reducible first | exact HB.out | apply below_alloc | apply pw_below_drewN | apply below_drew1 | refine below_set ?_ GE349.out) | exact HB.out))); (case aF => exact (fun k_ hk => ⟨Kd.fresh' (Kd.R_lt (by (with_reducible repeat (first | apply Kd.R_alloc | apply Kd.R_drewN | apply Kd.R_drew)); exact HO361.out)) k_ hk, Kd.fresh' (Kd.R_lt (by (with_reducible repeat (first | apply Kd.R_alloc | apply Kd.R_drewN | apply Kd.R_drew)); exact HO371.out)) k_ hk⟩)); (case aO => exact (by (with_reducible repeat (first | apply Kd.R_alloc | apply Kd.R_drewN | apply Kd.R_drew)); exact HO367.out)); (case aS => exact (below_size (by repeat (first | (with_reducible first | exact HB.out | apply below_alloc | apply pw_below_drewN | apply below_drew1 | refine below_set ?_ GE349.out) | exact HB.out)))); (case aL => have := LMc21.out; omega); intro v373 w30 ho hb hg hat; rw [← Ny372.out] at ho; have n0_ := Aside0.mk (Kd.N_afterv (ok := (fun k_ => some k_ ≠ (.slice Ao25 t359.length co25 : Value).ownBlock ∧ some k_ ≠ (.slice Ao31 t369.length co31 : Value).ownBlock ∧ k_ ≠ gb349)) (by (with_reducible repeat (first | apply Kd.N_alloc | apply Kd.N_drewN | apply Kd.N_drew)); exact Kd.N_mono HO_8.out (fun _ hk => ⟨⟨hk.1.1.1, ⟨hk.2, hk.1.1.2⟩⟩, hk.1.2⟩)) hg hat); have n1_ := Aside0.mk (blk_grown (g := gb349) (o := .cells #[.int .i64 a1_0, .bool a1_1, .bool true, .bool a1_3, .bool a1_4] 31 (0, 0)) (by (with_reducible repeat (first | refine blk_drewN ?_ _ | refine blk_drew ?_ | refine blk_alloc ?_ _)); exact BK349.out) hg (Kd.R_ne HO367.out BK349.out (by decide))); have n2_ := Aside0.mk (Kd.V_afterv (ok := (fun k_ => some k_ ≠ (.slice (some ad357) t353.length co22 : Value).ownBlock ∧ some k_ ≠ (.slice Ao25 t359.length co25 : Value).ownBlock ∧ some k_ ≠ (.slice Ao31 t369.length co31 : Value).ownBlock ∧ k_ ≠ gb349)) (by (with_reducible repeat (first | apply Kd.V_alloc | apply Kd.V_drewN | apply Kd.V_drew)); exact Kd.V_mono HL357_0.out (fun _ hk => ⟨⟨hk.1.1.1, ⟨hk.1.1.2.1, ⟨hk.2, hk.1.1.2.2⟩⟩⟩, hk.1.2⟩)) hg hat); have n3_ := Aside0.mk (Kd.V_afterv (ok := (fun k_ => some k_ ≠ (.slice (some ad357) t353.length co22 : Value).ownBlock ∧ some k_ ≠ (.slice Ao25 t359.length co25 : Value).ownBlock ∧ some k_ ≠ (.slice Ao31 t369.length co31 : Value).ownBlock ∧ k_ ≠ gb349)) (by (with_reducible repeat (first | apply Kd.V_alloc | apply Kd.V_drewN | apply Kd.V_drew)); exact Kd.V_mono HL358_0.out (fun _ hk => ⟨⟨hk.1.1.1, ⟨hk.1.1.2.1, ⟨hk.2, hk.1.1.2.2⟩⟩⟩, hk.1.2⟩)) hg hat); have n4_ := Aside0.mk (Kd.R_after (ok := (fun k_ => some k_ ≠ (.slice Ao31 t369.length co31 : Value).ownBlock)) (by (with_reducible repeat (first | apply Kd.R_alloc | apply Kd.R_drewN | apply Kd.R_drew)); exact Kd.R_mono HO361.out (fun _ hk => ⟨hk.2, hk.1.2⟩)) hg hat); have n5_ := Aside0.mk (Kd.R_after (ok := (fun k_ => some k_ ≠ (.slice Ao25 t359.length co25 : Value).ownBlock)) (by (with_reducible repeat (first | apply Kd.R_alloc | apply Kd.R_drewN | apply Kd.R_drew)); exact Kd.R_mono HO371.out (fun _ hk => ⟨hk.1.2, hk.2⟩)) hg hat); have n6_ := Aside0.mk (hb); have n7_ := Aside0.mk (ho); clear HO_8; clear BK349; clear HL357_0; clear HL358_0; clear HO361; clear HO371; clear HB; clear HO367; have HO_8 := n0_; have BK349 := n1_; have HL357_0 := n2_; have HL358_0 := n3_; have HO361 := n4_; have HO371 := n5_; have HB := n6_; have HO374 := n7_; clear n0_ n1_ n2_ n3_ n4_ n5_ n6_ n7_; clear ho hb hg hat))
                      go_roundg k1
                      case measure => have := HK1.out; omega
                      case rel => exact ⟨(y372), (wrap64 (x9_1 + 1)), (by first | rfl | (simp; done) | (simp [*]; done)), H', ⟨by have := HK1.out; omega⟩, ⟨by (with_reducible repeat (first | apply Kd.R_alloc | apply Kd.R_drewN | apply Kd.R_drew)); exact Kd.R_mono HO374.out (fun _ hk => trivial)⟩, ⟨by (with_reducible repeat (first | apply Kd.N_alloc | apply Kd.N_drewN | apply Kd.N_drew)); exact Kd.N_mono HO_8.out (fun _ hk => ⟨hk.2, hk.1.2.2⟩)⟩, ⟨by (with_reducible repeat (first | refine blk_drewN ?_ _ | refine blk_drew ?_ | refine blk_alloc ?_ _)); exact BK349.out⟩, ⟨by repeat (first | (with_reducible first | exact HB.out | apply below_alloc | apply pw_below_drewN | apply below_drew1 | refine below_set ?_ GE349.out) | exact HB.out)⟩⟩
                    · rw [if_neg c21] at H
                      exact absurd H (by simp)
                  · replace c18 := Bool.eq_false_iff.mpr c18
                    subst c18
                    have H1 : (satchelref04_Lay.l0 k1 l0 l2 y365 t353 (wrap64 (x9_1 + 1)) a1_0 a1_1 false a1_3 a1_4) = some r := by rw [if_neg (show ¬ (false = true) by decide)] at H; exact H
                    clear H
                    have H := H1
                    clear H1
                    have H' := Aside0.mk H
                    clear H
                    obtain ⟨Ao32, co32, eo32⟩ := Kd.N_slice HO_8.out
                    subst eo32
                    have p356 : 0 ≤ (x9_1 : Int) := of_decide_eq_true (by first | (with_reducible assumption) | assumption)
                    have q356 : x9_1 < (l2.length : Int) := of_decide_eq_true (by first | (with_reducible assumption) | assumption)
                    obtain ⟨ad356, A356_0, c356_0, e356, hx356_0, hl356_0, hi356_0⟩ := at_L1 HR2.out x9_1 p356 q356
                    cases e356
                    replace hx356_0 := (HB.out.cell (World.block_lt_of_cell? w _ hx356_0)).trans hx356_0
                    have HR356_0 := Aside0.mk hi356_0
                    have HC356_0 := Aside0.mk hl356_0
                    clear hi356_0 hl356_0
                    replace p356 := eq_true p356
                    replace q356 := eq_true q356
                    have p357 : 0 ≤ (x9_1 : Int) := of_decide_eq_true (by first | (with_reducible assumption) | assumption)
                    have q357 : x9_1 < (t353.length : Int) := of_decide_eq_true (by first | (with_reducible assumption) | assumption)
                    obtain ⟨ad357, A357_0, c357_0, e357, hx357_0, hl357_0, hi357_0⟩ := at_L1 (Kd.N_reads' HO_8.out).2.2 x9_1 p357 q357
                    cases e357
                    obtain ⟨ce357, hce357, hMe357, hcc357⟩ := Kd.N_get HO_8.out [] x9_1 p357 (by first | exact q357 | exact of_decide_eq_true (by first | (with_reducible assumption) | assumption) | (have e_ := (Kd.N_reads' HO_8.out).1; omega))
                    obtain ⟨ua357_0, uc357_0, rfl, ul357_0, ge357_0⟩ := Kd.FK_slice_open hMe357
                    have hv357_0 := hcc357 0 _ rfl
                    rw [Nat.add_zero, show ((Kd.slice 5 (Kd.int .u8))).sz = 1 from rfl, Nat.mul_one] at hv357_0
                    replace hv357_0 := Option.some.inj (hv357_0.symm.trans hx357_0)
                    injection hv357_0 with hva_ hvn_ hvc_
                    rw [hva_] at ge357_0
                    rw [hvc_] at ul357_0
                    have HL357_0 := Aside0.mk (show Kd.V (Kd.int .u8) 5 _ w.heap.size _ _ (rd_L1 t353 x9_1) from Kd.V_mk ul357_0 ge357_0)
                    clear hva_ hvn_ hvc_ ge357_0 ul357_0
                    clear hcc357 hce357
                    have HR357_0 := Aside0.mk hi357_0
                    have HC357_0 := Aside0.mk hl357_0
                    clear hi357_0 hl357_0
                    replace p357 := eq_true p357
                    replace q357 := eq_true q357
                    have p358 : 0 ≤ (x9_1 : Int) := of_decide_eq_true (by first | (with_reducible assumption) | assumption)
                    have q358 : x9_1 < (t353.length : Int) := of_decide_eq_true (by first | (with_reducible assumption) | assumption)
                    obtain ⟨ad358, A358_0, c358_0, e358, hx358_0, hl358_0, hi358_0⟩ := at_L1 (Kd.N_reads' HO_8.out).2.2 x9_1 p358 q358
                    obtain rfl : ad357 = ad358 := (by injection e358)
                    obtain ⟨ce358, hce358, hMe358, hcc358⟩ := Kd.N_get HO_8.out [] x9_1 p358 (by first | exact q358 | exact of_decide_eq_true (by first | (with_reducible assumption) | assumption) | (have e_ := (Kd.N_reads' HO_8.out).1; omega))
                    obtain ⟨ua358_0, uc358_0, rfl, ul358_0, ge358_0⟩ := Kd.FK_slice_open hMe358
                    have hv358_0 := hcc358 0 _ rfl
                    rw [Nat.add_zero, show ((Kd.slice 5 (Kd.int .u8))).sz = 1 from rfl, Nat.mul_one] at hv358_0
                    replace hv358_0 := Option.some.inj (hv358_0.symm.trans hx358_0)
                    injection hv358_0 with hva_ hvn_ hvc_
                    rw [hva_] at ge358_0
                    rw [hvc_] at ul358_0
                    have HL358_0 := Aside0.mk (show Kd.V (Kd.int .u8) 5 _ w.heap.size _ _ (rd_L1 t353 x9_1) from Kd.V_mk ul358_0 ge358_0)
                    clear hva_ hvn_ hvc_ ge358_0 ul358_0
                    clear hcc358 hce358
                    have HR358_0 := Aside0.mk hi358_0
                    have HC358_0 := Aside0.mk hl358_0
                    clear hi358_0 hl358_0
                    replace p358 := eq_true p358
                    replace q358 := eq_true q358
                    have ea_ := Option.some.inj (hx357_0.symm.trans hx358_0)
                    injection ea_ with ea_ en_ ec_
                    subst ea_
                    subst ec_
                    clear en_
                    go_wp2_with (first | ((with_reducible refine gate_callee (f := 84) rfl ?_); refine goesL_ (some 47) rfl rfl Try.func84 (by kernel_rfl) rfl #[.int .u64 (IntKind.u64.wrap ((IntKind.u64.wrap (((rd_L1 t353 x9_1).length : Int))) + 2147483648)), .int .i64 4] rfl (by (try simp only [List.map_toArray, List.map_cons, List.map_nil]); first | done | (go_simp; done) | (with_reducible rfl)) ?_; (with_reducible refine (satchelref04_low.calls k1 (IntKind.u64.wrap ((IntKind.u64.wrap (((rd_L1 t353 x9_1).length : Int))) + 2147483648)) 4 t359 _ A15.out).mono ?_); rintro e w33 ⟨v360, rfl, ho0, hb⟩; refine ⟨_, rfl, ?_⟩; have n0_ := Aside0.mk (Kd.R_elder' (by (with_reducible repeat (first | apply Kd.R_alloc | apply Kd.R_drewN | apply Kd.R_drew)); exact HO_7.out) (Kd.R_base ho0) hb); have n1_ := Aside0.mk (Kd.N_elder' (by (with_reducible repeat (first | apply Kd.N_alloc | apply Kd.N_drewN | apply Kd.N_drew)); exact HO_8.out) (Kd.R_base ho0) hb); have n2_ := Aside0.mk (Kd.V_elder' (by (with_reducible repeat (first | apply Kd.V_alloc | apply Kd.V_drewN | apply Kd.V_drew)); exact HL357_0.out) (Kd.R_base ho0) hb); have n3_ := Aside0.mk (Kd.V_elder' (by (with_reducible repeat (first | apply Kd.V_alloc | apply Kd.V_drewN | apply Kd.V_drew)); exact HL358_0.out) (Kd.R_base ho0) hb); have n4_ := Aside0.mk (Kd.R_lower (Kd.R_new' ho0 (Kd.R_lt (by (with_reducible repeat (first | apply Kd.R_alloc | apply Kd.R_drewN | apply Kd.R_drew)); exact HO_7.out))) (below_size (by repeat (first | (with_reducible first | exact HB.out | apply below_alloc | apply pw_below_drewN | apply below_drew1 | refine below_set ?_ GE349.out) | exact HB.out)))); have n5_ := Aside0.mk (blk_below (g := gb349) (o := .cells #[.int .i64 a1_0, .bool a1_1, .bool false, .bool a1_3, .bool a1_4] 31 (0, 0)) (by (with_reducible repeat (first | refine blk_drewN ?_ _ | refine blk_drew ?_ | refine blk_alloc ?_ _)); exact BK349.out) hb); have n6_ := Aside0.mk (Kd.C_below (by repeat (first | (with_reducible exact HR357_0.out) | (with_reducible refine Kd.C_alloc ?_ _) | (with_reducible refine Kd.C_drewN ?_ _) | (with_reducible refine Kd.C_drew ?_) | exact HR357_0.out)) hb); have n7_ := Aside0.mk (Kd.C_below (by repeat (first | (with_reducible exact HR358_0.out) | (with_reducible refine Kd.C_alloc ?_ _) | (with_reducible refine Kd.C_drewN ?_ _) | (with_reducible refine Kd.C_drew ?_) | exact HR358_0.out)) hb); have n8_ := Aside0.mk (below_step (by repeat (first | (with_reducible first | exact HB.out | apply below_alloc | apply pw_below_drewN | apply below_drew1 | refine below_set ?_ GE349.out) | exact HB.out)) hb); clear HO_7; clear HO_8; clear HL357_0; clear HL358_0; clear BK349; clear HR357_0; clear HR358_0; clear HB; have HO_7 := n0_; have HO_8 := n1_; have HL357_0 := n2_; have HL358_0 := n3_; have HO361 := n4_; have BK349 := n5_; have HR357_0 := n6_; have HR358_0 := n7_; have HB := n8_; clear n0_ n1_ n2_ n3_ n4_ n5_ n6_ n7_ n8_; (try clear hb); (try clear hb2); (try clear hk); (try clear hi); (try clear ho0); obtain ⟨Ao35, co35, eo35⟩ := Kd.R_slice HO361.out; subst eo35) | ((with_reducible refine gate_builtin (b := .append) (xs := #[.tmp 41, .tmp 47]) rfl ?_); at_builtin; refine Kd.R_append_rows (Kd.int .u8) (w0 := w) w.heap.size rfl (.tmp 41) (.tmp 47) 22 5 (.int .u8 0) 1 rfl Try.underlying22 info5 rfl (by decide) (by omega) u7 x7_1 t359 _ _ _ (fun k_ => some k_ ≠ (.slice Ao35 t359.length co35 : Value).ownBlock) (fun _ => False) rfl rfl ?aO ?aR (fun _ _ h => h) (fun _ h => h.elim) ?aF ?aB ?aS ?aL ?_; (case aR => repeat (first | exact (Kd.R_reads' HO361.out).2.2 | (with_reducible refine Kd.C_alloc ?_ _) | (with_reducible refine Kd.C_drewN ?_ _) | (with_reducible refine Kd.C_drew ?_))); (case aB => exact (by repeat (first | (with_reducible first | exact HB.out | apply below_alloc | apply pw_below_drewN | apply below_drew1 | refine below_set ?_ GE349.out) | exact HB.out))); (case aF => exact (fun k_ hk => Kd.fresh' (Kd.R_lt (by (with_reducible repeat (first | apply Kd.R_alloc | apply Kd.R_drewN | apply Kd.R_drew)); exact HO361.out)) k_ hk)); (case aO => exact (by (with_reducible repeat (first | apply Kd.R_alloc | apply Kd.R_drewN | apply Kd.R_drew)); exact Kd.R_mono HO_7.out (fun _ hk => hk.2))); (case aS => exact (below_size (by repeat (first | (with_reducible first | exact HB.out | apply below_alloc | apply pw_below_drewN | apply below_drew1 | refine below_set ?_ GE349.out) | exact HB.out)))); (case aL => have := LMc16.out; omega); intro v363 w34 ho hb hg hat; rw [← Ny362.out] at ho; have n0_ := Aside0.mk (Kd.N_afterv (ok := (fun k_ => some k_ ≠ (.slice Ao35 t359.length co35 : Value).ownBlock ∧ k_ ≠ gb349)) (by (with_reducible repeat (first | apply Kd.N_alloc | apply Kd.N_drewN | apply Kd.N_drew)); exact Kd.N_mono HO_8.out (fun _ hk => ⟨⟨hk.2, hk.1.2⟩, hk.1.1⟩)) hg hat); have n1_ := Aside0.mk (blk_grown (g := gb349) (o := .cells #[.int .i64 a1_0, .bool a1_1, .bool false, .bool a1_3, .bool a1_4] 31 (0, 0)) (by (with_reducible repeat (first | refine blk_drewN ?_ _ | refine blk_drew ?_ | refine blk_alloc ?_ _)); exact BK349.out) hg (Kd.R_ne HO_7.out BK349.out (by decide))); have n2_ := Aside0.mk (Kd.V_afterv (ok := (fun k_ => some k_ ≠ (.slice (some ad357) t353.length co32 : Value).ownBlock ∧ some k_ ≠ (.slice Ao35 t359.length co35 : Value).ownBlock ∧ k_ ≠ gb349)) (by (with_reducible repeat (first | apply Kd.V_alloc | apply Kd.V_drewN | apply Kd.V_drew)); exact Kd.V_mono HL357_0.out (fun _ hk => ⟨⟨hk.1.2, ⟨hk.2, hk.1.1.2⟩⟩, hk.1.1.1⟩)) hg hat); have n3_ := Aside0.mk (Kd.V_afterv (ok := (fun k_ => some k_ ≠ (.slice (some ad357) t353.length co32 : Value).ownBlock ∧ some k_ ≠ (.slice Ao35 t359.length co35 : Value).ownBlock ∧ k_ ≠ gb349)) (by (with_reducible repeat (first | apply Kd.V_alloc | apply Kd.V_drewN | apply Kd.V_drew)); exact Kd.V_mono HL358_0.out (fun _ hk => ⟨⟨hk.1.2, ⟨hk.2, hk.1.1.2⟩⟩, hk.1.1.1⟩)) hg hat); have n4_ := Aside0.mk (Kd.R_after (ok := (fun _ => True)) (by (with_reducible repeat (first | apply Kd.R_alloc | apply Kd.R_drewN | apply Kd.R_drew)); exact HO361.out) hg hat); have n5_ := Aside0.mk (hb); have n6_ := Aside0.mk (ho); clear HO_8; clear BK349; clear HL357_0; clear HL358_0; clear HO361; clear HB; clear HO_7; have HO_8 := n0_; have BK349 := n1_; have HL357_0 := n2_; have HL358_0 := n3_; have HO361 := n4_; have HB := n5_; have HO364 := n6_; clear n0_ n1_ n2_ n3_ n4_ n5_ n6_; clear ho hb hg hat) | ((with_reducible refine gate_builtin (b := .append) (xs := #[.tmp 49, .tmp 50]) rfl ?_); at_builtin; refine Kd.R_append_rows (Kd.int .u8) (w0 := w) w.heap.size rfl (.tmp 49) (.tmp 50) 22 5 (.int .u8 0) 1 rfl Try.underlying22 info5 rfl (by decide) (by omega) v363 y362 (rd_L1 t353 x9_1) _ _ _ (fun k_ => some k_ ≠ (.slice Ao35 t359.length co35 : Value).ownBlock) (fun _ => False) rfl rfl ?aO ?aR (fun _ _ h => h) (fun _ h => h.elim) ?aF ?aB ?aS ?aL ?_; (case aR => repeat (first | exact ((Kd.V_reads' (by (with_reducible repeat (first | apply Kd.V_alloc | apply Kd.V_drewN | apply Kd.V_drew)); exact HL358_0.out)).2.2) | (with_reducible refine Kd.C_alloc ?_ _) | (with_reducible refine Kd.C_drewN ?_ _) | (with_reducible refine Kd.C_drew ?_))); (case aB => exact (by repeat (first | (with_reducible first | exact HB.out | apply below_alloc | apply pw_below_drewN | apply below_drew1 | refine below_set ?_ GE349.out) | exact HB.out))); (case aF => exact (fun k_ hk => Kd.fresh' (Kd.R_lt (by (with_reducible repeat (first | apply Kd.R_alloc | apply Kd.R_drewN | apply Kd.R_drew)); exact HO361.out)) k_ hk)); (case aO => exact (by (with_reducible repeat (first | apply Kd.R_alloc | apply Kd.R_drewN | apply Kd.R_drew)); exact HO364.out)); (case aS => exact (below_size (by repeat (first | (with_reducible first | exact HB.out | apply below_alloc | apply pw_below_drewN | apply below_drew1 | refine below_set ?_ GE349.out) | exact HB.out)))); (case aL => have := LMc17.out; omega); intro v366 w36 ho hb hg hat; rw [← Ny365.out] at ho; have n0_ := Aside0.mk (Kd.N_afterv (ok := (fun k_ => some k_ ≠ (.slice Ao35 t359.length co35 : Value).ownBlock ∧ k_ ≠ gb349)) (by (with_reducible repeat (first | apply Kd.N_alloc | apply Kd.N_drewN | apply Kd.N_drew)); exact HO_8.out) hg hat); have n1_ := Aside0.mk (blk_grown (g := gb349) (o := .cells #[.int .i64 a1_0, .bool a1_1, .bool false, .bool a1_3, .bool a1_4] 31 (0, 0)) (by (with_reducible repeat (first | refine blk_drewN ?_ _ | refine blk_drew ?_ | refine blk_alloc ?_ _)); exact BK349.out) hg (Kd.R_ne HO364.out BK349.out (by decide))); have n2_ := Aside0.mk (Kd.V_afterv (ok := (fun k_ => some k_ ≠ (.slice (some ad357) t353.length co32 : Value).ownBlock ∧ some k_ ≠ (.slice Ao35 t359.length co35 : Value).ownBlock ∧ k_ ≠ gb349)) (by (with_reducible repeat (first | apply Kd.V_alloc | apply Kd.V_drewN | apply Kd.V_drew)); exact HL357_0.out) hg hat); have n3_ := Aside0.mk (Kd.V_afterv (ok := (fun k_ => some k_ ≠ (.slice (some ad357) t353.length co32 : Value).ownBlock ∧ some k_ ≠ (.slice Ao35 t359.length co35 : Value).ownBlock ∧ k_ ≠ gb349)) (by (with_reducible repeat (first | apply Kd.V_alloc | apply Kd.V_drewN | apply Kd.V_drew)); exact HL358_0.out) hg hat); have n4_ := Aside0.mk (Kd.R_after (ok := (fun _ => True)) (by (with_reducible repeat (first | apply Kd.R_alloc | apply Kd.R_drewN | apply Kd.R_drew)); exact HO361.out) hg hat); have n5_ := Aside0.mk (hb); have n6_ := Aside0.mk (ho); clear HO_8; clear BK349; clear HL357_0; clear HL358_0; clear HO361; clear HB; clear HO364; have HO_8 := n0_; have BK349 := n1_; have HL357_0 := n2_; have HL358_0 := n3_; have HO361 := n4_; have HB := n5_; have HO367 := n6_; clear n0_ n1_ n2_ n3_ n4_ n5_ n6_; clear ho hb hg hat; have hcz37_0 : w36.cell? ⟨gb349, 0, none⟩ = some (.int .i64 a1_0) := (blk_cell BK349.out 0).trans rfl; have hcz37_1 : w36.cell? ⟨gb349, 1, none⟩ = some (.bool a1_1) := (blk_cell BK349.out 1).trans rfl; have hcz37_2 : w36.cell? ⟨gb349, 2, none⟩ = some (.bool false) := (blk_cell BK349.out 2).trans rfl; have hcz37_3 : w36.cell? ⟨gb349, 3, none⟩ = some (.bool a1_3) := (blk_cell BK349.out 3).trans rfl; have hcz37_4 : w36.cell? ⟨gb349, 4, none⟩ = some (.bool a1_4) := (blk_cell BK349.out 4).trans rfl; have hfz37_0 := blk_frozen BK349.out 0; have hfz37_1 := blk_frozen BK349.out 1; have hfz37_2 := blk_frozen BK349.out 2; have hfz37_3 := blk_frozen BK349.out 3; have hfz37_4 := blk_frozen BK349.out 4))
                    go_roundg k1
                    case measure => have := HK1.out; omega
                    case rel => exact ⟨(y365), (wrap64 (x9_1 + 1)), (by first | rfl | (simp; done) | (simp [*]; done)), H', ⟨by have := HK1.out; omega⟩, ⟨by (with_reducible repeat (first | apply Kd.R_alloc | apply Kd.R_drewN | apply Kd.R_drew)); exact Kd.R_mono HO367.out (fun _ hk => trivial)⟩, ⟨by (with_reducible repeat (first | apply Kd.N_alloc | apply Kd.N_drewN | apply Kd.N_drew)); exact Kd.N_mono HO_8.out (fun _ hk => ⟨hk.2, hk.1.2⟩)⟩, ⟨by (with_reducible repeat (first | refine blk_drewN ?_ _ | refine blk_drew ?_ | refine blk_alloc ?_ _)); exact BK349.out⟩, ⟨by repeat (first | (with_reducible first | exact HB.out | apply below_alloc | apply pw_below_drewN | apply below_drew1 | refine below_set ?_ GE349.out) | exact HB.out)⟩⟩
                · rw [if_neg c17] at H
                  exact absurd H (by simp)
              · rw [if_neg c16] at H
                exact absurd H (by simp)
            · rw [if_neg c14] at H
              have c14b0 : decide (((rd_L1 t353 x9_1).length : Int) ≤ ((rd_L1 l2 x9_1).length : Int)) = false := decide_eq_false c14
              have c14b1 : decide ((rd_L1 t353 x9_1).length ≤ (rd_L1 l2 x9_1).length) = false := decide_eq_false (fun h => c14 (Int.ofNat_le.mpr h))
              clear c14
              replace H := Option.bind_eq_some_iff.mp H
              obtain ⟨t375, A380, H⟩ := H
              replace H : (if x7_1.length + t375.length < 140737488355328 then ((some (x7_1 ++ t375 : List Int)).bind fun y378 => (if y378.length + (rd_L1 l2 x9_1).length < 140737488355328 then ((some (y378 ++ (rd_L1 l2 x9_1) : List Int)).bind fun y381 => (if a1_2 = true then ((satchelref02_Sum32.f 0 (rd_L1 l2 x9_1)).bind fun t384 => ((satchelref04_low.f k1 (IntKind.u64.wrap (t384)) 4).bind fun t385 => (if y381.length + t385.length < 140737488355328 then (satchelref04_Lay.l0 k1 l0 l2 (y381 ++ t385) t353 (wrap64 (x9_1 + 1)) a1_0 a1_1 a1_2 a1_3 a1_4) else (none)))) else (satchelref04_Lay.l0 k1 l0 l2 y381 t353 (wrap64 (x9_1 + 1)) a1_0 a1_1 a1_2 a1_3 a1_4))) else (none))) else (none)) = some r := H
              have A38 := Aside0.mk A380
              clear A380
              by_cases c39 : x7_1.length + t375.length < 140737488355328
              · rw [if_pos c39] at H
                have LMc39 := Aside0.mk c39
                clear c39
                obtain ⟨y378, hy378⟩ : ∃ y_ : List Int, y_ = (x7_1 ++ t375) := ⟨_, rfl⟩
                replace H : (if y378.length + (rd_L1 l2 x9_1).length < 140737488355328 then ((some (y378 ++ (rd_L1 l2 x9_1) : List Int)).bind fun y381 => (if a1_2 = true then ((satchelref02_Sum32.f 0 (rd_L1 l2 x9_1)).bind fun t384 => ((satchelref04_low.f k1 (IntKind.u64.wrap (t384)) 4).bind fun t385 => (if y381.length + t385.length < 140737488355328 then (satchelref04_Lay.l0 k1 l0 l2 (y381 ++ t385) t353 (wrap64 (x9_1 + 1)) a1_0 a1_1 a1_2 a1_3 a1_4) else (none)))) else (satchelref04_Lay.l0 k1 l0 l2 y381 t353 (wrap64 (x9_1 + 1)) a1_0 a1_1 a1_2 a1_3 a1_4))) else (none)) = some r := by first | (rw [hy378]; with_reducible exact H) | (have H2_ := (Option.bind_some _ _).symm.trans H; rw [hy378]; with_reducible exact H2_) | (have H2_ := (Option.bind_some _ _).symm.trans H; with_reducible exact H2_) | with_reducible exact H | (rw [hy378]; exact H) | exact H
                have Ny378 := Aside0.mk hy378
                clear hy378
                by_cases c40 : y378.length + (rd_L1 l2 x9_1).length < 140737488355328
                · rw [if_pos c40] at H
                  have LMc40 := Aside0.mk c40
                  clear c40
                  obtain ⟨y381, hy381⟩ : ∃ y_ : List Int, y_ = (y378 ++ (rd_L1 l2 x9_1)) := ⟨_, rfl⟩
                  replace H : (if a1_2 = true then ((satchelref02_Sum32.f 0 (rd_L1 l2 x9_1)).bind fun t384 => ((satchelref04_low.f k1 (IntKind.u64.wrap (t384)) 4).bind fun t385 => (if y381.length + t385.length < 140737488355328 then (satchelref04_Lay.l0 k1 l0 l2 (y381 ++ t385) t353 (wrap64 (x9_1 + 1)) a1_0 a1_1 a1_2 a1_3 a1_4) else (none)))) else (satchelref04_Lay.l0 k1 l0 l2 y381 t353 (wrap64 (x9_1 + 1)) a1_0 a1_1 a1_2 a1_3 a1_4)) = some r := by first | (rw [hy381]; with_reducible exact H) | (have H2_ := (Option.bind_some _ _).symm.trans H; rw [hy381]; with_reducible exact H2_) | (have H2_ := (Option.bind_some _ _).symm.trans H; with_reducible exact H2_) | with_reducible exact H | (rw [hy381]; exact H) | exact H
                  have Ny381 := Aside0.mk hy381
                  clear hy381
                  by_cases c41 : a1_2 = true
                  · subst c41
                    have H1 : ((satchelref02_Sum32.f 0 (rd_L1 l2 x9_1)).bind fun t384 => ((satchelref04_low.f k1 (IntKind.u64.wrap (t384)) 4).bind fun t385 => (if y381.length + t385.length < 140737488355328 then (satchelref04_Lay.l0 k1 l0 l2 (y381 ++ t385) t353 (wrap64 (x9_1 + 1)) a1_0 a1_1 true a1_3 a1_4) else (none)))) = some r := by rw [if_pos rfl] at H; exact H
                    clear H
                    have H := H1
                    clear H1
                    replace H := Option.bind_eq_some_iff.mp H
                    obtain ⟨t384, A420, H⟩ := H
                    replace H : ((satchelref04_low.f k1 (IntKind.u64.wrap (t384)) 4).bind fun t385 => (if y381.length + t385.length < 140737488355328 then (satchelref04_Lay.l0 k1 l0 l2 (y381 ++ t385) t353 (wrap64 (x9_1 + 1)) a1_0 a1_1 true a1_3 a1_4) else (none))) = some r := H
                    have A42 := Aside0.mk A420
                    clear A420
                    replace H := Option.bind_eq_some_iff.mp H
                    obtain ⟨t385, A430, H⟩ := H
                    replace H : (if y381.length + t385.length < 140737488355328 then (satchelref04_Lay.l0 k1 l0 l2 (y381 ++ t385) t353 (wrap64 (x9_1 + 1)) a1_0 a1_1 true a1_3 a1_4) else (none)) = some r := H
                    have A43 := Aside0.mk A430
                    clear A430
                    by_cases c44 : y381.length + t385.length < 140737488355328
                    · rw [if_pos c44] at H
                      have LMc44 := Aside0.mk c44
                      clear c44
                      obtain ⟨y388, hy388⟩ : ∃ y_ : List Int, y_ = (y381 ++ t385) := ⟨_, rfl⟩
                      replace H : (satchelref04_Lay.l0 k1 l0 l2 y388 t353 (wrap64 (x9_1 + 1)) a1_0 a1_1 true a1_3 a1_4) = some r := by first | (rw [hy388]; with_reducible exact H) | (have H2_ := (Option.bind_some _ _).symm.trans H; rw [hy388]; with_reducible exact H2_) | (have H2_ := (Option.bind_some _ _).symm.trans H; with_reducible exact H2_) | with_reducible exact H | (rw [hy388]; exact H) | exact H
                      have Ny388 := Aside0.mk hy388
                      clear hy388
                      have H' := Aside0.mk H
                      clear H
                      obtain ⟨Ao45, co45, eo45⟩ := Kd.N_slice HO_8.out
                      subst eo45
                      have p356 : 0 ≤ (x9_1 : Int) := of_decide_eq_true (by first | (with_reducible assumption) | assumption)
                      have q356 : x9_1 < (l2.length : Int) := of_decide_eq_true (by first | (with_reducible assumption) | assumption)
                      obtain ⟨ad356, A356_0, c356_0, e356, hx356_0, hl356_0, hi356_0⟩ := at_L1 HR2.out x9_1 p356 q356
                      cases e356
                      replace hx356_0 := (HB.out.cell (World.block_lt_of_cell? w _ hx356_0)).trans hx356_0
                      have HR356_0 := Aside0.mk hi356_0
                      have HC356_0 := Aside0.mk hl356_0
                      clear hi356_0 hl356_0
                      replace p356 := eq_true p356
                      replace q356 := eq_true q356
                      have p357 : 0 ≤ (x9_1 : Int) := of_decide_eq_true (by first | (with_reducible assumption) | assumption)
                      have q357 : x9_1 < (t353.length : Int) := of_decide_eq_true (by first | (with_reducible assumption) | assumption)
                      obtain ⟨ad357, A357_0, c357_0, e357, hx357_0, hl357_0, hi357_0⟩ := at_L1 (Kd.N_reads' HO_8.out).2.2 x9_1 p357 q357
                      cases e357
                      obtain ⟨ce357, hce357, hMe357, hcc357⟩ := Kd.N_get HO_8.out [] x9_1 p357 (by first | exact q357 | exact of_decide_eq_true (by first | (with_reducible assumption) | assumption) | (have e_ := (Kd.N_reads' HO_8.out).1; omega))
                      obtain ⟨ua357_0, uc357_0, rfl, ul357_0, ge357_0⟩ := Kd.FK_slice_open hMe357
                      have hv357_0 := hcc357 0 _ rfl
                      rw [Nat.add_zero, show ((Kd.slice 5 (Kd.int .u8))).sz = 1 from rfl, Nat.mul_one] at hv357_0
                      replace hv357_0 := Option.some.inj (hv357_0.symm.trans hx357_0)
                      injection hv357_0 with hva_ hvn_ hvc_
                      rw [hva_] at ge357_0
                      rw [hvc_] at ul357_0
                      have HL357_0 := Aside0.mk (show Kd.V (Kd.int .u8) 5 _ w.heap.size _ _ (rd_L1 t353 x9_1) from Kd.V_mk ul357_0 ge357_0)
                      clear hva_ hvn_ hvc_ ge357_0 ul357_0
                      clear hcc357 hce357
                      have HR357_0 := Aside0.mk hi357_0
                      have HC357_0 := Aside0.mk hl357_0
                      clear hi357_0 hl357_0
                      replace p357 := eq_true p357
                      replace q357 := eq_true q357
                      go_wp2_with (first | ((with_reducible refine gate_callee (f := 84) rfl ?_); refine goesL_ (some 47) rfl rfl Try.func84 (by kernel_rfl) rfl #[.int .u64 (IntKind.u64.wrap ((IntKind.u64.wrap (((rd_L1 l2 x9_1).length : Int))) + 0)), .int .i64 4] rfl (by (try simp only [List.map_toArray, List.map_cons, List.map_nil]); first | done | rfl | (simp only [List.length_drop, List.length_take]; rfl)) ?_; (with_reducible refine (satchelref04_low.calls k1 (IntKind.u64.wrap ((IntKind.u64.wrap (((rd_L1 l2 x9_1).length : Int))) + 0)) 4 t375 _ A38.out).mono ?_); rintro e w46 ⟨v376, rfl, ho0, hb⟩; refine ⟨_, rfl, ?_⟩; have n0_ := Aside0.mk (Kd.R_elder' (by (with_reducible repeat (first | apply Kd.R_alloc | apply Kd.R_drewN | apply Kd.R_drew)); exact HO_7.out) (Kd.R_base ho0) hb); have n1_ := Aside0.mk (Kd.N_elder' (by (with_reducible repeat (first | apply Kd.N_alloc | apply Kd.N_drewN | apply Kd.N_drew)); exact HO_8.out) (Kd.R_base ho0) hb); have n2_ := Aside0.mk (Kd.V_elder' (by (with_reducible repeat (first | apply Kd.V_alloc | apply Kd.V_drewN | apply Kd.V_drew)); exact HL357_0.out) (Kd.R_base ho0) hb); have n3_ := Aside0.mk (Kd.R_lower (Kd.R_new' ho0 (Kd.R_lt (by (with_reducible repeat (first | apply Kd.R_alloc | apply Kd.R_drewN | apply Kd.R_drew)); exact HO_7.out))) (below_size (by repeat (first | (with_reducible first | exact HB.out | apply below_alloc | apply pw_below_drewN | apply below_drew1 | refine below_set ?_ GE349.out) | exact HB.out)))); have n4_ := Aside0.mk (blk_below (g := gb349) (o := .cells #[.int .i64 a1_0, .bool a1_1, .bool true, .bool a1_3, .bool a1_4] 31 (0, 0)) (by (with_reducible repeat (first | refine blk_drewN ?_ _ | refine blk_drew ?_ | refine blk_alloc ?_ _)); exact BK349.out) hb); have n5_ := Aside0.mk (Kd.C_below (by repeat (first | (with_reducible exact HR357_0.out) | (with_reducible refine Kd.C_alloc ?_ _) | (with_reducible refine Kd.C_drewN ?_ _) | (with_reducible refine Kd.C_drew ?_) | exact HR357_0.out)) hb); have n6_ := Aside0.mk (below_step (by repeat (first | (with_reducible first | exact HB.out | apply below_alloc | apply pw_below_drewN | apply below_drew1 | refine below_set ?_ GE349.out) | exact HB.out)) hb); clear HO_7; clear HO_8; clear HL357_0; clear BK349; clear HR357_0; clear HB; have HO_7 := n0_; have HO_8 := n1_; have HL357_0 := n2_; have HO377 := n3_; have BK349 := n4_; have HR357_0 := n5_; have HB := n6_; clear n0_ n1_ n2_ n3_ n4_ n5_ n6_; (try clear hb); (try clear hb2); (try clear hk); (try clear hi); (try clear ho0); obtain ⟨Ao48, co48, eo48⟩ := Kd.R_slice HO377.out; subst eo48) | ((with_reducible refine gate_builtin (b := .append) (xs := #[.tmp 41, .tmp 47]) rfl ?_); at_builtin; refine Kd.R_append_rows (Kd.int .u8) (w0 := w) w.heap.size rfl (.tmp 41) (.tmp 47) 22 5 (.int .u8 0) 1 rfl Try.underlying22 info5 rfl (by decide) (by omega) u7 x7_1 t375 _ _ _ (fun k_ => some k_ ≠ (.slice Ao48 t375.length co48 : Value).ownBlock) (fun _ => False) rfl rfl ?aO ?aR (fun _ _ h => h) (fun _ h => h.elim) ?aF ?aB ?aS ?aL ?_; (case aR => repeat (first | exact (Kd.R_reads' HO377.out).2.2 | (with_reducible refine Kd.C_alloc ?_ _) | (with_reducible refine Kd.C_drewN ?_ _) | (with_reducible refine Kd.C_drew ?_))); (case aB => exact (by repeat (first | (with_reducible first | exact HB.out | apply below_alloc | apply pw_below_drewN | apply below_drew1 | refine below_set ?_ GE349.out) | exact HB.out))); (case aF => exact (fun k_ hk => Kd.fresh' (Kd.R_lt (by (with_reducible repeat (first | apply Kd.R_alloc | apply Kd.R_drewN | apply Kd.R_drew)); exact HO377.out)) k_ hk)); (case aO => exact (by (with_reducible repeat (first | apply Kd.R_alloc | apply Kd.R_drewN | apply Kd.R_drew)); exact Kd.R_mono HO_7.out (fun _ hk => hk.2))); (case aS => exact (below_size (by repeat (first | (with_reducible first | exact HB.out | apply below_alloc | apply pw_below_drewN | apply below_drew1 | refine below_set ?_ GE349.out) | exact HB.out)))); (case aL => have := LMc39.out; omega); intro v379 w47 ho hb hg hat; rw [← Ny378.out] at ho; have n0_ := Aside0.mk (Kd.N_afterv (ok := (fun k_ => some k_ ≠ (.slice Ao48 t375.length co48 : Value).ownBlock ∧ k_ ≠ gb349)) (by (with_reducible repeat (first | apply Kd.N_alloc | apply Kd.N_drewN | apply Kd.N_drew)); exact Kd.N_mono HO_8.out (fun _ hk => ⟨⟨hk.2, hk.1.2⟩, hk.1.1⟩)) hg hat); have n1_ := Aside0.mk (blk_grown (g := gb349) (o := .cells #[.int .i64 a1_0, .bool a1_1, .bool true, .bool a1_3, .bool a1_4] 31 (0, 0)) (by (with_reducible repeat (first | refine blk_drewN ?_ _ | refine blk_drew ?_ | refine blk_alloc ?_ _)); exact BK349.out) hg (Kd.R_ne HO_7.out BK349.out (by decide))); have n2_ := Aside0.mk (Kd.V_afterv (ok := (fun k_ => some k_ ≠ (.slice (some ad357) t353.length co45 : Value).ownBlock ∧ some k_ ≠ (.slice Ao48 t375.length co48 : Value).ownBlock ∧ k_ ≠ gb349)) (by (with_reducible repeat (first | apply Kd.V_alloc | apply Kd.V_drewN | apply Kd.V_drew)); exact Kd.V_mono HL357_0.out (fun _ hk => ⟨⟨hk.1.2, ⟨hk.2, hk.1.1.2⟩⟩, hk.1.1.1⟩)) hg hat); have n3_ := Aside0.mk (Kd.R_after (ok := (fun _ => True)) (by (with_reducible repeat (first | apply Kd.R_alloc | apply Kd.R_drewN | apply Kd.R_drew)); exact HO377.out) hg hat); have n4_ := Aside0.mk (hb); have n5_ := Aside0.mk (ho); clear HO_8; clear BK349; clear HL357_0; clear HO377; clear HB; clear HO_7; have HO_8 := n0_; have BK349 := n1_; have HL357_0 := n2_; have HO377 := n3_; have HB := n4_; have HO380 := n5_; clear n0_ n1_ n2_ n3_ n4_ n5_; clear ho hb hg hat) | ((with_reducible refine gate_builtin (b := .append) (xs := #[.tmp 49, .tmp 50]) rfl ?_); at_builtin; refine Kd.R_append_rows (Kd.int .u8) (w0 := w) w.heap.size rfl (.tmp 49) (.tmp 50) 22 5 (.int .u8 0) 1 rfl Try.underlying22 info5 rfl (by decide) (by omega) v379 y378 (rd_L1 l2 x9_1) _ _ _ (fun k_ => some k_ ≠ (.slice Ao48 t375.length co48 : Value).ownBlock) (fun _ => False) rfl rfl ?aO ?aR (fun _ _ h => h) (fun _ h => h.elim) ?aF ?aB ?aS ?aL ?_; (case aR => repeat (first | exact (Kd.C_below HR356_0.out HB.out) | (with_reducible refine Kd.C_alloc ?_ _) | (with_reducible refine Kd.C_drewN ?_ _) | (with_reducible refine Kd.C_drew ?_))); (case aB => exact (by repeat (first | (with_reducible first | exact HB.out | apply below_alloc | apply pw_below_drewN | apply below_drew1 | refine below_set ?_ GE349.out) | exact HB.out))); (case aF => exact (fun k_ hk => Kd.fresh' (Kd.R_lt (by (with_reducible repeat (first | apply Kd.R_alloc | apply Kd.R_drewN | apply Kd.R_drew)); exact HO377.out)) k_ hk)); (case aO => exact (by (with_reducible repeat (first | apply Kd.R_alloc | apply Kd.R_drewN | apply Kd.R_drew)); exact HO380.out)); (case aS => exact (below_size (by repeat (first | (with_reducible first | exact HB.out | apply below_alloc | apply pw_below_drewN | apply below_drew1 | refine below_set ?_ GE349.out) | exact HB.out)))); (case aL => have := LMc40.out; omega); intro v382 w49 ho hb hg hat; rw [← Ny381.out] at ho; have n0_ := Aside0.mk (Kd.N_afterv (ok := (fun k_ => some k_ ≠ (.slice Ao48 t375.length co48 : Value).ownBlock ∧ k_ ≠ gb349)) (by (with_reducible repeat (first | apply Kd.N_alloc | apply Kd.N_drewN | apply Kd.N_drew)); exact HO_8.out) hg hat); have n1_ := Aside0.mk (blk_grown (g := gb349) (o := .cells #[.int .i64 a1_0, .bool a1_1, .bool true, .bool a1_3, .bool a1_4] 31 (0, 0)) (by (with_reducible repeat (first | refine blk_drewN ?_ _ | refine blk_drew ?_ | refine blk_alloc ?_ _)); exact BK349.out) hg (Kd.R_ne HO380.out BK349.out (by decide))); have n2_ := Aside0.mk (Kd.V_afterv (ok := (fun k_ => some k_ ≠ (.slice (some ad357) t353.length co45 : Value).ownBlock ∧ some k_ ≠ (.slice Ao48 t375.length co48 : Value).ownBlock ∧ k_ ≠ gb349)) (by (with_reducible repeat (first | apply Kd.V_alloc | apply Kd.V_drewN | apply Kd.V_drew)); exact HL357_0.out) hg hat); have n3_ := Aside0.mk (Kd.R_after (ok := (fun _ => True)) (by (with_reducible repeat (first | apply Kd.R_alloc | apply Kd.R_drewN | apply Kd.R_drew)); exact HO377.out) hg hat); have n4_ := Aside0.mk (hb); have n5_ := Aside0.mk (ho); clear HO_8; clear BK349; clear HL357_0; clear HO377; clear HB; clear HO380; have HO_8 := n0_; have BK349 := n1_; have HL357_0 := n2_; have HO377 := n3_; have HB := n4_; have HO383 := n5_; clear n0_ n1_ n2_ n3_ n4_ n5_; clear ho hb hg hat; have hcz50_0 : w49.cell? ⟨gb349, 0, none⟩ = some (.int .i64 a1_0) := (blk_cell BK349.out 0).trans rfl; have hcz50_1 : w49.cell? ⟨gb349, 1, none⟩ = some (.bool a1_1) := (blk_cell BK349.out 1).trans rfl; have hcz50_2 : w49.cell? ⟨gb349, 2, none⟩ = some (.bool true) := (blk_cell BK349.out 2).trans rfl; have hcz50_3 : w49.cell? ⟨gb349, 3, none⟩ = some (.bool a1_3) := (blk_cell BK349.out 3).trans rfl; have hcz50_4 : w49.cell? ⟨gb349, 4, none⟩ = some (.bool a1_4) := (blk_cell BK349.out 4).trans rfl; have hfz50_0 := blk_frozen BK349.out 0; have hfz50_1 := blk_frozen BK349.out 1; have hfz50_2 := blk_frozen BK349.out 2; have hfz50_3 := blk_frozen BK349.out 3; have hfz50_4 := blk_frozen BK349.out 4) | ((with_reducible refine gate_callee (f := 102) rfl ?_); refine goesL_ (some 56) rfl rfl Try.func102 (by kernel_rfl) rfl #[.int .u32 0, .slice A356_0 (rd_L1 l2 x9_1).length c356_0] rfl (by (try simp only [List.map_toArray, List.map_cons, List.map_nil]); first | done | rfl | (simp only [List.length_drop, List.length_take]; rfl)) ?_; (with_reducible refine (satchelref02_Sum32.calls 0 _ _ (rd_L1 l2 x9_1) t384 _ ?side1 ?side2 A42.out).mono ?_); (case side1 => repeat (first | exact (Kd.C_below HR356_0.out HB.out) | (with_reducible refine Kd.C_alloc ?_ _) | (with_reducible refine Kd.C_drewN ?_ _) | (with_reducible refine Kd.C_drew ?_))); (case side2 => exact HC356_0.out); rintro e w51 ⟨rfl, hb⟩; refine ⟨_, rfl, ?_⟩; have n0_ := Aside0.mk (Kd.N_below (by (with_reducible repeat (first | apply Kd.N_alloc | apply Kd.N_drewN | apply Kd.N_drew)); exact HO_8.out) hb); have n1_ := Aside0.mk (Kd.V_below (by (with_reducible repeat (first | apply Kd.V_alloc | apply Kd.V_drewN | apply Kd.V_drew)); exact HL357_0.out) hb); have n2_ := Aside0.mk (Kd.R_below (by (with_reducible repeat (first | apply Kd.R_alloc | apply Kd.R_drewN | apply Kd.R_drew)); exact HO377.out) hb); have n3_ := Aside0.mk (Kd.R_below (by (with_reducible repeat (first | apply Kd.R_alloc | apply Kd.R_drewN | apply Kd.R_drew)); exact HO383.out) hb); have n4_ := Aside0.mk (blk_below (g := gb349) (o := .cells #[.int .i64 a1_0, .bool a1_1, .bool true, .bool a1_3, .bool a1_4] 31 (0, 0)) (by (with_reducible repeat (first | refine blk_drewN ?_ _ | refine blk_drew ?_ | refine blk_alloc ?_ _)); exact BK349.out) hb); have n5_ := Aside0.mk (below_step (by repeat (first | (with_reducible first | exact HB.out | apply below_alloc | apply pw_below_drewN | apply below_drew1 | refine below_set ?_ GE349.out) | exact HB.out)) hb); clear HO_8; clear HL357_0; clear HO377; clear HO383; clear BK349; clear HB; have HO_8 := n0_; have HL357_0 := n1_; have HO377 := n2_; have HO383 := n3_; have BK349 := n4_; have HB := n5_; clear n0_ n1_ n2_ n3_ n4_ n5_; (try clear hb); (try clear hb2); (try clear hk); (try clear hi)) | ((with_reducible refine gate_callee (f := 84) rfl ?_); refine goesL_ (some 58) rfl rfl Try.func84 (by kernel_rfl) rfl #[.int .u64 (IntKind.u64.wrap (t384)), .int .i64 4] rfl (by (try simp only [List.map_toArray, List.map_cons, List.map_nil]); first | done | rfl | (simp only [List.length_drop, List.length_take]; rfl)) ?_; (with_reducible refine (satchelref04_low.calls k1 (IntKind.u64.wrap (t384)) 4 t385 _ A43.out).mono ?_); rintro e w52 ⟨v386, rfl, ho0, hb⟩; refine ⟨_, rfl, ?_⟩; have n0_ := Aside0.mk (Kd.N_elder' (by (with_reducible repeat (first | apply Kd.N_alloc | apply Kd.N_drewN | apply Kd.N_drew)); exact HO_8.out) (Kd.R_base ho0) hb); have n1_ := Aside0.mk (Kd.V_elder' (by (with_reducible repeat (first | apply Kd.V_alloc | apply Kd.V_drewN | apply Kd.V_drew)); exact HL357_0.out) (Kd.R_base ho0) hb); have n2_ := Aside0.mk (Kd.R_elder' (by (with_reducible repeat (first | apply Kd.R_alloc | apply Kd.R_drewN | apply Kd.R_drew)); exact HO377.out) (Kd.R_base ho0) hb); have n3_ := Aside0.mk (Kd.R_elder' (by (with_reducible repeat (first | apply Kd.R_alloc | apply Kd.R_drewN | apply Kd.R_drew)); exact HO383.out) (Kd.R_base ho0) hb); have n4_ := Aside0.mk (Kd.R_lower (Kd.R_new' (Kd.R_new' ho0 (Kd.R_lt (by (with_reducible repeat (first | apply Kd.R_alloc | apply Kd.R_drewN | apply Kd.R_drew)); exact HO377.out))) (Kd.R_lt (by (with_reducible repeat (first | apply Kd.R_alloc | apply Kd.R_drewN | apply Kd.R_drew)); exact HO383.out))) (below_size (by repeat (first | (with_reducible first | exact HB.out | apply below_alloc | apply pw_below_drewN | apply below_drew1 | refine below_set ?_ GE349.out) | exact HB.out)))); have n5_ := Aside0.mk (blk_below (g := gb349) (o := .cells #[.int .i64 a1_0, .bool a1_1, .bool true, .bool a1_3, .bool a1_4] 31 (0, 0)) (by (with_reducible repeat (first | refine blk_drewN ?_ _ | refine blk_drew ?_ | refine blk_alloc ?_ _)); exact BK349.out) hb); have n6_ := Aside0.mk (below_step (by repeat (first | (with_reducible first | exact HB.out | apply below_alloc | apply pw_below_drewN | apply below_drew1 | refine below_set ?_ GE349.out) | exact HB.out)) hb); clear HO_8; clear HL357_0; clear HO377; clear HO383; clear BK349; clear HB; have HO_8 := n0_; have HL357_0 := n1_; have HO377 := n2_; have HO383 := n3_; have HO387 := n4_; have BK349 := n5_; have HB := n6_; clear n0_ n1_ n2_ n3_ n4_ n5_ n6_; (try clear hb); (try clear hb2); (try clear hk); (try clear hi); (try clear ho0); obtain ⟨Ao54, co54, eo54⟩ := Kd.R_slice HO387.out; subst eo54) | ((with_reducible refine gate_builtin (b := .append) (xs := #[.tmp 54, .tmp 58]) rfl ?_); at_builtin; refine Kd.R_append_rows (Kd.int .u8) (w0 := w) w.heap.size rfl (.tmp 54) (.tmp 58) 22 5 (.int .u8 0) 1 rfl Try.underlying22 info5 rfl (by decide) (by omega) v382 y381 t385 _ _ _ (fun k_ => some k_ ≠ (.slice Ao48 t375.length co48 : Value).ownBlock ∧ some k_ ≠ (.slice Ao54 t385.length co54 : Value).ownBlock) (fun _ => False) rfl rfl ?aO ?aR (fun _ _ h => h) (fun _ h => h.elim) ?aF ?aB ?aS ?aL ?_; (case aR => repeat (first | exact (Kd.R_reads' HO387.out).2.2 | (with_reducible refine Kd.C_alloc ?_ _) | (with_reducible refine Kd.C_drewN ?_ _) | (with_reducible refine Kd.C_drew ?_))); (case aB => exact (by repeat (first | (with_reducible first | exact HB.out | apply below_alloc | apply pw_below_drewN | apply below_drew1 | refine below_set ?_ GE349.out) | exact HB.out))); (case aF => exact (fun k_ hk => ⟨Kd.fresh' (Kd.R_lt (by (with_reducible repeat (first | apply Kd.R_alloc | apply Kd.R_drewN | apply Kd.R_drew)); exact HO377.out)) k_ hk, Kd.fresh' (Kd.R_lt (by (with_reducible repeat (first | apply Kd.R_alloc | apply Kd.R_drewN | apply Kd.R_drew)); exact HO387.out)) k_ hk⟩)); (case aO => exact (by (with_reducible repeat (first | apply Kd.R_alloc | apply Kd.R_drewN | apply Kd.R_drew)); exact HO383.out)); (case aS => exact (below_size (by repeat (first | (with_reducible first | exact HB.out | apply below_alloc | apply pw_below_drewN | apply below_drew1 | refine below_set ?_ GE349.out) | exact HB.out)))); (case aL => have := LMc44.out; omega); intro v389 w53 ho hb hg hat; rw [← Ny388.out] at ho; have n0_ := Aside0.mk (Kd.N_afterv (ok := (fun k_ => some k_ ≠ (.slice Ao48 t375.length co48 : Value).ownBlock ∧ some k_ ≠ (.slice Ao54 t385.length co54 : Value).ownBlock ∧ k_ ≠ gb349)) (by (with_reducible repeat (first | apply Kd.N_alloc | apply Kd.N_drewN | apply Kd.N_drew)); exact Kd.N_mono HO_8.out (fun _ hk => ⟨⟨hk.1.1.1, ⟨hk.2, hk.1.1.2⟩⟩, hk.1.2⟩)) hg hat); have n1_ := Aside0.mk (blk_grown (g := gb349) (o := .cells #[.int .i64 a1_0, .bool a1_1, .bool true, .bool a1_3, .bool a1_4] 31 (0, 0)) (by (with_reducible repeat (first | refine blk_drewN ?_ _ | refine blk_drew ?_ | refine blk_alloc ?_ _)); exact BK349.out) hg (Kd.R_ne HO383.out BK349.out (by decide))); have n2_ := Aside0.mk (Kd.V_afterv (ok := (fun k_ => some k_ ≠ (.slice (some ad357) t353.length co45 : Value).ownBlock ∧ some k_ ≠ (.slice Ao48 t375.length co48 : Value).ownBlock ∧ some k_ ≠ (.slice Ao54 t385.length co54 : Value).ownBlock ∧ k_ ≠ gb349)) (by (with_reducible repeat (first | apply Kd.V_alloc | apply Kd.V_drewN | apply Kd.V_drew)); exact Kd.V_mono HL357_0.out (fun _ hk => ⟨⟨hk.1.1.1, ⟨hk.1.1.2.1, ⟨hk.2, hk.1.1.2.2⟩⟩⟩, hk.1.2⟩)) hg hat); have n3_ := Aside0.mk (Kd.R_after (ok := (fun k_ => some k_ ≠ (.slice Ao54 t385.length co54 : Value).ownBlock)) (by (with_reducible repeat (first | apply Kd.R_alloc | apply Kd.R_drewN | apply Kd.R_drew)); exact Kd.R_mono HO377.out (fun _ hk => ⟨hk.2, hk.1.2⟩)) hg hat); have n4_ := Aside0.mk (Kd.R_after (ok := (fun k_ => some k_ ≠ (.slice Ao48 t375.length co48 : Value).ownBlock)) (by (with_reducible repeat (first | apply Kd.R_alloc | apply Kd.R_drewN | apply Kd.R_drew)); exact Kd.R_mono HO387.out (fun _ hk => ⟨hk.1.2, hk.2⟩)) hg hat); have n5_ := Aside0.mk (hb); have n6_ := Aside0.mk (ho); clear HO_8; clear BK349; clear HL357_0; clear HO377; clear HO387; clear HB; clear HO383; have HO_8 := n0_; have BK349 := n1_; have HL357_0 := n2_; have HO377 := n3_; have HO387 := n4_; have HB := n5_; have HO390 := n6_; clear n0_ n1_ n2_ n3_ n4_ n5_ n6_; clear ho hb hg hat))
                      go_roundg k1
                      case measure => have := HK1.out; omega
                      case rel => exact ⟨(y388), (wrap64 (x9_1 + 1)), (by first | rfl | (simp; done) | (simp [*]; done)), H', ⟨by have := HK1.out; omega⟩, ⟨by (with_reducible repeat (first | apply Kd.R_alloc | apply Kd.R_drewN | apply Kd.R_drew)); exact Kd.R_mono HO390.out (fun _ hk => trivial)⟩, ⟨by (with_reducible repeat (first | apply Kd.N_alloc | apply Kd.N_drewN | apply Kd.N_drew)); exact Kd.N_mono HO_8.out (fun _ hk => ⟨hk.2, hk.1.2.2⟩)⟩, ⟨by (with_reducible repeat (first | refine blk_drewN ?_ _ | refine blk_drew ?_ | refine blk_alloc ?_ _)); exact BK349.out⟩, ⟨by repeat (first | (with_reducible first | exact HB.out | apply below_alloc | apply pw_below_drewN | apply below_drew1 | refine below_set ?_ GE349.out) | exact HB.out)⟩⟩
                    · rw [if_neg c44] at H
                      exact absurd H (by simp)
                  · replace c41 := Bool.eq_false_iff.mpr c41
                    subst c41
                    have H1 : (satchelref04_Lay.l0 k1 l0 l2 y381 t353 (wrap64 (x9_1 + 1)) a1_0 a1_1 false a1_3 a1_4) = some r := by rw [if_neg (show ¬ (false = true) by decide)] at H; exact H
                    clear H
                    have H := H1
                    clear H1
                    have H' := Aside0.mk H
                    clear H
                    obtain ⟨Ao55, co55, eo55⟩ := Kd.N_slice HO_8.out
                    subst eo55
                    have p356 : 0 ≤ (x9_1 : Int) := of_decide_eq_true (by first | (with_reducible assumption) | assumption)
                    have q356 : x9_1 < (l2.length : Int) := of_decide_eq_true (by first | (with_reducible assumption) | assumption)
                    obtain ⟨ad356, A356_0, c356_0, e356, hx356_0, hl356_0, hi356_0⟩ := at_L1 HR2.out x9_1 p356 q356
                    cases e356
                    replace hx356_0 := (HB.out.cell (World.block_lt_of_cell? w _ hx356_0)).trans hx356_0
                    have HR356_0 := Aside0.mk hi356_0
                    have HC356_0 := Aside0.mk hl356_0
                    clear hi356_0 hl356_0
                    replace p356 := eq_true p356
                    replace q356 := eq_true q356
                    have p357 : 0 ≤ (x9_1 : Int) := of_decide_eq_true (by first | (with_reducible assumption) | assumption)
                    have q357 : x9_1 < (t353.length : Int) := of_decide_eq_true (by first | (with_reducible assumption) | assumption)
                    obtain ⟨ad357, A357_0, c357_0, e357, hx357_0, hl357_0, hi357_0⟩ := at_L1 (Kd.N_reads' HO_8.out).2.2 x9_1 p357 q357
                    cases e357
                    obtain ⟨ce357, hce357, hMe357, hcc357⟩ := Kd.N_get HO_8.out [] x9_1 p357 (by first | exact q357 | exact of_decide_eq_true (by first | (with_reducible assumption) | assumption) | (have e_ := (Kd.N_reads' HO_8.out).1; omega))
                    obtain ⟨ua357_0, uc357_0, rfl, ul357_0, ge357_0⟩ := Kd.FK_slice_open hMe357
                    have hv357_0 := hcc357 0 _ rfl
                    rw [Nat.add_zero, show ((Kd.slice 5 (Kd.int .u8))).sz = 1 from rfl, Nat.mul_one] at hv357_0
                    replace hv357_0 := Option.some.inj (hv357_0.symm.trans hx357_0)
                    injection hv357_0 with hva_ hvn_ hvc_
                    rw [hva_] at ge357_0
                    rw [hvc_] at ul357_0
                    have HL357_0 := Aside0.mk (show Kd.V (Kd.int .u8) 5 _ w.heap.size _ _ (rd_L1 t353 x9_1) from Kd.V_mk ul357_0 ge357_0)
                    clear hva_ hvn_ hvc_ ge357_0 ul357_0
                    clear hcc357 hce357
                    have HR357_0 := Aside0.mk hi357_0
                    have HC357_0 := Aside0.mk hl357_0
                    clear hi357_0 hl357_0
                    replace p357 := eq_true p357
                    replace q357 := eq_true q357
                    go_wp2_with (first | ((with_reducible refine gate_callee (f := 84) rfl ?_); refine goesL_ (some 47) rfl rfl Try.func84 (by kernel_rfl) rfl #[.int .u64 (IntKind.u64.wrap ((IntKind.u64.wrap (((rd_L1 l2 x9_1).length : Int))) + 0)), .int .i64 4] rfl (by (try simp only [List.map_toArray, List.map_cons, List.map_nil]); first | done | rfl | (simp only [List.length_drop, List.length_take]; rfl)) ?_; (with_reducible refine (satchelref04_low.calls k1 (IntKind.u64.wrap ((IntKind.u64.wrap (((rd_L1 l2 x9_1).length : Int))) + 0)) 4 t375 _ A38.out).mono ?_); rintro e w56 ⟨v376, rfl, ho0, hb⟩; refine ⟨_, rfl, ?_⟩; have n0_ := Aside0.mk (Kd.R_elder' (by (with_reducible repeat (first | apply Kd.R_alloc | apply Kd.R_drewN | apply Kd.R_drew)); exact HO_7.out) (Kd.R_base ho0) hb); have n1_ := Aside0.mk (Kd.N_elder' (by (with_reducible repeat (first | apply Kd.N_alloc | apply Kd.N_drewN | apply Kd.N_drew)); exact HO_8.out) (Kd.R_base ho0) hb); have n2_ := Aside0.mk (Kd.V_elder' (by (with_reducible repeat (first | apply Kd.V_alloc | apply Kd.V_drewN | apply Kd.V_drew)); exact HL357_0.out) (Kd.R_base ho0) hb); have n3_ := Aside0.mk (Kd.R_lower (Kd.R_new' ho0 (Kd.R_lt (by (with_reducible repeat (first | apply Kd.R_alloc | apply Kd.R_drewN | apply Kd.R_drew)); exact HO_7.out))) (below_size (by repeat (first | (with_reducible first | exact HB.out | apply below_alloc | apply pw_below_drewN | apply below_drew1 | refine below_set ?_ GE349.out) | exact HB.out)))); have n4_ := Aside0.mk (blk_below (g := gb349) (o := .cells #[.int .i64 a1_0, .bool a1_1, .bool false, .bool a1_3, .bool a1_4] 31 (0, 0)) (by (with_reducible repeat (first | refine blk_drewN ?_ _ | refine blk_drew ?_ | refine blk_alloc ?_ _)); exact BK349.out) hb); have n5_ := Aside0.mk (Kd.C_below (by repeat (first | (with_reducible exact HR357_0.out) | (with_reducible refine Kd.C_alloc ?_ _) | (with_reducible refine Kd.C_drewN ?_ _) | (with_reducible refine Kd.C_drew ?_) | exact HR357_0.out)) hb); have n6_ := Aside0.mk (below_step (by repeat (first | (with_reducible first | exact HB.out | apply below_alloc | apply pw_below_drewN | apply below_drew1 | refine below_set ?_ GE349.out) | exact HB.out)) hb); clear HO_7; clear HO_8; clear HL357_0; clear BK349; clear HR357_0; clear HB; have HO_7 := n0_; have HO_8 := n1_; have HL357_0 := n2_; have HO377 := n3_; have BK349 := n4_; have HR357_0 := n5_; have HB := n6_; clear n0_ n1_ n2_ n3_ n4_ n5_ n6_; (try clear hb); (try clear hb2); (try clear hk); (try clear hi); (try clear ho0); obtain ⟨Ao58, co58, eo58⟩ := Kd.R_slice HO377.out; subst eo58) | ((with_reducible refine gate_builtin (b := .append) (xs := #[.tmp 41, .tmp 47]) rfl ?_); at_builtin; refine Kd.R_append_rows (Kd.int .u8) (w0 := w) w.heap.size rfl (.tmp 41) (.tmp 47) 22 5 (.int .u8 0) 1 rfl Try.underlying22 info5 rfl (by decide) (by omega) u7 x7_1 t375 _ _ _ (fun k_ => some k_ ≠ (.slice Ao58 t375.length co58 : Value).ownBlock) (fun _ => False) rfl rfl ?aO ?aR (fun _ _ h => h) (fun _ h => h.elim) ?aF ?aB ?aS ?aL ?_; (case aR => repeat (first | exact (Kd.R_reads' HO377.out).2.2 | (with_reducible refine Kd.C_alloc ?_ _) | (with_reducible refine Kd.C_drewN ?_ _) | (with_reducible refine Kd.C_drew ?_))); (case aB => exact (by repeat (first | (with_reducible first | exact HB.out | apply below_alloc | apply pw_below_drewN | apply below_drew1 | refine below_set ?_ GE349.out) | exact HB.out))); (case aF => exact (fun k_ hk => Kd.fresh' (Kd.R_lt (by (with_reducible repeat (first | apply Kd.R_alloc | apply Kd.R_drewN | apply Kd.R_drew)); exact HO377.out)) k_ hk)); (case aO => exact (by (with_reducible repeat (first | apply Kd.R_alloc | apply Kd.R_drewN | apply Kd.R_drew)); exact Kd.R_mono HO_7.out (fun _ hk => hk.2))); (case aS => exact (below_size (by repeat (first | (with_reducible first | exact HB.out | apply below_alloc | apply pw_below_drewN | apply below_drew1 | refine below_set ?_ GE349.out) | exact HB.out)))); (case aL => have := LMc39.out; omega); intro v379 w57 ho hb hg hat; rw [← Ny378.out] at ho; have n0_ := Aside0.mk (Kd.N_afterv (ok := (fun k_ => some k_ ≠ (.slice Ao58 t375.length co58 : Value).ownBlock ∧ k_ ≠ gb349)) (by (with_reducible repeat (first | apply Kd.N_alloc | apply Kd.N_drewN | apply Kd.N_drew)); exact Kd.N_mono HO_8.out (fun _ hk => ⟨⟨hk.2, hk.1.2⟩, hk.1.1⟩)) hg hat); have n1_ := Aside0.mk (blk_grown (g := gb349) (o := .cells #[.int .i64 a1_0, .bool a1_1, .bool false, .bool a1_3, .bool a1_4] 31 (0, 0)) (by (with_reducible repeat (first | refine blk_drewN ?_ _ | refine blk_drew ?_ | refine blk_alloc ?_ _)); exact BK349.out) hg (Kd.R_ne HO_7.out BK349.out (by decide))); have n2_ := Aside0.mk (Kd.V_afterv (ok := (fun k_ => some k_ ≠ (.slice (some ad357) t353.length co55 : Value).ownBlock ∧ some k_ ≠ (.slice Ao58 t375.length co58 : Value).ownBlock ∧ k_ ≠ gb349)) (by (with_reducible repeat (first | apply Kd.V_alloc | apply Kd.V_drewN | apply Kd.V_drew)); exact Kd.V_mono HL357_0.out (fun _ hk => ⟨⟨hk.1.2, ⟨hk.2, hk.1.1.2⟩⟩, hk.1.1.1⟩)) hg hat); have n3_ := Aside0.mk (Kd.R_after (ok := (fun _ => True)) (by (with_reducible repeat (first | apply Kd.R_alloc | apply Kd.R_drewN | apply Kd.R_drew)); exact HO377.out) hg hat); have n4_ := Aside0.mk (hb); have n5_ := Aside0.mk (ho); clear HO_8; clear BK349; clear HL357_0; clear HO377; clear HB; clear HO_7; have HO_8 := n0_; have BK349 := n1_; have HL357_0 := n2_; have HO377 := n3_; have HB := n4_; have HO380 := n5_; clear n0_ n1_ n2_ n3_ n4_ n5_; clear ho hb hg hat) | ((with_reducible refine gate_builtin (b := .append) (xs := #[.tmp 49, .tmp 50]) rfl ?_); at_builtin; refine Kd.R_append_rows (Kd.int .u8) (w0 := w) w.heap.size rfl (.tmp 49) (.tmp 50) 22 5 (.int .u8 0) 1 rfl Try.underlying22 info5 rfl (by decide) (by omega) v379 y378 (rd_L1 l2 x9_1) _ _ _ (fun k_ => some k_ ≠ (.slice Ao58 t375.length co58 : Value).ownBlock) (fun _ => False) rfl rfl ?aO ?aR (fun _ _ h => h) (fun _ h => h.elim) ?aF ?aB ?aS ?aL ?_; (case aR => repeat (first | exact (Kd.C_below HR356_0.out HB.out) | (with_reducible refine Kd.C_alloc ?_ _) | (with_reducible refine Kd.C_drewN ?_ _) | (with_reducible refine Kd.C_drew ?_))); (case aB => exact (by repeat (first | (with_reducible first | exact HB.out | apply below_alloc | apply pw_below_drewN | apply below_drew1 | refine below_set ?_ GE349.out) | exact HB.out))); (case aF => exact (fun k_ hk => Kd.fresh' (Kd.R_lt (by (with_reducible repeat (first | apply Kd.R_alloc | apply Kd.R_drewN | apply Kd.R_drew)); exact HO377.out)) k_ hk)); (case aO => exact (by (with_reducible repeat (first | apply Kd.R_alloc | apply Kd.R_drewN | apply Kd.R_drew)); exact HO380.out)); (case aS => exact (below_size (by repeat (first | (with_reducible first | exact HB.out | apply below_alloc | apply pw_below_drewN | apply below_drew1 | refine below_set ?_ GE349.out) | exact HB.out)))); (case aL => have := LMc40.out; omega); intro v382 w59 ho hb hg hat; rw [← Ny381.out] at ho; have n0_ := Aside0.mk (Kd.N_afterv (ok := (fun k_ => some k_ ≠ (.slice Ao58 t375.length co58 : Value).ownBlock ∧ k_ ≠ gb349)) (by (with_reducible repeat (first | apply Kd.N_alloc | apply Kd.N_drewN | apply Kd.N_drew)); exact HO_8.out) hg hat); have n1_ := Aside0.mk (blk_grown (g := gb349) (o := .cells #[.int .i64 a1_0, .bool a1_1, .bool false, .bool a1_3, .bool a1_4] 31 (0, 0)) (by (with_reducible repeat (first | refine blk_drewN ?_ _ | refine blk_drew ?_ | refine blk_alloc ?_ _)); exact BK349.out) hg (Kd.R_ne HO380.out BK349.out (by decide))); have n2_ := Aside0.mk (Kd.V_afterv (ok := (fun k_ => some k_ ≠ (.slice (some ad357) t353.length co55 : Value).ownBlock ∧ some k_ ≠ (.slice Ao58 t375.length co58 : Value).ownBlock ∧ k_ ≠ gb349)) (by (with_reducible repeat (first | apply Kd.V_alloc | apply Kd.V_drewN | apply Kd.V_drew)); exact HL357_0.out) hg hat); have n3_ := Aside0.mk (Kd.R_after (ok := (fun _ => True)) (by (with_reducible repeat (first | apply Kd.R_alloc | apply Kd.R_drewN | apply Kd.R_drew)); exact HO377.out) hg hat); have n4_ := Aside0.mk (hb); have n5_ := Aside0.mk (ho); clear HO_8; clear BK349; clear HL357_0; clear HO377; clear HB; clear HO380; have HO_8 := n0_; have BK349 := n1_; have HL357_0 := n2_; have HO377 := n3_; have HB := n4_; have HO383 := n5_; clear n0_ n1_ n2_ n3_ n4_ n5_; clear ho hb hg hat; have hcz60_0 : w59.cell? ⟨gb349, 0, none⟩ = some (.int .i64 a1_0) := (blk_cell BK349.out 0).trans rfl; have hcz60_1 : w59.cell? ⟨gb349, 1, none⟩ = some (.bool a1_1) := (blk_cell BK349.out 1).trans rfl; have hcz60_2 : w59.cell? ⟨gb349, 2, none⟩ = some (.bool false) := (blk_cell BK349.out 2).trans rfl; have hcz60_3 : w59.cell? ⟨gb349, 3, none⟩ = some (.bool a1_3) := (blk_cell BK349.out 3).trans rfl; have hcz60_4 : w59.cell? ⟨gb349, 4, none⟩ = some (.bool a1_4) := (blk_cell BK349.out 4).trans rfl; have hfz60_0 := blk_frozen BK349.out 0; have hfz60_1 := blk_frozen BK349.out 1; have hfz60_2 := blk_frozen BK349.out 2; have hfz60_3 := blk_frozen BK349.out 3; have hfz60_4 := blk_frozen BK349.out 4))
                    go_roundg k1
                    case measure => have := HK1.out; omega
                    case rel => exact ⟨(y381), (wrap64 (x9_1 + 1)), (by first | rfl | (simp; done) | (simp [*]; done)), H', ⟨by have := HK1.out; omega⟩, ⟨by (with_reducible repeat (first | apply Kd.R_alloc | apply Kd.R_drewN | apply Kd.R_drew)); exact Kd.R_mono HO383.out (fun _ hk => trivial)⟩, ⟨by (with_reducible repeat (first | apply Kd.N_alloc | apply Kd.N_drewN | apply Kd.N_drew)); exact Kd.N_mono HO_8.out (fun _ hk => ⟨hk.2, hk.1.2⟩)⟩, ⟨by (with_reducible repeat (first | refine blk_drewN ?_ _ | refine blk_drew ?_ | refine blk_alloc ?_ _)); exact BK349.out⟩, ⟨by repeat (first | (with_reducible first | exact HB.out | apply below_alloc | apply pw_below_drewN | apply below_drew1 | refine below_set ?_ GE349.out) | exact HB.out)⟩⟩
                · rw [if_neg c40] at H
                  exact absurd H (by simp)
              · rw [if_neg c39] at H
                exact absurd H (by simp)
          · rw [if_neg c13] at H
            exact absurd H (by simp)
        · rw [if_neg c12] at H
          exact absurd H (by simp)
      · rw [if_neg c11] at H
        have c11b0 : decide (x9_1 < (t353.length : Int)) = false := decide_eq_false c11
        clear c11
        obtain ⟨y391, hy391⟩ : ∃ y_ : List Int, y_ = (([0, 0, 0, 0] : List Int)) := ⟨_, rfl⟩
        replace H : (if x7_1.length + y391.length < 140737488355328 then ((some (x7_1 ++ y391 : List Int)).bind fun y394 => (if a1_3 = true then ((satchelref02_Sum32.f 0 l0).bind fun t397 => ((satchelref04_low.f k1 (IntKind.u64.wrap (t397)) 4).bind fun t398 => (if y394.length + t398.length < 140737488355328 then (some (y394 ++ t398)) else (none)))) else (some y394))) else (none)) = some r := by first | (rw [hy391]; with_reducible exact H) | (have H2_ := (Option.bind_some _ _).symm.trans H; rw [hy391]; with_reducible exact H2_) | (have H2_ := (Option.bind_some _ _).symm.trans H; with_reducible exact H2_) | with_reducible exact H | (rw [hy391]; exact H) | exact H
        have Ny391 := Aside0.mk hy391
        clear hy391
        by_cases c61 : x7_1.length + y391.length < 140737488355328
        · rw [if_pos c61] at H
          have LMc61 := Aside0.mk c61
          clear c61
          obtain ⟨y394, hy394⟩ : ∃ y_ : List Int, y_ = (x7_1 ++ y391) := ⟨_, rfl⟩
          replace H : (if a1_3 = true then ((satchelref02_Sum32.f 0 l0).bind fun t397 => ((satchelref04_low.f k1 (IntKind.u64.wrap (t397)) 4).bind fun t398 => (if y394.length + t398.length < 140737488355328 then (some (y394 ++ t398)) else (none)))) else (some y394)) = some r := by first | (rw [hy394]; with_reducible exact H) | (have H2_ := (Option.bind_some _ _).symm.trans H; rw [hy394]; with_reducible exact H2_) | (have H2_ := (Option.bind_some _ _).symm.trans H; with_reducible exact H2_) | with_reducible exact H | (rw [hy394]; exact H) | exact H
          have Ny394 := Aside0.mk hy394
          clear hy394
          by_cases c62 : a1_3 = true
          · subst c62
            have H1 : ((satchelref02_Sum32.f 0 l0).bind fun t397 => ((satchelref04_low.f k1 (IntKind.u64.wrap (t397)) 4).bind fun t398 => (if y394.length + t398.length < 140737488355328 then (some (y394 ++ t398)) else (none)))) = some r := by rw [if_pos rfl] at H; exact H
            clear H
            have H := H1
            clear H1
            replace H := Option.bind_eq_some_iff.mp H
            obtain ⟨t397, A630, H⟩ := H
            replace H : ((satchelref04_low.f k1 (IntKind.u64.wrap (t397)) 4).bind fun t398 => (if y394.length + t398.length < 140737488355328 then (some (y394 ++ t398)) else (none))) = some r := H
            have A63 := Aside0.mk A630
            clear A630
            replace H := Option.bind_eq_some_iff.mp H
            obtain ⟨t398, A640, H⟩ := H
            replace H : (if y394.length + t398.length < 140737488355328 then (some (y394 ++ t398)) else (none)) = some r := H
            have A64 := Aside0.mk A640
            clear A640
            by_cases c65 : y394.length + t398.length < 140737488355328
            · rw [if_pos c65] at H
              have LMc65 := Aside0.mk c65
              clear c65
              obtain ⟨y401, hy401⟩ : ∃ y_ : List Int, y_ = (y394 ++ t398) := ⟨_, rfl⟩
              replace H : (some y401) = some r := by first | (rw [hy401]; with_reducible exact H) | (have H2_ := (Option.bind_some _ _).symm.trans H; rw [hy401]; with_reducible exact H2_) | (have H2_ := (Option.bind_some _ _).symm.trans H; with_reducible exact H2_) | with_reducible exact H | (rw [hy401]; exact H) | exact H
              have Ny401 := Aside0.mk hy401
              clear hy401
              obtain rfl := Option.some.inj H
              obtain ⟨Ao66, co66, eo66⟩ := Kd.N_slice HO_8.out
              subst eo66
              go_wp2_with (first | ((with_reducible refine gate_dst (N := 61) rfl ?_); refine Kd.R_lit (Kd.int .u8) _ 5 ?hg (N := 61) ?hd (xs := ([0, 0, 0, 0] : List Int)) (inner := [.int .u8 0, .int .u8 0, .int .u8 0, .int .u8 0]) (ok := fun _ => True) (okp := fun _ => True) ?hr ?hp (fun _ hk => hk) trivial (Below.refl _ _) (Nat.le_refl _) (by simp) ?_; (case hd => rfl); (case hg => rfl); (case hr => first | (go_simp; done) | (go_simp; rfl)); (case hp => exact (Reps.one (show Kd.M (Kd.int .u8) _ _ _ 0 [.int .u8 0] from rfl) (Reps.one (show Kd.M (Kd.int .u8) _ _ _ 0 [.int .u8 0] from rfl) (Reps.one (show Kd.M (Kd.int .u8) _ _ _ 0 [.int .u8 0] from rfl) (Reps.one (show Kd.M (Kd.int .u8) _ _ _ 0 [.int .u8 0] from rfl) (Reps.none _ _)))))); intro v392 w67 ho68 hb hg_ hnew_; clear hg_ hnew_; (first | rw [← Ny391.out] at ho68 | (simp only [Int.reduceToNat] at ho68; rw [← Ny391.out] at ho68)); have n0_ := Aside0.mk (Kd.R_elder' (by (with_reducible repeat (first | apply Kd.R_alloc | apply Kd.R_drewN | apply Kd.R_drew)); exact HO_7.out) (Kd.R_base ho68) hb); have n1_ := Aside0.mk (Kd.N_elder' (by (with_reducible repeat (first | apply Kd.N_alloc | apply Kd.N_drewN | apply Kd.N_drew)); exact HO_8.out) (Kd.R_base ho68) hb); have n2_ := Aside0.mk (Kd.R_lower (Kd.R_new' ho68 (Kd.R_lt (by (with_reducible repeat (first | apply Kd.R_alloc | apply Kd.R_drewN | apply Kd.R_drew)); exact HO_7.out))) (below_size (by repeat (first | (with_reducible first | exact HB.out | apply below_alloc | apply pw_below_drewN | apply below_drew1 | refine below_set ?_ GE349.out) | exact HB.out)))); have n3_ := Aside0.mk (blk_below (g := gb349) (o := .cells #[.int .i64 a1_0, .bool a1_1, .bool a1_2, .bool true, .bool a1_4] 31 (0, 0)) (by (with_reducible repeat (first | refine blk_drewN ?_ _ | refine blk_drew ?_ | refine blk_alloc ?_ _)); exact BK349.out) hb); have n4_ := Aside0.mk (below_step (by repeat (first | (with_reducible first | exact HB.out | apply below_alloc | apply pw_below_drewN | apply below_drew1 | refine below_set ?_ GE349.out) | exact HB.out)) hb); clear HO_7; clear HO_8; clear BK349; clear HB; have HO_7 := n0_; have HO_8 := n1_; have HO393 := n2_; have BK349 := n3_; have HB := n4_; clear n0_ n1_ n2_ n3_ n4_; clear hb ho68; obtain ⟨Ao70, co70, eo70⟩ := Kd.R_slice HO393.out; subst eo70) | ((with_reducible refine gate_builtin (b := .append) (xs := #[.tmp 60, .tmp 61]) rfl ?_); at_builtin; refine Kd.R_append_rows (Kd.int .u8) (w0 := w) w.heap.size rfl (.tmp 60) (.tmp 61) 22 5 (.int .u8 0) 1 rfl Try.underlying22 info5 rfl (by decide) (by omega) u7 x7_1 y391 _ _ _ (fun k_ => some k_ ≠ (.slice Ao70 y391.length co70 : Value).ownBlock) (fun _ => False) rfl rfl ?aO ?aR (fun _ _ h => h) (fun _ h => h.elim) ?aF ?aB ?aS ?aL ?_; (case aR => repeat (first | exact (Kd.R_reads' HO393.out).2.2 | (with_reducible refine Kd.C_alloc ?_ _) | (with_reducible refine Kd.C_drewN ?_ _) | (with_reducible refine Kd.C_drew ?_))); (case aB => exact (by repeat (first | (with_reducible first | exact HB.out | apply below_alloc | apply pw_below_drewN | apply below_drew1 | refine below_set ?_ GE349.out) | exact HB.out))); (case aF => exact (fun k_ hk => Kd.fresh' (Kd.R_lt (by (with_reducible repeat (first | apply Kd.R_alloc | apply Kd.R_drewN | apply Kd.R_drew)); exact HO393.out)) k_ hk)); (case aO => exact (by (with_reducible repeat (first | apply Kd.R_alloc | apply Kd.R_drewN | apply Kd.R_drew)); exact Kd.R_mono HO_7.out (fun _ hk => hk.2))); (case aS => exact (below_size (by repeat (first | (with_reducible first | exact HB.out | apply below_alloc | apply pw_below_drewN | apply below_drew1 | refine below_set ?_ GE349.out) | exact HB.out)))); (case aL => have := LMc61.out; omega); intro v395 w69 ho hb hg hat; rw [← Ny394.out] at ho; have n0_ := Aside0.mk (Kd.N_afterv (ok := (fun k_ => some k_ ≠ (.slice Ao70 y391.length co70 : Value).ownBlock ∧ k_ ≠ gb349)) (by (with_reducible repeat (first | apply Kd.N_alloc | apply Kd.N_drewN | apply Kd.N_drew)); exact Kd.N_mono HO_8.out (fun _ hk => ⟨⟨hk.2, hk.1.2⟩, hk.1.1⟩)) hg hat); have n1_ := Aside0.mk (blk_grown (g := gb349) (o := .cells #[.int .i64 a1_0, .bool a1_1, .bool a1_2, .bool true, .bool a1_4] 31 (0, 0)) (by (with_reducible repeat (first | refine blk_drewN ?_ _ | refine blk_drew ?_ | refine blk_alloc ?_ _)); exact BK349.out) hg (Kd.R_ne HO_7.out BK349.out (by decide))); have n2_ := Aside0.mk (Kd.R_after (ok := (fun _ => True)) (by (with_reducible repeat (first | apply Kd.R_alloc | apply Kd.R_drewN | apply Kd.R_drew)); exact HO393.out) hg hat); have n3_ := Aside0.mk (hb); have n4_ := Aside0.mk (ho); clear HO_8; clear BK349; clear HO393; clear HB; clear HO_7; have HO_8 := n0_; have BK349 := n1_; have HO393 := n2_; have HB := n3_; have HO396 := n4_; clear n0_ n1_ n2_ n3_ n4_; clear ho hb hg hat; have hcz71_0 : w69.cell? ⟨gb349, 0, none⟩ = some (.int .i64 a1_0) := (blk_cell BK349.out 0).trans rfl; have hcz71_1 : w69.cell? ⟨gb349, 1, none⟩ = some (.bool a1_1) := (blk_cell BK349.out 1).trans rfl; have hcz71_2 : w69.cell? ⟨gb349, 2, none⟩ = some (.bool a1_2) := (blk_cell BK349.out 2).trans rfl; have hcz71_3 : w69.cell? ⟨gb349, 3, none⟩ = some (.bool true) := (blk_cell BK349.out 3).trans rfl; have hcz71_4 : w69.cell? ⟨gb349, 4, none⟩ = some (.bool a1_4) := (blk_cell BK349.out 4).trans rfl; have hfz71_0 := blk_frozen BK349.out 0; have hfz71_1 := blk_frozen BK349.out 1; have hfz71_2 := blk_frozen BK349.out 2; have hfz71_3 := blk_frozen BK349.out 3; have hfz71_4 := blk_frozen BK349.out 4) | ((with_reducible refine gate_callee (f := 102) rfl ?_); refine goesL_ (some 67) rfl rfl Try.func102 (by kernel_rfl) rfl #[.int .u32 0, .slice A0 l0.length c0] rfl (by (try simp only [List.map_toArray, List.map_cons, List.map_nil]); first | done | rfl | (simp only [List.length_drop, List.length_take]; rfl)) ?_; (with_reducible refine (satchelref02_Sum32.calls 0 _ _ l0 t397 _ ?side1 ?side2 A63.out).mono ?_); (case side1 => repeat (first | exact (Kd.C_below HR0.out HB.out) | (with_reducible refine Kd.C_alloc ?_ _) | (with_reducible refine Kd.C_drewN ?_ _) | (with_reducible refine Kd.C_drew ?_))); (case side2 => exact HC0.out); rintro e w72 ⟨rfl, hb⟩; refine ⟨_, rfl, ?_⟩; have n0_ := Aside0.mk (Kd.N_below (by (with_reducible repeat (first | apply Kd.N_alloc | apply Kd.N_drewN | apply Kd.N_drew)); exact HO_8.out) hb); have n1_ := Aside0.mk (Kd.R_below (by (with_reducible repeat (first | apply Kd.R_alloc | apply Kd.R_drewN | apply Kd.R_drew)); exact HO393.out) hb); have n2_ := Aside0.mk (Kd.R_below (by (with_reducible repeat (first | apply Kd.R_alloc | apply Kd.R_drewN | apply Kd.R_drew)); exact HO396.out) hb); have n3_ := Aside0.mk (blk_below (g := gb349) (o := .cells #[.int .i64 a1_0, .bool a1_1, .bool a1_2, .bool true, .bool a1_4] 31 (0, 0)) (by (with_reducible repeat (first | refine blk_drewN ?_ _ | refine blk_drew ?_ | refine blk_alloc ?_ _)); exact BK349.out) hb); have n4_ := Aside0.mk (below_step (by repeat (first | (with_reducible first | exact HB.out | apply below_alloc | apply pw_below_drewN | apply below_drew1 | refine below_set ?_ GE349.out) | exact HB.out)) hb); clear HO_8; clear HO393; clear HO396; clear BK349; clear HB; have HO_8 := n0_; have HO393 := n1_; have HO396 := n2_; have BK349 := n3_; have HB := n4_; clear n0_ n1_ n2_ n3_ n4_; (try clear hb); (try clear hb2); (try clear hk); (try clear hi)) | ((with_reducible refine gate_callee (f := 84) rfl ?_); refine goesL_ (some 69) rfl rfl Try.func84 (by kernel_rfl) rfl #[.int .u64 (IntKind.u64.wrap (t397)), .int .i64 4] rfl (by (try simp only [List.map_toArray, List.map_cons, List.map_nil]); first | done | rfl | (simp only [List.length_drop, List.length_take]; rfl)) ?_; (with_reducible refine (satchelref04_low.calls k1 (IntKind.u64.wrap (t397)) 4 t398 _ A64.out).mono ?_); rintro e w73 ⟨v399, rfl, ho0, hb⟩; refine ⟨_, rfl, ?_⟩; have n0_ := Aside0.mk (Kd.N_elder' (by (with_reducible repeat (first | apply Kd.N_alloc | apply Kd.N_drewN | apply Kd.N_drew)); exact HO_8.out) (Kd.R_base ho0) hb); have n1_ := Aside0.mk (Kd.R_elder' (by (with_reducible repeat (first | apply Kd.R_alloc | apply Kd.R_drewN | apply Kd.R_drew)); exact HO393.out) (Kd.R_base ho0) hb); have n2_ := Aside0.mk (Kd.R_elder' (by (with_reducible repeat (first | apply Kd.R_alloc | apply Kd.R_drewN | apply Kd.R_drew)); exact HO396.out) (Kd.R_base ho0) hb); have n3_ := Aside0.mk (Kd.R_lower (Kd.R_new' (Kd.R_new' ho0 (Kd.R_lt (by (with_reducible repeat (first | apply Kd.R_alloc | apply Kd.R_drewN | apply Kd.R_drew)); exact HO393.out))) (Kd.R_lt (by (with_reducible repeat (first | apply Kd.R_alloc | apply Kd.R_drewN | apply Kd.R_drew)); exact HO396.out))) (below_size (by repeat (first | (with_reducible first | exact HB.out | apply below_alloc | apply pw_below_drewN | apply below_drew1 | refine below_set ?_ GE349.out) | exact HB.out)))); have n4_ := Aside0.mk (blk_below (g := gb349) (o := .cells #[.int .i64 a1_0, .bool a1_1, .bool a1_2, .bool true, .bool a1_4] 31 (0, 0)) (by (with_reducible repeat (first | refine blk_drewN ?_ _ | refine blk_drew ?_ | refine blk_alloc ?_ _)); exact BK349.out) hb); have n5_ := Aside0.mk (below_step (by repeat (first | (with_reducible first | exact HB.out | apply below_alloc | apply pw_below_drewN | apply below_drew1 | refine below_set ?_ GE349.out) | exact HB.out)) hb); clear HO_8; clear HO393; clear HO396; clear BK349; clear HB; have HO_8 := n0_; have HO393 := n1_; have HO396 := n2_; have HO400 := n3_; have BK349 := n4_; have HB := n5_; clear n0_ n1_ n2_ n3_ n4_ n5_; (try clear hb); (try clear hb2); (try clear hk); (try clear hi); (try clear ho0); obtain ⟨Ao75, co75, eo75⟩ := Kd.R_slice HO400.out; subst eo75) | ((with_reducible refine gate_builtin (b := .append) (xs := #[.tmp 65, .tmp 69]) rfl ?_); at_builtin; refine Kd.R_append_rows (Kd.int .u8) (w0 := w) w.heap.size rfl (.tmp 65) (.tmp 69) 22 5 (.int .u8 0) 1 rfl Try.underlying22 info5 rfl (by decide) (by omega) v395 y394 t398 _ _ _ (fun k_ => some k_ ≠ (.slice Ao70 y391.length co70 : Value).ownBlock ∧ some k_ ≠ (.slice Ao75 t398.length co75 : Value).ownBlock) (fun _ => False) rfl rfl ?aO ?aR (fun _ _ h => h) (fun _ h => h.elim) ?aF ?aB ?aS ?aL ?_; (case aR => repeat (first | exact (Kd.R_reads' HO400.out).2.2 | (with_reducible refine Kd.C_alloc ?_ _) | (with_reducible refine Kd.C_drewN ?_ _) | (with_reducible refine Kd.C_drew ?_))); (case aB => exact (by repeat (first | (with_reducible first | exact HB.out | apply below_alloc | apply pw_below_drewN | apply below_drew1 | refine below_set ?_ GE349.out) | exact HB.out))); (case aF => exact (fun k_ hk => ⟨Kd.fresh' (Kd.R_lt (by (with_reducible repeat (first | apply Kd.R_alloc | apply Kd.R_drewN | apply Kd.R_drew)); exact HO393.out)) k_ hk, Kd.fresh' (Kd.R_lt (by (with_reducible repeat (first | apply Kd.R_alloc | apply Kd.R_drewN | apply Kd.R_drew)); exact HO400.out)) k_ hk⟩)); (case aO => exact (by (with_reducible repeat (first | apply Kd.R_alloc | apply Kd.R_drewN | apply Kd.R_drew)); exact HO396.out)); (case aS => exact (below_size (by repeat (first | (with_reducible first | exact HB.out | apply below_alloc | apply pw_below_drewN | apply below_drew1 | refine below_set ?_ GE349.out) | exact HB.out)))); (case aL => have := LMc65.out; omega); intro v402 w74 ho hb hg hat; rw [← Ny401.out] at ho; have n0_ := Aside0.mk (Kd.N_afterv (ok := (fun k_ => some k_ ≠ (.slice Ao70 y391.length co70 : Value).ownBlock ∧ some k_ ≠ (.slice Ao75 t398.length co75 : Value).ownBlock ∧ k_ ≠ gb349)) (by (with_reducible repeat (first | apply Kd.N_alloc | apply Kd.N_drewN | apply Kd.N_drew)); exact Kd.N_mono HO_8.out (fun _ hk => ⟨⟨hk.1.1.1, ⟨hk.2, hk.1.1.2⟩⟩, hk.1.2⟩)) hg hat); have n1_ := Aside0.mk (blk_grown (g := gb349) (o := .cells #[.int .i64 a1_0, .bool a1_1, .bool a1_2, .bool true, .bool a1_4] 31 (0, 0)) (by (with_reducible repeat (first | refine blk_drewN ?_ _ | refine blk_drew ?_ | refine blk_alloc ?_ _)); exact BK349.out) hg (Kd.R_ne HO396.out BK349.out (by decide))); have n2_ := Aside0.mk (Kd.R_after (ok := (fun k_ => some k_ ≠ (.slice Ao75 t398.length co75 : Value).ownBlock)) (by (with_reducible repeat (first | apply Kd.R_alloc | apply Kd.R_drewN | apply Kd.R_drew)); exact Kd.R_mono HO393.out (fun _ hk => ⟨hk.2, hk.1.2⟩)) hg hat); have n3_ := Aside0.mk (Kd.R_after (ok := (fun k_ => some k_ ≠ (.slice Ao70 y391.length co70 : Value).ownBlock)) (by (with_reducible repeat (first | apply Kd.R_alloc | apply Kd.R_drewN | apply Kd.R_drew)); exact Kd.R_mono HO400.out (fun _ hk => ⟨hk.1.2, hk.2⟩)) hg hat); have n4_ := Aside0.mk (hb); have n5_ := Aside0.mk (ho); clear HO_8; clear BK349; clear HO393; clear HO400; clear HB; clear HO396; have HO_8 := n0_; have BK349 := n1_; have HO393 := n2_; have HO400 := n3_; have HB := n4_; have HO403 := n5_; clear n0_ n1_ n2_ n3_ n4_ n5_; clear ho hb hg hat))
              go_ret
              exact ⟨_, by first | rfl | (simp [errW_none, errW_some] <;> rfl) | (simp [*, errW_none, errW_some] <;> rfl), by (with_reducible repeat (first | apply Kd.R_alloc | apply Kd.R_drewN | apply Kd.R_drew)); exact Kd.R_mono HO403.out (fun _ hk => trivial), by repeat (first | (with_reducible first | exact HB.out | apply below_alloc | apply pw_below_drewN | apply below_drew1 | refine below_set ?_ GE349.out) | exact HB.out)⟩
            · rw [if_neg c65] at H
              exact absurd H (by simp)
          · replace c62 := Bool.eq_false_iff.mpr c62
            subst c62
            have H1 : (some y394) = some r := by rw [if_neg (show ¬ (false = true) by decide)] at H; exact H
            clear H
            have H := H1
            clear H1
            obtain rfl := Option.some.inj H
            obtain ⟨Ao76, co76, eo76⟩ := Kd.N_slice HO_8.out
            subst eo76
            go_wp2_with (first | ((with_reducible refine gate_dst (N := 61) rfl ?_); refine Kd.R_lit (Kd.int .u8) _ 5 ?hg (N := 61) ?hd (xs := ([0, 0, 0, 0] : List Int)) (inner := [.int .u8 0, .int .u8 0, .int .u8 0, .int .u8 0]) (ok := fun _ => True) (okp := fun _ => True) ?hr ?hp (fun _ hk => hk) trivial (Below.refl _ _) (Nat.le_refl _) (by simp) ?_; (case hd => rfl); (case hg => rfl); (case hr => first | (go_simp; done) | (go_simp; rfl)); (case hp => exact (Reps.one (show Kd.M (Kd.int .u8) _ _ _ 0 [.int .u8 0] from rfl) (Reps.one (show Kd.M (Kd.int .u8) _ _ _ 0 [.int .u8 0] from rfl) (Reps.one (show Kd.M (Kd.int .u8) _ _ _ 0 [.int .u8 0] from rfl) (Reps.one (show Kd.M (Kd.int .u8) _ _ _ 0 [.int .u8 0] from rfl) (Reps.none _ _)))))); intro v392 w77 ho78 hb hg_ hnew_; clear hg_ hnew_; (first | rw [← Ny391.out] at ho78 | (simp only [Int.reduceToNat] at ho78; rw [← Ny391.out] at ho78)); have n0_ := Aside0.mk (Kd.R_elder' (by (with_reducible repeat (first | apply Kd.R_alloc | apply Kd.R_drewN | apply Kd.R_drew)); exact HO_7.out) (Kd.R_base ho78) hb); have n1_ := Aside0.mk (Kd.N_elder' (by (with_reducible repeat (first | apply Kd.N_alloc | apply Kd.N_drewN | apply Kd.N_drew)); exact HO_8.out) (Kd.R_base ho78) hb); have n2_ := Aside0.mk (Kd.R_lower (Kd.R_new' ho78 (Kd.R_lt (by (with_reducible repeat (first | apply Kd.R_alloc | apply Kd.R_drewN | apply Kd.R_drew)); exact HO_7.out))) (below_size (by repeat (first | (with_reducible first | exact HB.out | apply below_alloc | apply pw_below_drewN | apply below_drew1 | refine below_set ?_ GE349.out) | exact HB.out)))); have n3_ := Aside0.mk (blk_below (g := gb349) (o := .cells #[.int .i64 a1_0, .bool a1_1, .bool a1_2, .bool false, .bool a1_4] 31 (0, 0)) (by (with_reducible repeat (first | refine blk_drewN ?_ _ | refine blk_drew ?_ | refine blk_alloc ?_ _)); exact BK349.out) hb); have n4_ := Aside0.mk (below_step (by repeat (first | (with_reducible first | exact HB.out | apply below_alloc | apply pw_below_drewN | apply below_drew1 | refine below_set ?_ GE349.out) | exact HB.out)) hb); clear HO_7; clear HO_8; clear BK349; clear HB; have HO_7 := n0_; have HO_8 := n1_; have HO393 := n2_; have BK349 := n3_; have HB := n4_; clear n0_ n1_ n2_ n3_ n4_; clear hb ho78; obtain ⟨Ao80, co80, eo80⟩ := Kd.R_slice HO393.out; subst eo80) | ((with_reducible refine gate_builtin (b := .append) (xs := #[.tmp 60, .tmp 61]) rfl ?_); at_builtin; refine Kd.R_append_rows (Kd.int .u8) (w0 := w) w.heap.size rfl (.tmp 60) (.tmp 61) 22 5 (.int .u8 0) 1 rfl Try.underlying22 info5 rfl (by decide) (by omega) u7 x7_1 y391 _ _ _ (fun k_ => some k_ ≠ (.slice Ao80 y391.length co80 : Value).ownBlock) (fun _ => False) rfl rfl ?aO ?aR (fun _ _ h => h) (fun _ h => h.elim) ?aF ?aB ?aS ?aL ?_; (case aR => repeat (first | exact (Kd.R_reads' HO393.out).2.2 | (with_reducible refine Kd.C_alloc ?_ _) | (with_reducible refine Kd.C_drewN ?_ _) | (with_reducible refine Kd.C_drew ?_))); (case aB => exact (by repeat (first | (with_reducible first | exact HB.out | apply below_alloc | apply pw_below_drewN | apply below_drew1 | refine below_set ?_ GE349.out) | exact HB.out))); (case aF => exact (fun k_ hk => Kd.fresh' (Kd.R_lt (by (with_reducible repeat (first | apply Kd.R_alloc | apply Kd.R_drewN | apply Kd.R_drew)); exact HO393.out)) k_ hk)); (case aO => exact (by (with_reducible repeat (first | apply Kd.R_alloc | apply Kd.R_drewN | apply Kd.R_drew)); exact Kd.R_mono HO_7.out (fun _ hk => hk.2))); (case aS => exact (below_size (by repeat (first | (with_reducible first | exact HB.out | apply below_alloc | apply pw_below_drewN | apply below_drew1 | refine below_set ?_ GE349.out) | exact HB.out)))); (case aL => have := LMc61.out; omega); intro v395 w79 ho hb hg hat; rw [← Ny394.out] at ho; have n0_ := Aside0.mk (Kd.N_afterv (ok := (fun k_ => some k_ ≠ (.slice Ao80 y391.length co80 : Value).ownBlock ∧ k_ ≠ gb349)) (by (with_reducible repeat (first | apply Kd.N_alloc | apply Kd.N_drewN | apply Kd.N_drew)); exact Kd.N_mono HO_8.out (fun _ hk => ⟨⟨hk.2, hk.1.2⟩, hk.1.1⟩)) hg hat); have n1_ := Aside0.mk (blk_grown (g := gb349) (o := .cells #[.int .i64 a1_0, .bool a1_1, .bool a1_2, .bool false, .bool a1_4] 31 (0, 0)) (by (with_reducible repeat (first | refine blk_drewN ?_ _ | refine blk_drew ?_ | refine blk_alloc ?_ _)); exact BK349.out) hg (Kd.R_ne HO_7.out BK349.out (by decide))); have n2_ := Aside0.mk (Kd.R_after (ok := (fun _ => True)) (by (with_reducible repeat (first | apply Kd.R_alloc | apply Kd.R_drewN | apply Kd.R_drew)); exact HO393.out) hg hat); have n3_ := Aside0.mk (hb); have n4_ := Aside0.mk (ho); clear HO_8; clear BK349; clear HO393; clear HB; clear HO_7; have HO_8 := n0_; have BK349 := n1_; have HO393 := n2_; have HB := n3_; have HO396 := n4_; clear n0_ n1_ n2_ n3_ n4_; clear ho hb hg hat; have hcz81_0 : w79.cell? ⟨gb349, 0, none⟩ = some (.int .i64 a1_0) := (blk_cell BK349.out 0).trans rfl; have hcz81_1 : w79.cell? ⟨gb349, 1, none⟩ = some (.bool a1_1) := (blk_cell BK349.out 1).trans rfl; have hcz81_2 : w79.cell? ⟨gb349, 2, none⟩ = some (.bool a1_2) := (blk_cell BK349.out 2).trans rfl; have hcz81_3 : w79.cell? ⟨gb349, 3, none⟩ = some (.bool false) := (blk_cell BK349.out 3).trans rfl; have hcz81_4 : w79.cell? ⟨gb349, 4, none⟩ = some (.bool a1_4) := (blk_cell BK349.out 4).trans rfl; have hfz81_0 := blk_frozen BK349.out 0; have hfz81_1 := blk_frozen BK349.out 1; have hfz81_2 := blk_frozen BK349.out 2; have hfz81_3 := blk_frozen BK349.out 3; have hfz81_4 := blk_frozen BK349.out 4))
            go_ret
            exact ⟨_, by first | rfl | (simp [errW_none, errW_some] <;> rfl) | (simp [*, errW_none, errW_some] <;> rfl), by (with_reducible repeat (first | apply Kd.R_alloc | apply Kd.R_drewN | apply Kd.R_drew)); exact Kd.R_mono HO396.out (fun _ hk => trivial), by repeat (first | (with_reducible first | exact HB.out | apply below_alloc | apply pw_below_drewN | apply below_drew1 | refine below_set ?_ GE349.out) | exact HB.out)⟩
        · rw [if_neg c61] at H
          exact absurd H (by simp)

/-! ### satchellaw04_laid: function 41 -/
def satchellaw04_laid.l0 : Nat → List Int → List (List Int) → List (List Int) → Int → Int → Int → Bool → Bool → Bool → Bool → Option (List Int × Int)
  | 0, _, _, _, _, _, _, _, _, _, _ => none
  | k + 1, x0, x6, x7, x8, x9, x405000, x405001, x405002, x405003, x405004 => if x9 < (x6.length : Int) then (if x405001 = true then ((some (([] : List Int) : List Int)).bind fun y409 => (if 0 ≤ x9 then (if y409.length + (rd_L1 x6 x9).length < 140737488355328 then ((lz_Encode.f (y409 ++ (rd_L1 x6 x9)) ([] : List Int)).bind fun bt416 => (if x7.length < 5864062014805 then (satchellaw04_laid.l0 k x0 x6 (x7 ++ [bt416.1]) (wrap64 (x8 + ((rd_L1 x6 x9).length : Int))) (wrap64 (x9 + 1)) x405000 x405001 x405002 x405003 x405004) else (none))) else (none)) else (none))) else (if 0 ≤ x8 then (if x8 ≤ (x0.length : Int) then (if ([] : List Int).length + (x0.take (x8 : Int).toNat).length < 140737488355328 then ((some (([] : List Int) : List Int)).bind fun y428 => (if 0 ≤ x9 then (if y428.length + (rd_L1 x6 x9).length < 140737488355328 then ((lz_Encode.f (y428 ++ (rd_L1 x6 x9)) (([] : List Int) ++ (x0.take (x8 : Int).toNat))).bind fun bt435 => (if x7.length < 5864062014805 then (satchellaw04_laid.l0 k x0 x6 (x7 ++ [bt435.1]) (wrap64 (x8 + ((rd_L1 x6 x9).length : Int))) (wrap64 (x9 + 1)) x405000 x405001 x405002 x405003 x405004) else (none))) else (none)) else (none))) else (none)) else (none)) else (none))) else ((satchelref04_Lay.f k x0 x405000 x405001 x405002 x405003 x405004 x7).bind fun t443 => (some (t443, 0)))
def satchellaw04_laid.f (k : Nat) (l0 : List Int) (a1_0 : Int) (a1_1 : Bool) (a1_2 : Bool) (a1_3 : Bool) (a1_4 : Bool) : Option (List Int × Int) := (satchelref04_Can.f a1_0 a1_1 a1_2 a1_3 a1_4).bind fun t405 => (if t405 = true then (if (l0.length : Int) > 4194304 then (some (([] : List Int), 2)) else ((satchelref04_Pieces.f k l0 a1_0 a1_1 a1_2 a1_3 a1_4).bind fun t406 => (satchellaw04_laid.l0 k l0 t406 ([] : List (List Int)) 0 0 a1_0 a1_1 a1_2 a1_3 a1_4))) else (some (([] : List Int), 1)))
set_option maxHeartbeats 8000000 in
set_option maxRecDepth 100000 in
theorem satchellaw04_laid.calls (k : Nat) (A0 : Option Addr) (c0 : Nat) (l0 : List Int) (a1_0 : Int) (a1_1 : Bool) (a1_2 : Bool) (a1_3 : Bool) (a1_4 : Bool) (r1 : List Int) (r2 : Int) (w : World) (hr0 : Kd.C (Kd.int .u8) w A0 l0.length l0) (hc0 : l0.length ≤ c0) (h : satchellaw04_laid.f k l0 a1_0 a1_1 a1_2 a1_3 a1_4 = some (r1, r2)) :
    Calls Try.prog 41 #[.slice A0 l0.length c0, .agg #[.int .i64 a1_0, .bool a1_1, .bool a1_2, .bool a1_3, .bool a1_4]] w fun e w' => ∃ v0_ : Value, e = .returned (.tuple #[v0_, .int .i64 r2]) ∧ Kd.R (Kd.int .u8) 5 w' w.heap.size (fun _ => True) v0_ r1 ∧ Below w.heap.size w w' := by
  have hu31 := Try.underlying31
  have HR0 := Aside0.mk hr0
  have HC0 := Aside0.mk hc0
  clear hr0 hc0
  have HB := Aside0.mk (Below.refl w.heap.size w)
  have H : ((satchelref04_Can.f a1_0 a1_1 a1_2 a1_3 a1_4).bind fun t405 => (if t405 = true then (if (l0.length : Int) > 4194304 then (some (([] : List Int), 2)) else ((satchelref04_Pieces.f k l0 a1_0 a1_1 a1_2 a1_3 a1_4).bind fun t406 => (satchellaw04_laid.l0 k l0 t406 ([] : List (List Int)) 0 0 a1_0 a1_1 a1_2 a1_3 a1_4))) else (some (([] : List Int), 1)))) = some (r1, r2) := h
  clear h
  replace H := Option.bind_eq_some_iff.mp H
  obtain ⟨t405, A30, H⟩ := H
  replace H : (if t405 = true then (if (l0.length : Int) > 4194304 then (some (([] : List Int), 2)) else ((satchelref04_Pieces.f k l0 a1_0 a1_1 a1_2 a1_3 a1_4).bind fun t406 => (satchellaw04_laid.l0 k l0 t406 ([] : List (List Int)) 0 0 a1_0 a1_1 a1_2 a1_3 a1_4))) else (some (([] : List Int), 1))) = some (r1, r2) := H
  have A3 := Aside0.mk A30
  clear A30
  by_cases c4 : t405 = true
  · subst c4
    have H1 : (if (l0.length : Int) > 4194304 then (some (([] : List Int), 2)) else ((satchelref04_Pieces.f k l0 a1_0 a1_1 a1_2 a1_3 a1_4).bind fun t406 => (satchellaw04_laid.l0 k l0 t406 ([] : List (List Int)) 0 0 a1_0 a1_1 a1_2 a1_3 a1_4))) = some (r1, r2) := by rw [if_pos rfl] at H; exact H
    clear H
    have H := H1
    clear H1
    by_cases c5 : (l0.length : Int) > 4194304
    · rw [if_pos c5] at H
      have c5b0 : decide (4194304 < (l0.length : Int)) = true := decide_eq_true c5
      have c5b1 : decide (4194304 < l0.length) = true := decide_eq_true (by omega)
      clear c5
      simp only [Option.some.injEq, Prod.mk.injEq] at H
      obtain ⟨rfl, rfl⟩ := H
      go_enter Try.func41, Try.ntmps41
      go_wp2_with (first | ((with_reducible refine gate_dst (N := 3) rfl ?_); refine box_event ?hg (N := 3) ?hd (cs := #[.int .i64 a1_0, .bool a1_1, .bool a1_2, .bool a1_3, .bool a1_4]) (t := 31) ?hr ?_; (case hd => rfl); (case hg => rfl); (case hr => first | (go_simp; done) | (go_simp; rfl)); intro gb404 hg w6 hbox hb; have n0_ := Aside0.mk (below_step (by repeat (first | (with_reducible first | exact HB.out | apply below_alloc | apply pw_below_drewN | apply below_drew1) | exact HB.out)) hb); have n1_ := Aside0.mk (hbox); have n2_ := Aside0.mk ((by rw [hg]; exact (below_size (by repeat (first | (with_reducible first | exact HB.out | apply below_alloc | apply pw_below_drewN | apply below_drew1) | exact HB.out))) : w.heap.size ≤ gb404)); have n3_ := Aside0.mk ((by rw [hg]; exact (below_size (by repeat (first | (with_reducible first | exact HB.out | apply below_alloc | apply pw_below_drewN | apply below_drew1) | exact HB.out))) : w.heap.size ≤ gb404)); clear HB; have HB := n0_; have BK404 := n1_; have GW404 := n2_; have GE404 := n3_; clear n0_ n1_ n2_ n3_; clear hb hbox hg; have hcz7_0 : w6.cell? ⟨gb404, 0, none⟩ = some (.int .i64 a1_0) := (blk_cell BK404.out 0).trans rfl; have hcz7_1 : w6.cell? ⟨gb404, 1, none⟩ = some (.bool a1_1) := (blk_cell BK404.out 1).trans rfl; have hcz7_2 : w6.cell? ⟨gb404, 2, none⟩ = some (.bool a1_2) := (blk_cell BK404.out 2).trans rfl; have hcz7_3 : w6.cell? ⟨gb404, 3, none⟩ = some (.bool a1_3) := (blk_cell BK404.out 3).trans rfl; have hcz7_4 : w6.cell? ⟨gb404, 4, none⟩ = some (.bool a1_4) := (blk_cell BK404.out 4).trans rfl; have hfz7_0 := blk_frozen BK404.out 0; have hfz7_1 := blk_frozen BK404.out 1; have hfz7_2 := blk_frozen BK404.out 2; have hfz7_3 := blk_frozen BK404.out 3; have hfz7_4 := blk_frozen BK404.out 4) | ((with_reducible refine gate_callee (f := 81) rfl ?_); refine goesL_ (some 14) rfl rfl Try.func81 (by kernel_rfl) rfl #[.agg #[.int .i64 a1_0, .bool a1_1, .bool a1_2, .bool a1_3, .bool a1_4]] rfl (by (try simp only [List.map_toArray, List.map_cons, List.map_nil]); first | done | rfl | (simp only [List.length_drop, List.length_take]; rfl)) ?_; (with_reducible refine (satchelref04_Can.calls a1_0 a1_1 a1_2 a1_3 a1_4 true _ A3.out).mono ?_); rintro e w8 ⟨rfl, hb⟩; refine ⟨_, rfl, ?_⟩; have n0_ := Aside0.mk (blk_below (g := gb404) (o := .cells #[.int .i64 a1_0, .bool a1_1, .bool a1_2, .bool a1_3, .bool a1_4] 31 (0, 0)) (by (with_reducible repeat (first | refine blk_drewN ?_ _ | refine blk_drew ?_ | refine blk_alloc ?_ _)); exact BK404.out) hb); have n1_ := Aside0.mk (below_step (by repeat (first | (with_reducible first | exact HB.out | apply below_alloc | apply pw_below_drewN | apply below_drew1 | refine below_set ?_ GE404.out) | exact HB.out)) hb); clear BK404; clear HB; have BK404 := n0_; have HB := n1_; clear n0_ n1_; (try clear hb); (try clear hb2); (try clear hk); (try clear hi)))
      go_ret2
      exact ⟨_, by first | rfl | (simp [errW_none, errW_some] <;> rfl) | (simp [*, errW_none, errW_some] <;> rfl), by first | exact Kd.R_nil _ _ _ _ _ | exact Kd.N_nil _ _ _ _ _ | exact Kd.V_nil _ _ _ _ _ | exact Kd.Q_nil _ _ _ _ _ | exact Kd.S_nil _ _ _ _ _, by repeat (first | (with_reducible first | exact HB.out | apply below_alloc | apply pw_below_drewN | apply below_drew1 | refine below_set ?_ GE404.out) | exact HB.out)⟩
    · rw [if_neg c5] at H
      have c5b0 : decide (4194304 < (l0.length : Int)) = false := decide_eq_false c5
      have c5b1 : decide (4194304 < l0.length) = false := decide_eq_false (by omega)
      clear c5
      replace H := Option.bind_eq_some_iff.mp H
      obtain ⟨t406, A90, H⟩ := H
      replace H : (satchellaw04_laid.l0 k l0 t406 ([] : List (List Int)) 0 0 a1_0 a1_1 a1_2 a1_3 a1_4) = some (r1, r2) := H
      have A9 := Aside0.mk A90
      clear A90
      have H' := Aside0.mk H
      clear H
      go_enter Try.func41, Try.ntmps41
      go_wp2_with (first | ((with_reducible refine gate_dst (N := 3) rfl ?_); refine box_event ?hg (N := 3) ?hd (cs := #[.int .i64 a1_0, .bool a1_1, .bool a1_2, .bool a1_3, .bool a1_4]) (t := 31) ?hr ?_; (case hd => rfl); (case hg => rfl); (case hr => first | (go_simp; done) | (go_simp; rfl)); intro gb404 hg w10 hbox hb; have n0_ := Aside0.mk (below_step (by repeat (first | (with_reducible first | exact HB.out | apply below_alloc | apply pw_below_drewN | apply below_drew1) | exact HB.out)) hb); have n1_ := Aside0.mk (hbox); have n2_ := Aside0.mk ((by rw [hg]; exact (below_size (by repeat (first | (with_reducible first | exact HB.out | apply below_alloc | apply pw_below_drewN | apply below_drew1) | exact HB.out))) : w.heap.size ≤ gb404)); have n3_ := Aside0.mk ((by rw [hg]; exact (below_size (by repeat (first | (with_reducible first | exact HB.out | apply below_alloc | apply pw_below_drewN | apply below_drew1) | exact HB.out))) : w.heap.size ≤ gb404)); clear HB; have HB := n0_; have BK404 := n1_; have GW404 := n2_; have GE404 := n3_; clear n0_ n1_ n2_ n3_; clear hb hbox hg; have hcz11_0 : w10.cell? ⟨gb404, 0, none⟩ = some (.int .i64 a1_0) := (blk_cell BK404.out 0).trans rfl; have hcz11_1 : w10.cell? ⟨gb404, 1, none⟩ = some (.bool a1_1) := (blk_cell BK404.out 1).trans rfl; have hcz11_2 : w10.cell? ⟨gb404, 2, none⟩ = some (.bool a1_2) := (blk_cell BK404.out 2).trans rfl; have hcz11_3 : w10.cell? ⟨gb404, 3, none⟩ = some (.bool a1_3) := (blk_cell BK404.out 3).trans rfl; have hcz11_4 : w10.cell? ⟨gb404, 4, none⟩ = some (.bool a1_4) := (blk_cell BK404.out 4).trans rfl; have hfz11_0 := blk_frozen BK404.out 0; have hfz11_1 := blk_frozen BK404.out 1; have hfz11_2 := blk_frozen BK404.out 2; have hfz11_3 := blk_frozen BK404.out 3; have hfz11_4 := blk_frozen BK404.out 4) | ((with_reducible refine gate_callee (f := 81) rfl ?_); refine goesL_ (some 14) rfl rfl Try.func81 (by kernel_rfl) rfl #[.agg #[.int .i64 a1_0, .bool a1_1, .bool a1_2, .bool a1_3, .bool a1_4]] rfl (by (try simp only [List.map_toArray, List.map_cons, List.map_nil]); first | done | rfl | (simp only [List.length_drop, List.length_take]; rfl)) ?_; (with_reducible refine (satchelref04_Can.calls a1_0 a1_1 a1_2 a1_3 a1_4 true _ A3.out).mono ?_); rintro e w12 ⟨rfl, hb⟩; refine ⟨_, rfl, ?_⟩; have n0_ := Aside0.mk (blk_below (g := gb404) (o := .cells #[.int .i64 a1_0, .bool a1_1, .bool a1_2, .bool a1_3, .bool a1_4] 31 (0, 0)) (by (with_reducible repeat (first | refine blk_drewN ?_ _ | refine blk_drew ?_ | refine blk_alloc ?_ _)); exact BK404.out) hb); have n1_ := Aside0.mk (below_step (by repeat (first | (with_reducible first | exact HB.out | apply below_alloc | apply pw_below_drewN | apply below_drew1 | refine below_set ?_ GE404.out) | exact HB.out)) hb); clear BK404; clear HB; have BK404 := n0_; have HB := n1_; clear n0_ n1_; (try clear hb); (try clear hb2); (try clear hk); (try clear hi); have hcz13_0 : w12.cell? ⟨gb404, 0, none⟩ = some (.int .i64 a1_0) := (blk_cell BK404.out 0).trans rfl; have hcz13_1 : w12.cell? ⟨gb404, 1, none⟩ = some (.bool a1_1) := (blk_cell BK404.out 1).trans rfl; have hcz13_2 : w12.cell? ⟨gb404, 2, none⟩ = some (.bool a1_2) := (blk_cell BK404.out 2).trans rfl; have hcz13_3 : w12.cell? ⟨gb404, 3, none⟩ = some (.bool a1_3) := (blk_cell BK404.out 3).trans rfl; have hcz13_4 : w12.cell? ⟨gb404, 4, none⟩ = some (.bool a1_4) := (blk_cell BK404.out 4).trans rfl; have hfz13_0 := blk_frozen BK404.out 0; have hfz13_1 := blk_frozen BK404.out 1; have hfz13_2 := blk_frozen BK404.out 2; have hfz13_3 := blk_frozen BK404.out 3; have hfz13_4 := blk_frozen BK404.out 4) | ((with_reducible refine gate_callee (f := 82) rfl ?_); refine goesL_ (some 21) rfl rfl Try.func82 (by kernel_rfl) rfl #[.slice A0 l0.length c0, .agg #[.int .i64 a1_0, .bool a1_1, .bool a1_2, .bool a1_3, .bool a1_4]] rfl (by (try simp only [List.map_toArray, List.map_cons, List.map_nil]); first | done | rfl | (simp only [List.length_drop, List.length_take]; rfl)) ?_; (with_reducible refine (satchelref04_Pieces.calls k (fun k_ => k_ < w.heap.size) _ _ l0 a1_0 a1_1 a1_2 a1_3 a1_4 t406 _ ?side1 A9.out).mono ?_); (case side1 => exact Kd.V_mk HC0.out (Kd.F_below (Kd.C_F (Kd.heap_int .u8) HR0.out) (by repeat (first | (with_reducible first | exact HB.out | apply below_alloc | apply pw_below_drewN | apply below_drew1 | refine below_set ?_ GE404.out) | exact HB.out)))); rintro e w14 ⟨v407, rfl, ho0, hb⟩; refine ⟨_, rfl, ?_⟩; have n0_ := Aside0.mk (Kd.N_lower (Kd.N_mono (ok' := fun k_ => k_ ≠ gb404) ho0 (fun k_ hk_ => Or.elim hk_ (fun hs_ => fun e_ => Nat.not_le.2 hs_ (by rw [e_]; exact GW404.out)) (fun hn_ => (Kd.freshB (g := gb404) (o := .cells #[.int .i64 a1_0, .bool a1_1, .bool a1_2, .bool a1_3, .bool a1_4] 31 (0, 0)) (by (with_reducible repeat (first | refine blk_drewN ?_ _ | refine blk_drew ?_ | refine blk_alloc ?_ _)); exact BK404.out) k_ hn_)))) (below_size (by repeat (first | (with_reducible first | exact HB.out | apply below_alloc | apply pw_below_drewN | apply below_drew1 | refine below_set ?_ GE404.out) | exact HB.out)))); have n1_ := Aside0.mk (blk_below (g := gb404) (o := .cells #[.int .i64 a1_0, .bool a1_1, .bool a1_2, .bool a1_3, .bool a1_4] 31 (0, 0)) (by (with_reducible repeat (first | refine blk_drewN ?_ _ | refine blk_drew ?_ | refine blk_alloc ?_ _)); exact BK404.out) hb); have n2_ := Aside0.mk (below_step (by repeat (first | (with_reducible first | exact HB.out | apply below_alloc | apply pw_below_drewN | apply below_drew1 | refine below_set ?_ GE404.out) | exact HB.out)) hb); clear BK404; clear HB; have HO408 := n0_; have BK404 := n1_; have HB := n2_; clear n0_ n1_ n2_; (try clear hb); (try clear hb2); (try clear hk); (try clear hi); (try clear ho0)))
      go_loopg [7, 8, 9] k (fun kq v7 v8 v9 w' => ∃ (x7_1 : List (List Int)) (x8_1 : Int) (x9_1 : Int), v8 = .int .i64 x8_1 ∧ v9 = .int .i64 x9_1 ∧ Aside0 (satchellaw04_laid.l0 kq l0 t406 x7_1 x8_1 x9_1 a1_0 a1_1 a1_2 a1_3 a1_4 = some (r1, r2)) ∧ Aside0 (kq ≤ k) ∧ Aside0 (Kd.N (Kd.slice 5 (Kd.int .u8)) 22 w' w.heap.size (fun k_ => some k_ ≠ (v7 : Value).ownBlock ∧ k_ ≠ gb404) v407 t406) ∧ Aside0 (Kd.N (Kd.slice 5 (Kd.int .u8)) 22 w' w.heap.size (fun k_ => some k_ ≠ (v407 : Value).ownBlock ∧ k_ ≠ gb404) v7 x7_1) ∧ Aside0 (w'.heap[gb404]? = some (.cells #[.int .i64 a1_0, .bool a1_1, .bool a1_2, .bool a1_3, .bool a1_4] 31 (0, 0))) ∧ Aside0 (Below w.heap.size w w'))
      case atStart => exact ⟨(([] : List (List Int))), (0), (0), (by first | rfl | (simp; done) | (simp [*]; done)), (by first | rfl | (simp; done) | (simp [*]; done)), H', ⟨Nat.le_refl _⟩, ⟨by (with_reducible repeat (first | apply Kd.N_alloc | apply Kd.N_drewN | apply Kd.N_drew)); exact Kd.N_mono HO408.out (fun _ hk => ⟨(by simp [Value.ownBlock]), hk⟩)⟩, ⟨by first | exact Kd.S_nil _ _ _ _ _ | exact Kd.N_nil _ _ _ _ _ | exact Kd.V_nil _ _ _ _ _ | exact Kd.Q_nil _ _ _ _ _ | exact Kd.R_nil _ _ _ _ _⟩, ⟨by (with_reducible repeat (first | refine blk_drewN ?_ _ | refine blk_drew ?_ | refine blk_alloc ?_ _)); exact BK404.out⟩, ⟨by repeat (first | (with_reducible first | exact HB.out | apply below_alloc | apply pw_below_drewN | apply below_drew1 | refine below_set ?_ GE404.out) | exact HB.out)⟩⟩
      case round =>
        clear H'
        try clear p2
        try clear c4
        try clear c5
        try clear c5b0
        try clear c5b1
        try clear c8
        try clear hcz11_0
        try clear hcz11_1
        try clear hcz11_2
        try clear hcz11_3
        try clear hcz11_4
        try clear hcz13_0
        try clear hcz13_1
        try clear hcz13_2
        try clear hcz13_3
        try clear hcz13_4
        try clear hcz7_0
        try clear hcz7_1
        try clear hcz7_2
        try clear hcz7_3
        try clear hcz7_4
        try clear hfz11_0
        try clear hfz11_1
        try clear hfz11_2
        try clear hfz11_3
        try clear hfz11_4
        try clear hfz13_0
        try clear hfz13_1
        try clear hfz13_2
        try clear hfz13_3
        try clear hfz13_4
        try clear hfz7_0
        try clear hfz7_1
        try clear hfz7_2
        try clear hfz7_3
        try clear hfz7_4
        obtain ⟨x7_1, x8_1, x9_1, rfl, rfl, HA, HK1, HO_6, HO_7, BK404, HB⟩ := hrel
        cases gk with
        | zero => exact absurd HA.out (by simp [satchellaw04_laid.l0])
        | succ k1 =>
          have H := HA.out
          clear HA
          simp only [satchellaw04_laid.l0] at H
          by_cases c15 : x9_1 < (t406.length : Int)
          · rw [if_pos c15] at H
            have c15b0 : decide (x9_1 < (t406.length : Int)) = true := decide_eq_true c15
            clear c15
            by_cases c16 : a1_1 = true
            · subst c16
              have H1 : ((some (([] : List Int) : List Int)).bind fun y409 => (if 0 ≤ x9_1 then (if y409.length + (rd_L1 t406 x9_1).length < 140737488355328 then ((lz_Encode.f (y409 ++ (rd_L1 t406 x9_1)) ([] : List Int)).bind fun bt416 => (if x7_1.length < 5864062014805 then (satchellaw04_laid.l0 k1 l0 t406 (x7_1 ++ [bt416.1]) (wrap64 (x8_1 + ((rd_L1 t406 x9_1).length : Int))) (wrap64 (x9_1 + 1)) a1_0 true a1_2 a1_3 a1_4) else (none))) else (none)) else (none))) = some (r1, r2) := by rw [if_pos rfl] at H; exact H
              clear H
              have H := H1
              clear H1
              obtain ⟨y409, hy409⟩ : ∃ y_ : List Int, y_ = (([] : List Int)) := ⟨_, rfl⟩
              replace H : (if 0 ≤ x9_1 then (if y409.length + (rd_L1 t406 x9_1).length < 140737488355328 then ((lz_Encode.f (y409 ++ (rd_L1 t406 x9_1)) ([] : List Int)).bind fun bt416 => (if x7_1.length < 5864062014805 then (satchellaw04_laid.l0 k1 l0 t406 (x7_1 ++ [bt416.1]) (wrap64 (x8_1 + ((rd_L1 t406 x9_1).length : Int))) (wrap64 (x9_1 + 1)) a1_0 true a1_2 a1_3 a1_4) else (none))) else (none)) else (none)) = some (r1, r2) := by first | (rw [hy409]; with_reducible exact H) | (have H2_ := (Option.bind_some _ _).symm.trans H; rw [hy409]; with_reducible exact H2_) | (have H2_ := (Option.bind_some _ _).symm.trans H; with_reducible exact H2_) | with_reducible exact H | (rw [hy409]; exact H) | exact H
              have Ny409 := Aside0.mk hy409
              clear hy409
              by_cases c17 : 0 ≤ x9_1
              · rw [if_pos c17] at H
                have c17b0 : decide (0 ≤ x9_1) = true := decide_eq_true c17
                clear c17
                by_cases c18 : y409.length + (rd_L1 t406 x9_1).length < 140737488355328
                · rw [if_pos c18] at H
                  have LMc18 := Aside0.mk c18
                  clear c18
                  obtain ⟨y413, hy413⟩ : ∃ y_ : List Int, y_ = (y409 ++ (rd_L1 t406 x9_1)) := ⟨_, rfl⟩
                  replace H : ((lz_Encode.f y413 ([] : List Int)).bind fun bt416 => (if x7_1.length < 5864062014805 then (satchellaw04_laid.l0 k1 l0 t406 (x7_1 ++ [bt416.1]) (wrap64 (x8_1 + ((rd_L1 t406 x9_1).length : Int))) (wrap64 (x9_1 + 1)) a1_0 true a1_2 a1_3 a1_4) else (none))) = some (r1, r2) := by first | (rw [hy413]; with_reducible exact H) | (have H2_ := (Option.bind_some _ _).symm.trans H; rw [hy413]; with_reducible exact H2_) | (have H2_ := (Option.bind_some _ _).symm.trans H; with_reducible exact H2_) | with_reducible exact H | (rw [hy413]; exact H) | exact H
                  have Ny413 := Aside0.mk hy413
                  clear hy413
                  replace H := Option.bind_eq_some_iff.mp H
                  obtain ⟨⟨t416, t417⟩, A190, H⟩ := H
                  replace H : (if x7_1.length < 5864062014805 then (satchellaw04_laid.l0 k1 l0 t406 (x7_1 ++ [t416]) (wrap64 (x8_1 + ((rd_L1 t406 x9_1).length : Int))) (wrap64 (x9_1 + 1)) a1_0 true a1_2 a1_3 a1_4) else (none)) = some (r1, r2) := H
                  have A19 := Aside0.mk A190
                  clear A190
                  by_cases c20 : x7_1.length < 5864062014805
                  · rw [if_pos c20] at H
                    have LMc20 := Aside0.mk c20
                    clear c20
                    obtain ⟨y420, hy420⟩ : ∃ y_ : List (List Int), y_ = (x7_1 ++ [t416]) := ⟨_, rfl⟩
                    replace H : (satchellaw04_laid.l0 k1 l0 t406 y420 (wrap64 (x8_1 + ((rd_L1 t406 x9_1).length : Int))) (wrap64 (x9_1 + 1)) a1_0 true a1_2 a1_3 a1_4) = some (r1, r2) := by first | (rw [hy420]; with_reducible exact H) | (have H2_ := (Option.bind_some _ _).symm.trans H; rw [hy420]; with_reducible exact H2_) | (have H2_ := (Option.bind_some _ _).symm.trans H; with_reducible exact H2_) | with_reducible exact H | (rw [hy420]; exact H) | exact H
                    have Ny420 := Aside0.mk hy420
                    clear hy420
                    have H' := Aside0.mk H
                    clear H
                    obtain ⟨Ao21, co21, eo21⟩ := Kd.N_slice HO_6.out
                    subst eo21
                    have hcz22_0 : wr.cell? ⟨gb404, 0, none⟩ = some (.int .i64 a1_0) := (blk_cell BK404.out 0).trans rfl
                    have hcz22_1 : wr.cell? ⟨gb404, 1, none⟩ = some (.bool true) := (blk_cell BK404.out 1).trans rfl
                    have hcz22_2 : wr.cell? ⟨gb404, 2, none⟩ = some (.bool a1_2) := (blk_cell BK404.out 2).trans rfl
                    have hcz22_3 : wr.cell? ⟨gb404, 3, none⟩ = some (.bool a1_3) := (blk_cell BK404.out 3).trans rfl
                    have hcz22_4 : wr.cell? ⟨gb404, 4, none⟩ = some (.bool a1_4) := (blk_cell BK404.out 4).trans rfl
                    have hfz22_0 := blk_frozen BK404.out 0
                    have hfz22_1 := blk_frozen BK404.out 1
                    have hfz22_2 := blk_frozen BK404.out 2
                    have hfz22_3 := blk_frozen BK404.out 3
                    have hfz22_4 := blk_frozen BK404.out 4
                    go_wp2_with (first | ((with_reducible refine gate_dst (N := 37) rfl ?_); refine Kd.R_lit (Kd.int .u8) _ 5 ?hg (N := 37) ?hd (xs := ([] : List Int)) (inner := []) (ok := fun _ => True) (okp := fun _ => True) ?hr ?hp (fun _ hk => hk) trivial (Below.refl _ _) (Nat.le_refl _) (by simp) ?_; (case hd => rfl); (case hg => rfl); (case hr => first | (go_simp; done) | (go_simp; rfl)); (case hp => exact (Reps.none _ _)); intro v410 w23 ho24 hb hg_ hnew_; clear hg_ hnew_; (first | rw [← Ny409.out] at ho24 | (simp only [Int.reduceToNat] at ho24; rw [← Ny409.out] at ho24)); have n0_ := Aside0.mk (Kd.N_elder' (by (with_reducible repeat (first | apply Kd.N_alloc | apply Kd.N_drewN | apply Kd.N_drew)); exact HO_6.out) (Kd.R_base ho24) hb); have n1_ := Aside0.mk (Kd.N_elder' (by (with_reducible repeat (first | apply Kd.N_alloc | apply Kd.N_drewN | apply Kd.N_drew)); exact HO_7.out) (Kd.R_base ho24) hb); have n2_ := Aside0.mk (Kd.R_lower ho24 (below_size (by repeat (first | (with_reducible first | exact HB.out | apply below_alloc | apply pw_below_drewN | apply below_drew1 | refine below_set ?_ GE404.out) | exact HB.out)))); have n3_ := Aside0.mk (blk_below (g := gb404) (o := .cells #[.int .i64 a1_0, .bool true, .bool a1_2, .bool a1_3, .bool a1_4] 31 (0, 0)) (by (with_reducible repeat (first | refine blk_drewN ?_ _ | refine blk_drew ?_ | refine blk_alloc ?_ _)); exact BK404.out) hb); have n4_ := Aside0.mk (below_step (by repeat (first | (with_reducible first | exact HB.out | apply below_alloc | apply pw_below_drewN | apply below_drew1 | refine below_set ?_ GE404.out) | exact HB.out)) hb); clear HO_6; clear HO_7; clear BK404; clear HB; have HO_6 := n0_; have HO_7 := n1_; have HO411 := n2_; have BK404 := n3_; have HB := n4_; clear n0_ n1_ n2_ n3_ n4_; clear hb ho24; have p412 : 0 ≤ (x9_1 : Int) := of_decide_eq_true (by first | (with_reducible assumption) | assumption); have q412 : x9_1 < (t406.length : Int) := of_decide_eq_true (by first | (with_reducible assumption) | assumption); obtain ⟨ad412, A412_0, c412_0, e412, hx412_0, hl412_0, hi412_0⟩ := at_L1 (Kd.N_reads' HO_6.out).2.2 x9_1 p412 q412; cases e412; obtain ⟨ce412, hce412, hMe412, hcc412⟩ := Kd.N_get HO_6.out [] x9_1 p412 (by first | exact q412 | exact of_decide_eq_true (by first | (with_reducible assumption) | assumption) | (have e_ := (Kd.N_reads' HO_6.out).1; omega)); obtain ⟨ua412_0, uc412_0, rfl, ul412_0, ge412_0⟩ := Kd.FK_slice_open hMe412; have hv412_0 := hcc412 0 _ rfl; rw [Nat.add_zero, show ((Kd.slice 5 (Kd.int .u8))).sz = 1 from rfl, Nat.mul_one] at hv412_0; replace hv412_0 := Option.some.inj (hv412_0.symm.trans hx412_0); injection hv412_0 with hva_ hvn_ hvc_; rw [hva_] at ge412_0; rw [hvc_] at ul412_0; have HL412_0 := Aside0.mk (show Kd.V (Kd.int .u8) 5 _ w.heap.size _ _ (rd_L1 t406 x9_1) from Kd.V_mk ul412_0 ge412_0); clear hva_ hvn_ hvc_ ge412_0 ul412_0; clear hcc412 hce412; have HR412_0 := Aside0.mk hi412_0; have HC412_0 := Aside0.mk hl412_0; clear hi412_0 hl412_0; replace p412 := eq_true p412; replace q412 := eq_true q412) | ((with_reducible refine gate_builtin (b := .append) (xs := #[.tmp 37, .tmp 41]) rfl ?_); at_builtin; refine Kd.R_append_rows (Kd.int .u8) (w0 := w) w.heap.size rfl (.tmp 37) (.tmp 41) 22 5 (.int .u8 0) 1 rfl Try.underlying22 info5 rfl (by decide) (by omega) v410 y409 (rd_L1 t406 x9_1) _ _ _ (fun _ => True) (fun _ => False) rfl rfl ?aO ?aR (fun _ _ h => h) (fun _ h => h.elim) ?aF ?aB ?aS ?aL ?_; (case aR => repeat (first | exact (by repeat (first | (with_reducible exact HR412_0.out) | (with_reducible refine Kd.C_alloc ?_ _) | (with_reducible refine Kd.C_drewN ?_ _) | (with_reducible refine Kd.C_drew ?_) | exact HR412_0.out)) | (with_reducible refine Kd.C_alloc ?_ _) | (with_reducible refine Kd.C_drewN ?_ _) | (with_reducible refine Kd.C_drew ?_))); (case aB => exact (by repeat (first | (with_reducible first | exact HB.out | apply below_alloc | apply pw_below_drewN | apply below_drew1 | refine below_set ?_ GE404.out) | exact HB.out))); (case aF => exact (fun _ _ => trivial)); (case aO => exact (by (with_reducible repeat (first | apply Kd.R_alloc | apply Kd.R_drewN | apply Kd.R_drew)); exact HO411.out)); (case aS => exact (below_size (by repeat (first | (with_reducible first | exact HB.out | apply below_alloc | apply pw_below_drewN | apply below_drew1 | refine below_set ?_ GE404.out) | exact HB.out)))); (case aL => have := LMc18.out; omega); intro v414 w25 ho hb hg hat; rw [← Ny413.out] at ho; have n0_ := Aside0.mk (Kd.N_afterv (ok := (fun k_ => some k_ ≠ (u7 : Value).ownBlock ∧ k_ ≠ gb404)) (by (with_reducible repeat (first | apply Kd.N_alloc | apply Kd.N_drewN | apply Kd.N_drew)); exact HO_6.out) hg hat); have n1_ := Aside0.mk (Kd.N_afterv (ok := (fun k_ => some k_ ≠ (.slice (some ad412) t406.length co21 : Value).ownBlock ∧ k_ ≠ gb404)) (by (with_reducible repeat (first | apply Kd.N_alloc | apply Kd.N_drewN | apply Kd.N_drew)); exact HO_7.out) hg hat); have n2_ := Aside0.mk (blk_grown (g := gb404) (o := .cells #[.int .i64 a1_0, .bool true, .bool a1_2, .bool a1_3, .bool a1_4] 31 (0, 0)) (by (with_reducible repeat (first | refine blk_drewN ?_ _ | refine blk_drew ?_ | refine blk_alloc ?_ _)); exact BK404.out) hg (Kd.R_ne HO411.out BK404.out (by decide))); have n3_ := Aside0.mk (Kd.V_afterv (ok := (fun k_ => some k_ ≠ (.slice (some ad412) t406.length co21 : Value).ownBlock ∧ some k_ ≠ (u7 : Value).ownBlock ∧ k_ ≠ gb404)) (by (with_reducible repeat (first | apply Kd.V_alloc | apply Kd.V_drewN | apply Kd.V_drew)); exact Kd.V_mono HL412_0.out (fun _ hk => ⟨⟨hk.2, ⟨hk.1.1.1, hk.1.1.2⟩⟩, hk.1.2⟩)) hg hat); have n4_ := Aside0.mk (hb); have n5_ := Aside0.mk (ho); clear HO_6; clear HO_7; clear BK404; clear HL412_0; clear HB; clear HO411; have HO_6 := n0_; have HO_7 := n1_; have BK404 := n2_; have HL412_0 := n3_; have HB := n4_; have HO415 := n5_; clear n0_ n1_ n2_ n3_ n4_ n5_; clear ho hb hg hat; obtain ⟨Ao26, co26, eo26⟩ := Kd.R_slice HO415.out; subst eo26) | ((with_reducible refine gate_callee (f := 28) rfl ?_); refine goesL_ (some 44) rfl rfl Try.func28 (by kernel_rfl) rfl #[.slice Ao26 y413.length co26, .slice none 0 0] rfl (by (try simp only [List.map_toArray, List.map_cons, List.map_nil]); first | done | rfl | (simp only [List.length_drop, List.length_take]; rfl)) ?_; (refine (lz_Encode.calls _ _ y413 _ _ ([] : List Int) t416 t417 _ ?side1 ?side2 ?side3 ?side4 A19.out).mono ?_); (case side1 => repeat (first | exact (Kd.R_reads' HO415.out).2.2 | (with_reducible refine Kd.C_alloc ?_ _) | (with_reducible refine Kd.C_drewN ?_ _) | (with_reducible refine Kd.C_drew ?_))); (case side2 => exact (Kd.R_reads' HO415.out).2.1); (case side3 => exact Kd.C_nil _ _); (case side4 => exact Nat.le_refl _); rintro e w27 ⟨v418, rfl, ho0, hb⟩; refine ⟨_, rfl, ?_⟩; have n0_ := Aside0.mk (Kd.N_elder' (by (with_reducible repeat (first | apply Kd.N_alloc | apply Kd.N_drewN | apply Kd.N_drew)); exact HO_6.out) (Kd.R_base ho0) hb); have n1_ := Aside0.mk (Kd.N_elder' (by (with_reducible repeat (first | apply Kd.N_alloc | apply Kd.N_drewN | apply Kd.N_drew)); exact HO_7.out) (Kd.R_base ho0) hb); have n2_ := Aside0.mk (Kd.V_elder' (by (with_reducible repeat (first | apply Kd.V_alloc | apply Kd.V_drewN | apply Kd.V_drew)); exact HL412_0.out) (Kd.R_base ho0) hb); have n3_ := Aside0.mk (Kd.R_elder' (by (with_reducible repeat (first | apply Kd.R_alloc | apply Kd.R_drewN | apply Kd.R_drew)); exact HO415.out) (Kd.R_base ho0) hb); have n4_ := Aside0.mk (Kd.R_lower (Kd.R_new' ho0 (Kd.R_lt (by (with_reducible repeat (first | apply Kd.R_alloc | apply Kd.R_drewN | apply Kd.R_drew)); exact HO415.out))) (below_size (by repeat (first | (with_reducible first | exact HB.out | apply below_alloc | apply pw_below_drewN | apply below_drew1 | refine below_set ?_ GE404.out) | exact HB.out)))); have n5_ := Aside0.mk (blk_below (g := gb404) (o := .cells #[.int .i64 a1_0, .bool true, .bool a1_2, .bool a1_3, .bool a1_4] 31 (0, 0)) (by (with_reducible repeat (first | refine blk_drewN ?_ _ | refine blk_drew ?_ | refine blk_alloc ?_ _)); exact BK404.out) hb); have n6_ := Aside0.mk (below_step (by repeat (first | (with_reducible first | exact HB.out | apply below_alloc | apply pw_below_drewN | apply below_drew1 | refine below_set ?_ GE404.out) | exact HB.out)) hb); clear HO_6; clear HO_7; clear HL412_0; clear HO415; clear BK404; clear HB; have HO_6 := n0_; have HO_7 := n1_; have HL412_0 := n2_; have HO415 := n3_; have HO419 := n4_; have BK404 := n5_; have HB := n6_; clear n0_ n1_ n2_ n3_ n4_ n5_ n6_; (try clear hb); (try clear hb2); (try clear hk); (try clear hi); (try clear ho0); obtain ⟨Ao29, co29, eo29⟩ := Kd.R_slice HO419.out; subst eo29) | ((with_reducible refine gate_builtin (b := .append) (xs := #[.tmp 47, .tmp 49]) rfl ?_); at_builtin; refine Kd.N_append (Kd.slice 5 (Kd.int .u8)) (w0 := w) w.heap.size rfl (.tmp 47) (.tmp 49) 110 22 (.slice none 0 0) 24 rfl Try.underlying110 info22 rfl (by decide) (by omega) u7 x7_1 t416 [.slice Ao29 t416.length co29] (fun k_ => some k_ ≠ (.slice (some ad412) t406.length co21 : Value).ownBlock ∧ some k_ ≠ (.slice Ao26 y413.length co26 : Value).ownBlock ∧ k_ ≠ gb404) (fun k_ => ((fun k_ => some k_ ≠ (.slice (some ad412) t406.length co21 : Value).ownBlock ∧ some k_ ≠ (.slice Ao26 y413.length co26 : Value).ownBlock ∧ k_ ≠ gb404)) k_ ∧ some k_ ≠ (u7 : Value).ownBlock) rfl rfl ?aP (fun _ hk => hk) ?aF ?aO ?aB ?aS ?aL ?_; (case aP => exact (Kd.FK_slice_mk (Kd.R_reads' (Kd.R_mono (ok' := (fun k_ => ((fun k_ => some k_ ≠ (.slice (some ad412) t406.length co21 : Value).ownBlock ∧ some k_ ≠ (.slice Ao26 y413.length co26 : Value).ownBlock ∧ k_ ≠ gb404)) k_ ∧ some k_ ≠ (u7 : Value).ownBlock)) (Kd.R_types (Kd.R_apart' (Kd.R_apart' (HO419.out) (Kd.N_typed HO_6.out) (by decide)) (Kd.N_typed HO_7.out) (by decide)) BK404.out (by decide)) (fun k_ hk => ⟨⟨hk.1.1.2, ⟨hk.1.1.1.2, hk.2⟩⟩, hk.1.2⟩))).2.1 (Kd.R_F (Kd.R_mono (ok' := (fun k_ => ((fun k_ => some k_ ≠ (.slice (some ad412) t406.length co21 : Value).ownBlock ∧ some k_ ≠ (.slice Ao26 y413.length co26 : Value).ownBlock ∧ k_ ≠ gb404)) k_ ∧ some k_ ≠ (u7 : Value).ownBlock)) (Kd.R_types (Kd.R_apart' (Kd.R_apart' (HO419.out) (Kd.N_typed HO_6.out) (by decide)) (Kd.N_typed HO_7.out) (by decide)) BK404.out (by decide)) (fun k_ hk => ⟨⟨hk.1.1.2, ⟨hk.1.1.1.2, hk.2⟩⟩, hk.1.2⟩))))); (case aB => exact (by repeat (first | (with_reducible first | exact HB.out | apply below_alloc | apply pw_below_drewN | apply below_drew1 | refine below_set ?_ GE404.out) | exact HB.out))); (case aF => exact (fun k_ hk => ⟨Kd.fresh' (Kd.N_lt (by (with_reducible repeat (first | apply Kd.N_alloc | apply Kd.N_drewN | apply Kd.N_drew)); exact HO_6.out)) k_ hk, Kd.fresh' (Kd.R_lt (by (with_reducible repeat (first | apply Kd.R_alloc | apply Kd.R_drewN | apply Kd.R_drew)); exact HO415.out)) k_ hk, Kd.freshB (g := gb404) (o := .cells #[.int .i64 a1_0, .bool true, .bool a1_2, .bool a1_3, .bool a1_4] 31 (0, 0)) (by (with_reducible repeat (first | refine blk_drewN ?_ _ | refine blk_drew ?_ | refine blk_alloc ?_ _)); exact BK404.out) k_ hk⟩)); (case aO => exact (by (with_reducible repeat (first | apply Kd.N_alloc | apply Kd.N_drewN | apply Kd.N_drew)); exact Kd.N_mono HO_7.out (fun _ hk => ⟨hk.1.1.1, ⟨hk.1.2, hk.1.1.2⟩⟩))); (case aS => exact (below_size (by repeat (first | (with_reducible first | exact HB.out | apply below_alloc | apply pw_below_drewN | apply below_drew1 | refine below_set ?_ GE404.out) | exact HB.out)))); (case aL => have := LMc20.out; omega); intro v421 w28 ho hb hg hat; rw [← Ny420.out] at ho; have n0_ := Aside0.mk (Kd.N_afterv (ok := (fun k_ => some k_ ≠ (.slice Ao26 y413.length co26 : Value).ownBlock ∧ some k_ ≠ (.slice Ao29 t416.length co29 : Value).ownBlock ∧ k_ ≠ gb404)) (by (with_reducible repeat (first | apply Kd.N_alloc | apply Kd.N_drewN | apply Kd.N_drew)); exact Kd.N_mono HO_6.out (fun _ hk => ⟨⟨hk.1.2, ⟨hk.2, hk.1.1.2⟩⟩, hk.1.1.1⟩)) hg hat); have n1_ := Aside0.mk (blk_grown (g := gb404) (o := .cells #[.int .i64 a1_0, .bool true, .bool a1_2, .bool a1_3, .bool a1_4] 31 (0, 0)) (by (with_reducible repeat (first | refine blk_drewN ?_ _ | refine blk_drew ?_ | refine blk_alloc ?_ _)); exact BK404.out) hg (Kd.N_ne HO_7.out BK404.out (by decide))); have n2_ := Aside0.mk (Kd.V_afterv (ok := (fun k_ => some k_ ≠ (.slice (some ad412) t406.length co21 : Value).ownBlock ∧ some k_ ≠ (.slice Ao26 y413.length co26 : Value).ownBlock ∧ some k_ ≠ (.slice Ao29 t416.length co29 : Value).ownBlock ∧ k_ ≠ gb404)) (by (with_reducible repeat (first | apply Kd.V_alloc | apply Kd.V_drewN | apply Kd.V_drew)); exact Kd.V_mono HL412_0.out (fun _ hk => ⟨⟨hk.1.1.1, ⟨hk.1.2, ⟨hk.2, hk.1.1.2.2⟩⟩⟩, hk.1.1.2.1⟩)) hg hat); have n3_ := Aside0.mk (Kd.R_over' (by (with_reducible repeat (first | apply Kd.R_alloc | apply Kd.R_drewN | apply Kd.R_drew)); exact HO415.out) (Kd.N_typed (by (with_reducible repeat (first | apply Kd.N_alloc | apply Kd.N_drewN | apply Kd.N_drew)); exact HO_7.out)) (by decide) hg); have n4_ := Aside0.mk (hb); have n5_ := Aside0.mk (ho); clear HO_6; clear BK404; clear HL412_0; clear HO415; clear HB; clear HO_7; clear HO419; have HO_6 := n0_; have BK404 := n1_; have HL412_0 := n2_; have HO415 := n3_; have HB := n4_; have HO422 := n5_; clear n0_ n1_ n2_ n3_ n4_ n5_; clear ho hb hg hat; have p423 : 0 ≤ (x9_1 : Int) := of_decide_eq_true (by first | (with_reducible assumption) | assumption); have q423 : x9_1 < (t406.length : Int) := of_decide_eq_true (by first | (with_reducible assumption) | assumption); obtain ⟨ad423, A423_0, c423_0, e423, hx423_0, hl423_0, hi423_0⟩ := at_L1 (Kd.N_reads' HO_6.out).2.2 x9_1 p423 q423; obtain rfl : ad412 = ad423 := (by injection e423); obtain ⟨ce423, hce423, hMe423, hcc423⟩ := Kd.N_get HO_6.out [] x9_1 p423 (by first | exact q423 | exact of_decide_eq_true (by first | (with_reducible assumption) | assumption) | (have e_ := (Kd.N_reads' HO_6.out).1; omega)); obtain ⟨ua423_0, uc423_0, rfl, ul423_0, ge423_0⟩ := Kd.FK_slice_open hMe423; have hv423_0 := hcc423 0 _ rfl; rw [Nat.add_zero, show ((Kd.slice 5 (Kd.int .u8))).sz = 1 from rfl, Nat.mul_one] at hv423_0; replace hv423_0 := Option.some.inj (hv423_0.symm.trans hx423_0); injection hv423_0 with hva_ hvn_ hvc_; rw [hva_] at ge423_0; rw [hvc_] at ul423_0; have HL423_0 := Aside0.mk (show Kd.V (Kd.int .u8) 5 _ w.heap.size _ _ (rd_L1 t406 x9_1) from Kd.V_mk ul423_0 ge423_0); clear hva_ hvn_ hvc_ ge423_0 ul423_0; clear hcc423 hce423; have HR423_0 := Aside0.mk hi423_0; have HC423_0 := Aside0.mk hl423_0; clear hi423_0 hl423_0; replace p423 := eq_true p423; replace q423 := eq_true q423))
                    go_roundg k1
                    case measure => have := HK1.out; omega
                    case rel => exact ⟨(y420), (wrap64 (x8_1 + ((rd_L1 t406 x9_1).length : Int))), (wrap64 (x9_1 + 1)), (by first | rfl | (simp; done) | (simp [*]; done)), (by first | rfl | (simp; done) | (simp [*]; done)), H', ⟨by have := HK1.out; omega⟩, ⟨by (with_reducible repeat (first | apply Kd.N_alloc | apply Kd.N_drewN | apply Kd.N_drew)); exact Kd.N_mono HO_6.out (fun _ hk => ⟨hk.2, hk.1.2.2⟩)⟩, ⟨by (with_reducible repeat (first | apply Kd.N_alloc | apply Kd.N_drewN | apply Kd.N_drew)); exact Kd.N_mono HO422.out (fun _ hk => ⟨hk.1, hk.2.2⟩)⟩, ⟨by (with_reducible repeat (first | refine blk_drewN ?_ _ | refine blk_drew ?_ | refine blk_alloc ?_ _)); exact BK404.out⟩, ⟨by repeat (first | (with_reducible first | exact HB.out | apply below_alloc | apply pw_below_drewN | apply below_drew1 | refine below_set ?_ GE404.out) | exact HB.out)⟩⟩
                  · rw [if_neg c20] at H
                    exact absurd H (by simp)
                · rw [if_neg c18] at H
                  exact absurd H (by simp)
              · rw [if_neg c17] at H
                exact absurd H (by simp)
            · replace c16 := Bool.eq_false_iff.mpr c16
              subst c16
              have H1 : (if 0 ≤ x8_1 then (if x8_1 ≤ (l0.length : Int) then (if ([] : List Int).length + (l0.take (x8_1 : Int).toNat).length < 140737488355328 then ((some (([] : List Int) : List Int)).bind fun y428 => (if 0 ≤ x9_1 then (if y428.length + (rd_L1 t406 x9_1).length < 140737488355328 then ((lz_Encode.f (y428 ++ (rd_L1 t406 x9_1)) (([] : List Int) ++ (l0.take (x8_1 : Int).toNat))).bind fun bt435 => (if x7_1.length < 5864062014805 then (satchellaw04_laid.l0 k1 l0 t406 (x7_1 ++ [bt435.1]) (wrap64 (x8_1 + ((rd_L1 t406 x9_1).length : Int))) (wrap64 (x9_1 + 1)) a1_0 false a1_2 a1_3 a1_4) else (none))) else (none)) else (none))) else (none)) else (none)) else (none)) = some (r1, r2) := by rw [if_neg (show ¬ (false = true) by decide)] at H; exact H
              clear H
              have H := H1
              clear H1
              by_cases c30 : 0 ≤ x8_1
              · rw [if_pos c30] at H
                have c30b0 := eq_true c30
                have c30b1 : decide (0 ≤ x8_1) = true := decide_eq_true c30
                clear c30
                by_cases c31 : x8_1 ≤ (l0.length : Int)
                · rw [if_pos c31] at H
                  have c31b0 := eq_true c31
                  have c31b1 : decide (x8_1 ≤ (l0.length : Int)) = true := decide_eq_true c31
                  clear c31
                  by_cases c32 : ([] : List Int).length + (l0.take (x8_1 : Int).toNat).length < 140737488355328
                  · rw [if_pos c32] at H
                    have LMc32 := Aside0.mk c32
                    clear c32
                    obtain ⟨y425, hy425⟩ : ∃ y_ : List Int, y_ = (([] : List Int) ++ (l0.take (x8_1 : Int).toNat)) := ⟨_, rfl⟩
                    replace H : ((some (([] : List Int) : List Int)).bind fun y428 => (if 0 ≤ x9_1 then (if y428.length + (rd_L1 t406 x9_1).length < 140737488355328 then ((lz_Encode.f (y428 ++ (rd_L1 t406 x9_1)) y425).bind fun bt435 => (if x7_1.length < 5864062014805 then (satchellaw04_laid.l0 k1 l0 t406 (x7_1 ++ [bt435.1]) (wrap64 (x8_1 + ((rd_L1 t406 x9_1).length : Int))) (wrap64 (x9_1 + 1)) a1_0 false a1_2 a1_3 a1_4) else (none))) else (none)) else (none))) = some (r1, r2) := by first | (rw [hy425]; with_reducible exact H) | (have H2_ := (Option.bind_some _ _).symm.trans H; rw [hy425]; with_reducible exact H2_) | (have H2_ := (Option.bind_some _ _).symm.trans H; with_reducible exact H2_) | with_reducible exact H | (rw [hy425]; exact H) | exact H
                    have Ny425 := Aside0.mk hy425
                    clear hy425
                    obtain ⟨y428, hy428⟩ : ∃ y_ : List Int, y_ = (([] : List Int)) := ⟨_, rfl⟩
                    replace H : (if 0 ≤ x9_1 then (if y428.length + (rd_L1 t406 x9_1).length < 140737488355328 then ((lz_Encode.f (y428 ++ (rd_L1 t406 x9_1)) y425).bind fun bt435 => (if x7_1.length < 5864062014805 then (satchellaw04_laid.l0 k1 l0 t406 (x7_1 ++ [bt435.1]) (wrap64 (x8_1 + ((rd_L1 t406 x9_1).length : Int))) (wrap64 (x9_1 + 1)) a1_0 false a1_2 a1_3 a1_4) else (none))) else (none)) else (none)) = some (r1, r2) := by first | (rw [hy428]; with_reducible exact H) | (have H2_ := (Option.bind_some _ _).symm.trans H; rw [hy428]; with_reducible exact H2_) | (have H2_ := (Option.bind_some _ _).symm.trans H; with_reducible exact H2_) | with_reducible exact H | (rw [hy428]; exact H) | exact H
                    have Ny428 := Aside0.mk hy428
                    clear hy428
                    by_cases c33 : 0 ≤ x9_1
                    · rw [if_pos c33] at H
                      have c33b0 : decide (0 ≤ x9_1) = true := decide_eq_true c33
                      clear c33
                      by_cases c34 : y428.length + (rd_L1 t406 x9_1).length < 140737488355328
                      · rw [if_pos c34] at H
                        have LMc34 := Aside0.mk c34
                        clear c34
                        obtain ⟨y432, hy432⟩ : ∃ y_ : List Int, y_ = (y428 ++ (rd_L1 t406 x9_1)) := ⟨_, rfl⟩
                        replace H : ((lz_Encode.f y432 y425).bind fun bt435 => (if x7_1.length < 5864062014805 then (satchellaw04_laid.l0 k1 l0 t406 (x7_1 ++ [bt435.1]) (wrap64 (x8_1 + ((rd_L1 t406 x9_1).length : Int))) (wrap64 (x9_1 + 1)) a1_0 false a1_2 a1_3 a1_4) else (none))) = some (r1, r2) := by first | (rw [hy432]; with_reducible exact H) | (have H2_ := (Option.bind_some _ _).symm.trans H; rw [hy432]; with_reducible exact H2_) | (have H2_ := (Option.bind_some _ _).symm.trans H; with_reducible exact H2_) | with_reducible exact H | (rw [hy432]; exact H) | exact H
                        have Ny432 := Aside0.mk hy432
                        clear hy432
                        replace H := Option.bind_eq_some_iff.mp H
                        obtain ⟨⟨t435, t436⟩, A350, H⟩ := H
                        replace H : (if x7_1.length < 5864062014805 then (satchellaw04_laid.l0 k1 l0 t406 (x7_1 ++ [t435]) (wrap64 (x8_1 + ((rd_L1 t406 x9_1).length : Int))) (wrap64 (x9_1 + 1)) a1_0 false a1_2 a1_3 a1_4) else (none)) = some (r1, r2) := H
                        have A35 := Aside0.mk A350
                        clear A350
                        by_cases c36 : x7_1.length < 5864062014805
                        · rw [if_pos c36] at H
                          have LMc36 := Aside0.mk c36
                          clear c36
                          obtain ⟨y439, hy439⟩ : ∃ y_ : List (List Int), y_ = (x7_1 ++ [t435]) := ⟨_, rfl⟩
                          replace H : (satchellaw04_laid.l0 k1 l0 t406 y439 (wrap64 (x8_1 + ((rd_L1 t406 x9_1).length : Int))) (wrap64 (x9_1 + 1)) a1_0 false a1_2 a1_3 a1_4) = some (r1, r2) := by first | (rw [hy439]; with_reducible exact H) | (have H2_ := (Option.bind_some _ _).symm.trans H; rw [hy439]; with_reducible exact H2_) | (have H2_ := (Option.bind_some _ _).symm.trans H; with_reducible exact H2_) | with_reducible exact H | (rw [hy439]; exact H) | exact H
                          have Ny439 := Aside0.mk hy439
                          clear hy439
                          have H' := Aside0.mk H
                          clear H
                          obtain ⟨Ao37, co37, eo37⟩ := Kd.N_slice HO_6.out
                          subst eo37
                          have hcz38_0 : wr.cell? ⟨gb404, 0, none⟩ = some (.int .i64 a1_0) := (blk_cell BK404.out 0).trans rfl
                          have hcz38_1 : wr.cell? ⟨gb404, 1, none⟩ = some (.bool false) := (blk_cell BK404.out 1).trans rfl
                          have hcz38_2 : wr.cell? ⟨gb404, 2, none⟩ = some (.bool a1_2) := (blk_cell BK404.out 2).trans rfl
                          have hcz38_3 : wr.cell? ⟨gb404, 3, none⟩ = some (.bool a1_3) := (blk_cell BK404.out 3).trans rfl
                          have hcz38_4 : wr.cell? ⟨gb404, 4, none⟩ = some (.bool a1_4) := (blk_cell BK404.out 4).trans rfl
                          have hfz38_0 := blk_frozen BK404.out 0
                          have hfz38_1 := blk_frozen BK404.out 1
                          have hfz38_2 := blk_frozen BK404.out 2
                          have hfz38_3 := blk_frozen BK404.out 3
                          have hfz38_4 := blk_frozen BK404.out 4
                          obtain ⟨i039, hi039, _, hsz39, _⟩ := info_parts info5
                          obtain ⟨hcut39, hA39, hC39⟩ := print_take_of (P := Try.prog) (Value.int .u8) 0 22 5 .i64 Try.underlying22 hi039 hsz39 A0 c0 l0 x8_1 (of_decide_eq_true (by first | (with_reducible assumption) | assumption)) (of_decide_eq_true (by first | (with_reducible assumption) | assumption)) HC0.out
                          have HR424 := Aside0.mk (Kd.C_of_reads (h1 := fun _ => rfl) (hA39 _ (Kd.reads_of_C HR0.out)))
                          have HC424 := Aside0.mk hC39
                          clear hA39 hC39 hi039 hsz39
                          go_wp2_with (first | ((with_reducible refine gate_builtin (b := .append) (xs := #[.tmp 31, .tmp 34]) rfl ?_); at_builtin; refine Kd.R_append_rows (Kd.int .u8) (w0 := w) w.heap.size rfl (.tmp 31) (.tmp 34) 22 5 (.int .u8 0) 1 rfl Try.underlying22 info5 rfl (by decide) (by omega) (.slice none 0 0) ([] : List Int) (l0.take (x8_1 : Int).toNat) _ _ _ (fun _ => True) (fun _ => False) rfl rfl ?aO ?aR (fun _ _ h => h) (fun _ h => h.elim) ?aF ?aB ?aS ?aL ?_; (case aR => first | (have hq_ := HR424.out; rw [show (l0.take (x8_1 : Int).toNat).length = x8_1.toNat from (by rw [List.length_take]; have h_ : (x8_1 : Int) ≤ (l0.length : Int) := of_decide_eq_true (by first | (with_reducible assumption) | assumption); omega)] at hq_; repeat (first | exact (Kd.C_below hq_ HB.out) | (with_reducible refine Kd.C_alloc ?_ _) | (with_reducible refine Kd.C_drewN ?_ _) | (with_reducible refine Kd.C_drew ?_))) | (repeat (first | exact (Kd.C_below HR424.out HB.out) | (with_reducible refine Kd.C_alloc ?_ _) | (with_reducible refine Kd.C_drewN ?_ _) | (with_reducible refine Kd.C_drew ?_)))); (case aB => exact (by repeat (first | (with_reducible first | exact HB.out | apply below_alloc | apply pw_below_drewN | apply below_drew1 | refine below_set ?_ GE404.out) | exact HB.out))); (case aF => exact (fun _ _ => trivial)); (case aO => exact ((Kd.R_nil _ _ _ _ (fun _ => True)))); (case aS => exact (below_size (by repeat (first | (with_reducible first | exact HB.out | apply below_alloc | apply pw_below_drewN | apply below_drew1 | refine below_set ?_ GE404.out) | exact HB.out)))); (case aL => have := LMc32.out; have hlx_ := (show (l0.take (x8_1 : Int).toNat).length = x8_1.toNat from (by rw [List.length_take]; have h_ : (x8_1 : Int) ≤ (l0.length : Int) := of_decide_eq_true (by first | (with_reducible assumption) | assumption); omega)); omega); intro v426 w40 ho hb hg hat; rw [← Ny425.out] at ho; have n0_ := Aside0.mk (Kd.N_afterv (Kd.N_apart_nil (by (with_reducible repeat (first | apply Kd.N_alloc | apply Kd.N_drewN | apply Kd.N_drew)); exact HO_6.out)) hg hat); have n1_ := Aside0.mk (Kd.N_afterv (Kd.N_apart_nil (by (with_reducible repeat (first | apply Kd.N_alloc | apply Kd.N_drewN | apply Kd.N_drew)); exact HO_7.out)) hg hat); have n2_ := Aside0.mk (blk_grown (g := gb404) (o := .cells #[.int .i64 a1_0, .bool false, .bool a1_2, .bool a1_3, .bool a1_4] 31 (0, 0)) (by (with_reducible repeat (first | refine blk_drewN ?_ _ | refine blk_drew ?_ | refine blk_alloc ?_ _)); exact BK404.out) hg (by simp [Value.ownBlock])); have n3_ := Aside0.mk (hb); have n4_ := Aside0.mk (ho); clear HO_6; clear HO_7; clear BK404; clear HB; have HO_6 := n0_; have HO_7 := n1_; have BK404 := n2_; have HB := n3_; have HO427 := n4_; clear n0_ n1_ n2_ n3_ n4_; clear ho hb hg hat) | ((with_reducible refine gate_dst (N := 37) rfl ?_); refine Kd.R_lit (Kd.int .u8) _ 5 ?hg (N := 37) ?hd (xs := ([] : List Int)) (inner := []) (ok := fun _ => True) (okp := fun _ => True) ?hr ?hp (fun _ hk => hk) trivial (Below.refl _ _) (Nat.le_refl _) (by simp) ?_; (case hd => rfl); (case hg => rfl); (case hr => first | (go_simp; done) | (go_simp; rfl)); (case hp => exact (Reps.none _ _)); intro v429 w41 ho42 hb hg_ hnew_; clear hg_ hnew_; (first | rw [← Ny428.out] at ho42 | (simp only [Int.reduceToNat] at ho42; rw [← Ny428.out] at ho42)); have n0_ := Aside0.mk (Kd.N_elder' (by (with_reducible repeat (first | apply Kd.N_alloc | apply Kd.N_drewN | apply Kd.N_drew)); exact HO_6.out) (Kd.R_base ho42) hb); have n1_ := Aside0.mk (Kd.N_elder' (by (with_reducible repeat (first | apply Kd.N_alloc | apply Kd.N_drewN | apply Kd.N_drew)); exact HO_7.out) (Kd.R_base ho42) hb); have n2_ := Aside0.mk (Kd.R_elder' (by (with_reducible repeat (first | apply Kd.R_alloc | apply Kd.R_drewN | apply Kd.R_drew)); exact HO427.out) (Kd.R_base ho42) hb); have n3_ := Aside0.mk (Kd.R_lower (Kd.R_new' ho42 (Kd.R_lt (by (with_reducible repeat (first | apply Kd.R_alloc | apply Kd.R_drewN | apply Kd.R_drew)); exact HO427.out))) (below_size (by repeat (first | (with_reducible first | exact HB.out | apply below_alloc | apply pw_below_drewN | apply below_drew1 | refine below_set ?_ GE404.out) | exact HB.out)))); have n4_ := Aside0.mk (blk_below (g := gb404) (o := .cells #[.int .i64 a1_0, .bool false, .bool a1_2, .bool a1_3, .bool a1_4] 31 (0, 0)) (by (with_reducible repeat (first | refine blk_drewN ?_ _ | refine blk_drew ?_ | refine blk_alloc ?_ _)); exact BK404.out) hb); have n5_ := Aside0.mk (below_step (by repeat (first | (with_reducible first | exact HB.out | apply below_alloc | apply pw_below_drewN | apply below_drew1 | refine below_set ?_ GE404.out) | exact HB.out)) hb); clear HO_6; clear HO_7; clear HO427; clear BK404; clear HB; have HO_6 := n0_; have HO_7 := n1_; have HO427 := n2_; have HO430 := n3_; have BK404 := n4_; have HB := n5_; clear n0_ n1_ n2_ n3_ n4_ n5_; clear hb ho42; have p431 : 0 ≤ (x9_1 : Int) := of_decide_eq_true (by first | (with_reducible assumption) | assumption); have q431 : x9_1 < (t406.length : Int) := of_decide_eq_true (by first | (with_reducible assumption) | assumption); obtain ⟨ad431, A431_0, c431_0, e431, hx431_0, hl431_0, hi431_0⟩ := at_L1 (Kd.N_reads' HO_6.out).2.2 x9_1 p431 q431; cases e431; obtain ⟨ce431, hce431, hMe431, hcc431⟩ := Kd.N_get HO_6.out [] x9_1 p431 (by first | exact q431 | exact of_decide_eq_true (by first | (with_reducible assumption) | assumption) | (have e_ := (Kd.N_reads' HO_6.out).1; omega)); obtain ⟨ua431_0, uc431_0, rfl, ul431_0, ge431_0⟩ := Kd.FK_slice_open hMe431; have hv431_0 := hcc431 0 _ rfl; rw [Nat.add_zero, show ((Kd.slice 5 (Kd.int .u8))).sz = 1 from rfl, Nat.mul_one] at hv431_0; replace hv431_0 := Option.some.inj (hv431_0.symm.trans hx431_0); injection hv431_0 with hva_ hvn_ hvc_; rw [hva_] at ge431_0; rw [hvc_] at ul431_0; have HL431_0 := Aside0.mk (show Kd.V (Kd.int .u8) 5 _ w.heap.size _ _ (rd_L1 t406 x9_1) from Kd.V_mk ul431_0 ge431_0); clear hva_ hvn_ hvc_ ge431_0 ul431_0; clear hcc431 hce431; have HR431_0 := Aside0.mk hi431_0; have HC431_0 := Aside0.mk hl431_0; clear hi431_0 hl431_0; replace p431 := eq_true p431; replace q431 := eq_true q431) | ((with_reducible refine gate_builtin (b := .append) (xs := #[.tmp 37, .tmp 41]) rfl ?_); at_builtin; refine Kd.R_append_rows (Kd.int .u8) (w0 := w) w.heap.size rfl (.tmp 37) (.tmp 41) 22 5 (.int .u8 0) 1 rfl Try.underlying22 info5 rfl (by decide) (by omega) v429 y428 (rd_L1 t406 x9_1) _ _ _ (fun k_ => some k_ ≠ (v426 : Value).ownBlock) (fun _ => False) rfl rfl ?aO ?aR (fun _ _ h => h) (fun _ h => h.elim) ?aF ?aB ?aS ?aL ?_; (case aR => repeat (first | exact (by repeat (first | (with_reducible exact HR431_0.out) | (with_reducible refine Kd.C_alloc ?_ _) | (with_reducible refine Kd.C_drewN ?_ _) | (with_reducible refine Kd.C_drew ?_) | exact HR431_0.out)) | (with_reducible refine Kd.C_alloc ?_ _) | (with_reducible refine Kd.C_drewN ?_ _) | (with_reducible refine Kd.C_drew ?_))); (case aB => exact (by repeat (first | (with_reducible first | exact HB.out | apply below_alloc | apply pw_below_drewN | apply below_drew1 | refine below_set ?_ GE404.out) | exact HB.out))); (case aF => exact (fun k_ hk => Kd.fresh' (Kd.R_lt (by (with_reducible repeat (first | apply Kd.R_alloc | apply Kd.R_drewN | apply Kd.R_drew)); exact HO427.out)) k_ hk)); (case aO => exact (by (with_reducible repeat (first | apply Kd.R_alloc | apply Kd.R_drewN | apply Kd.R_drew)); exact Kd.R_mono HO430.out (fun _ hk => hk.2))); (case aS => exact (below_size (by repeat (first | (with_reducible first | exact HB.out | apply below_alloc | apply pw_below_drewN | apply below_drew1 | refine below_set ?_ GE404.out) | exact HB.out)))); (case aL => have := LMc34.out; omega); intro v433 w43 ho hb hg hat; rw [← Ny432.out] at ho; have n0_ := Aside0.mk (Kd.N_afterv (ok := (fun k_ => some k_ ≠ (u7 : Value).ownBlock ∧ some k_ ≠ (v426 : Value).ownBlock ∧ k_ ≠ gb404)) (by (with_reducible repeat (first | apply Kd.N_alloc | apply Kd.N_drewN | apply Kd.N_drew)); exact Kd.N_mono HO_6.out (fun _ hk => ⟨⟨hk.1.1.1, ⟨hk.1.2, hk.1.1.2⟩⟩, hk.2⟩)) hg hat); have n1_ := Aside0.mk (Kd.N_afterv (ok := (fun k_ => some k_ ≠ (.slice (some ad431) t406.length co37 : Value).ownBlock ∧ some k_ ≠ (v426 : Value).ownBlock ∧ k_ ≠ gb404)) (by (with_reducible repeat (first | apply Kd.N_alloc | apply Kd.N_drewN | apply Kd.N_drew)); exact Kd.N_mono HO_7.out (fun _ hk => ⟨⟨hk.1.1.1, ⟨hk.1.2, hk.1.1.2⟩⟩, hk.2⟩)) hg hat); have n2_ := Aside0.mk (blk_grown (g := gb404) (o := .cells #[.int .i64 a1_0, .bool false, .bool a1_2, .bool a1_3, .bool a1_4] 31 (0, 0)) (by (with_reducible repeat (first | refine blk_drewN ?_ _ | refine blk_drew ?_ | refine blk_alloc ?_ _)); exact BK404.out) hg (Kd.R_ne HO430.out BK404.out (by decide))); have n3_ := Aside0.mk (Kd.R_after (ok := (fun _ => True)) (by (with_reducible repeat (first | apply Kd.R_alloc | apply Kd.R_drewN | apply Kd.R_drew)); exact HO427.out) hg hat); have n4_ := Aside0.mk (Kd.V_afterv (ok := (fun k_ => some k_ ≠ (.slice (some ad431) t406.length co37 : Value).ownBlock ∧ some k_ ≠ (u7 : Value).ownBlock ∧ some k_ ≠ (v426 : Value).ownBlock ∧ k_ ≠ gb404)) (by (with_reducible repeat (first | apply Kd.V_alloc | apply Kd.V_drewN | apply Kd.V_drew)); exact Kd.V_mono HL431_0.out (fun _ hk => ⟨⟨hk.2, ⟨hk.1.1.1.1, ⟨hk.1.1.2, hk.1.1.1.2⟩⟩⟩, hk.1.2⟩)) hg hat); have n5_ := Aside0.mk (hb); have n6_ := Aside0.mk (ho); clear HO_6; clear HO_7; clear BK404; clear HO427; clear HL431_0; clear HB; clear HO430; have HO_6 := n0_; have HO_7 := n1_; have BK404 := n2_; have HO427 := n3_; have HL431_0 := n4_; have HB := n5_; have HO434 := n6_; clear n0_ n1_ n2_ n3_ n4_ n5_ n6_; clear ho hb hg hat; obtain ⟨Ao44, co44, eo44⟩ := Kd.R_slice HO434.out; subst eo44; obtain ⟨Ao45, co45, eo45⟩ := Kd.R_slice HO427.out; subst eo45) | ((with_reducible refine gate_callee (f := 28) rfl ?_); refine goesL_ (some 44) rfl rfl Try.func28 (by kernel_rfl) rfl #[.slice Ao44 y432.length co44, .slice Ao45 y425.length co45] rfl (by (try simp only [List.map_toArray, List.map_cons, List.map_nil]); first | done | rfl | (simp only [List.length_drop, List.length_take]; rfl)) ?_; (with_reducible refine (lz_Encode.calls _ _ y432 _ _ y425 t435 t436 _ ?side1 ?side2 ?side3 ?side4 A35.out).mono ?_); (case side1 => repeat (first | exact (Kd.R_reads' HO434.out).2.2 | (with_reducible refine Kd.C_alloc ?_ _) | (with_reducible refine Kd.C_drewN ?_ _) | (with_reducible refine Kd.C_drew ?_))); (case side2 => exact (Kd.R_reads' HO434.out).2.1); (case side3 => repeat (first | exact (Kd.R_reads' HO427.out).2.2 | (with_reducible refine Kd.C_alloc ?_ _) | (with_reducible refine Kd.C_drewN ?_ _) | (with_reducible refine Kd.C_drew ?_))); (case side4 => exact (Kd.R_reads' HO427.out).2.1); rintro e w46 ⟨v437, rfl, ho0, hb⟩; refine ⟨_, rfl, ?_⟩; have n0_ := Aside0.mk (Kd.N_elder' (by (with_reducible repeat (first | apply Kd.N_alloc | apply Kd.N_drewN | apply Kd.N_drew)); exact HO_6.out) (Kd.R_base ho0) hb); have n1_ := Aside0.mk (Kd.N_elder' (by (with_reducible repeat (first | apply Kd.N_alloc | apply Kd.N_drewN | apply Kd.N_drew)); exact HO_7.out) (Kd.R_base ho0) hb); have n2_ := Aside0.mk (Kd.R_elder' (by (with_reducible repeat (first | apply Kd.R_alloc | apply Kd.R_drewN | apply Kd.R_drew)); exact HO427.out) (Kd.R_base ho0) hb); have n3_ := Aside0.mk (Kd.V_elder' (by (with_reducible repeat (first | apply Kd.V_alloc | apply Kd.V_drewN | apply Kd.V_drew)); exact HL431_0.out) (Kd.R_base ho0) hb); have n4_ := Aside0.mk (Kd.R_elder' (by (with_reducible repeat (first | apply Kd.R_alloc | apply Kd.R_drewN | apply Kd.R_drew)); exact HO434.out) (Kd.R_base ho0) hb); have n5_ := Aside0.mk (Kd.R_lower (Kd.R_new' (Kd.R_new' ho0 (Kd.R_lt (by (with_reducible repeat (first | apply Kd.R_alloc | apply Kd.R_drewN | apply Kd.R_drew)); exact HO427.out))) (Kd.R_lt (by (with_reducible repeat (first | apply Kd.R_alloc | apply Kd.R_drewN | apply Kd.R_drew)); exact HO434.out))) (below_size (by repeat (first | (with_reducible first | exact HB.out | apply below_alloc | apply pw_below_drewN | apply below_drew1 | refine below_set ?_ GE404.out) | exact HB.out)))); have n6_ := Aside0.mk (blk_below (g := gb404) (o := .cells #[.int .i64 a1_0, .bool false, .bool a1_2, .bool a1_3, .bool a1_4] 31 (0, 0)) (by (with_reducible repeat (first | refine blk_drewN ?_ _ | refine blk_drew ?_ | refine blk_alloc ?_ _)); exact BK404.out) hb); have n7_ := Aside0.mk (below_step (by repeat (first | (with_reducible first | exact HB.out | apply below_alloc | apply pw_below_drewN | apply below_drew1 | refine below_set ?_ GE404.out) | exact HB.out)) hb); clear HO_6; clear HO_7; clear HO427; clear HL431_0; clear HO434; clear BK404; clear HB; have HO_6 := n0_; have HO_7 := n1_; have HO427 := n2_; have HL431_0 := n3_; have HO434 := n4_; have HO438 := n5_; have BK404 := n6_; have HB := n7_; clear n0_ n1_ n2_ n3_ n4_ n5_ n6_ n7_; (try clear hb); (try clear hb2); (try clear hk); (try clear hi); (try clear ho0); obtain ⟨Ao48, co48, eo48⟩ := Kd.R_slice HO438.out; subst eo48) | ((with_reducible refine gate_builtin (b := .append) (xs := #[.tmp 47, .tmp 49]) rfl ?_); at_builtin; refine Kd.N_append (Kd.slice 5 (Kd.int .u8)) (w0 := w) w.heap.size rfl (.tmp 47) (.tmp 49) 110 22 (.slice none 0 0) 24 rfl Try.underlying110 info22 rfl (by decide) (by omega) u7 x7_1 t435 [.slice Ao48 t435.length co48] (fun k_ => some k_ ≠ (.slice (some ad431) t406.length co37 : Value).ownBlock ∧ some k_ ≠ (.slice Ao45 y425.length co45 : Value).ownBlock ∧ some k_ ≠ (.slice Ao44 y432.length co44 : Value).ownBlock ∧ k_ ≠ gb404) (fun k_ => ((fun k_ => some k_ ≠ (.slice (some ad431) t406.length co37 : Value).ownBlock ∧ some k_ ≠ (.slice Ao45 y425.length co45 : Value).ownBlock ∧ some k_ ≠ (.slice Ao44 y432.length co44 : Value).ownBlock ∧ k_ ≠ gb404)) k_ ∧ some k_ ≠ (u7 : Value).ownBlock) rfl rfl ?aP (fun _ hk => hk) ?aF ?aO ?aB ?aS ?aL ?_; (case aP => exact (Kd.FK_slice_mk (Kd.R_reads' (Kd.R_mono (ok' := (fun k_ => ((fun k_ => some k_ ≠ (.slice (some ad431) t406.length co37 : Value).ownBlock ∧ some k_ ≠ (.slice Ao45 y425.length co45 : Value).ownBlock ∧ some k_ ≠ (.slice Ao44 y432.length co44 : Value).ownBlock ∧ k_ ≠ gb404)) k_ ∧ some k_ ≠ (u7 : Value).ownBlock)) (Kd.R_types (Kd.R_apart' (Kd.R_apart' (HO438.out) (Kd.N_typed HO_6.out) (by decide)) (Kd.N_typed HO_7.out) (by decide)) BK404.out (by decide)) (fun k_ hk => ⟨⟨hk.1.1.2, ⟨hk.1.1.1.1.2, ⟨hk.1.1.1.2, hk.2⟩⟩⟩, hk.1.2⟩))).2.1 (Kd.R_F (Kd.R_mono (ok' := (fun k_ => ((fun k_ => some k_ ≠ (.slice (some ad431) t406.length co37 : Value).ownBlock ∧ some k_ ≠ (.slice Ao45 y425.length co45 : Value).ownBlock ∧ some k_ ≠ (.slice Ao44 y432.length co44 : Value).ownBlock ∧ k_ ≠ gb404)) k_ ∧ some k_ ≠ (u7 : Value).ownBlock)) (Kd.R_types (Kd.R_apart' (Kd.R_apart' (HO438.out) (Kd.N_typed HO_6.out) (by decide)) (Kd.N_typed HO_7.out) (by decide)) BK404.out (by decide)) (fun k_ hk => ⟨⟨hk.1.1.2, ⟨hk.1.1.1.1.2, ⟨hk.1.1.1.2, hk.2⟩⟩⟩, hk.1.2⟩))))); (case aB => exact (by repeat (first | (with_reducible first | exact HB.out | apply below_alloc | apply pw_below_drewN | apply below_drew1 | refine below_set ?_ GE404.out) | exact HB.out))); (case aF => exact (fun k_ hk => ⟨Kd.fresh' (Kd.N_lt (by (with_reducible repeat (first | apply Kd.N_alloc | apply Kd.N_drewN | apply Kd.N_drew)); exact HO_6.out)) k_ hk, Kd.fresh' (Kd.R_lt (by (with_reducible repeat (first | apply Kd.R_alloc | apply Kd.R_drewN | apply Kd.R_drew)); exact HO427.out)) k_ hk, Kd.fresh' (Kd.R_lt (by (with_reducible repeat (first | apply Kd.R_alloc | apply Kd.R_drewN | apply Kd.R_drew)); exact HO434.out)) k_ hk, Kd.freshB (g := gb404) (o := .cells #[.int .i64 a1_0, .bool false, .bool a1_2, .bool a1_3, .bool a1_4] 31 (0, 0)) (by (with_reducible repeat (first | refine blk_drewN ?_ _ | refine blk_drew ?_ | refine blk_alloc ?_ _)); exact BK404.out) k_ hk⟩)); (case aO => exact (by (with_reducible repeat (first | apply Kd.N_alloc | apply Kd.N_drewN | apply Kd.N_drew)); exact Kd.N_mono HO_7.out (fun _ hk => ⟨hk.1.1.1, ⟨hk.1.1.2.1, ⟨hk.1.2, hk.1.1.2.2⟩⟩⟩))); (case aS => exact (below_size (by repeat (first | (with_reducible first | exact HB.out | apply below_alloc | apply pw_below_drewN | apply below_drew1 | refine below_set ?_ GE404.out) | exact HB.out)))); (case aL => have := LMc36.out; omega); intro v440 w47 ho hb hg hat; rw [← Ny439.out] at ho; have n0_ := Aside0.mk (Kd.N_afterv (ok := (fun k_ => some k_ ≠ (.slice Ao45 y425.length co45 : Value).ownBlock ∧ some k_ ≠ (.slice Ao44 y432.length co44 : Value).ownBlock ∧ some k_ ≠ (.slice Ao48 t435.length co48 : Value).ownBlock ∧ k_ ≠ gb404)) (by (with_reducible repeat (first | apply Kd.N_alloc | apply Kd.N_drewN | apply Kd.N_drew)); exact Kd.N_mono HO_6.out (fun _ hk => ⟨⟨hk.1.1.2.1, ⟨hk.1.2, ⟨hk.2, hk.1.1.2.2⟩⟩⟩, hk.1.1.1⟩)) hg hat); have n1_ := Aside0.mk (blk_grown (g := gb404) (o := .cells #[.int .i64 a1_0, .bool false, .bool a1_2, .bool a1_3, .bool a1_4] 31 (0, 0)) (by (with_reducible repeat (first | refine blk_drewN ?_ _ | refine blk_drew ?_ | refine blk_alloc ?_ _)); exact BK404.out) hg (Kd.N_ne HO_7.out BK404.out (by decide))); have n2_ := Aside0.mk (Kd.R_over' (by (with_reducible repeat (first | apply Kd.R_alloc | apply Kd.R_drewN | apply Kd.R_drew)); exact HO427.out) (Kd.N_typed (by (with_reducible repeat (first | apply Kd.N_alloc | apply Kd.N_drewN | apply Kd.N_drew)); exact HO_7.out)) (by decide) hg); have n3_ := Aside0.mk (Kd.V_afterv (ok := (fun k_ => some k_ ≠ (.slice (some ad431) t406.length co37 : Value).ownBlock ∧ some k_ ≠ (.slice Ao45 y425.length co45 : Value).ownBlock ∧ some k_ ≠ (.slice Ao44 y432.length co44 : Value).ownBlock ∧ some k_ ≠ (.slice Ao48 t435.length co48 : Value).ownBlock ∧ k_ ≠ gb404)) (by (with_reducible repeat (first | apply Kd.V_alloc | apply Kd.V_drewN | apply Kd.V_drew)); exact Kd.V_mono HL431_0.out (fun _ hk => ⟨⟨hk.1.1.1, ⟨hk.1.1.2.2.1, ⟨hk.1.2, ⟨hk.2, hk.1.1.2.2.2⟩⟩⟩⟩, hk.1.1.2.1⟩)) hg hat); have n4_ := Aside0.mk (Kd.R_over' (by (with_reducible repeat (first | apply Kd.R_alloc | apply Kd.R_drewN | apply Kd.R_drew)); exact HO434.out) (Kd.N_typed (by (with_reducible repeat (first | apply Kd.N_alloc | apply Kd.N_drewN | apply Kd.N_drew)); exact HO_7.out)) (by decide) hg); have n5_ := Aside0.mk (hb); have n6_ := Aside0.mk (ho); clear HO_6; clear BK404; clear HO427; clear HL431_0; clear HO434; clear HB; clear HO_7; clear HO438; have HO_6 := n0_; have BK404 := n1_; have HO427 := n2_; have HL431_0 := n3_; have HO434 := n4_; have HB := n5_; have HO441 := n6_; clear n0_ n1_ n2_ n3_ n4_ n5_ n6_; clear ho hb hg hat; have p442 : 0 ≤ (x9_1 : Int) := of_decide_eq_true (by first | (with_reducible assumption) | assumption); have q442 : x9_1 < (t406.length : Int) := of_decide_eq_true (by first | (with_reducible assumption) | assumption); obtain ⟨ad442, A442_0, c442_0, e442, hx442_0, hl442_0, hi442_0⟩ := at_L1 (Kd.N_reads' HO_6.out).2.2 x9_1 p442 q442; obtain rfl : ad431 = ad442 := (by injection e442); obtain ⟨ce442, hce442, hMe442, hcc442⟩ := Kd.N_get HO_6.out [] x9_1 p442 (by first | exact q442 | exact of_decide_eq_true (by first | (with_reducible assumption) | assumption) | (have e_ := (Kd.N_reads' HO_6.out).1; omega)); obtain ⟨ua442_0, uc442_0, rfl, ul442_0, ge442_0⟩ := Kd.FK_slice_open hMe442; have hv442_0 := hcc442 0 _ rfl; rw [Nat.add_zero, show ((Kd.slice 5 (Kd.int .u8))).sz = 1 from rfl, Nat.mul_one] at hv442_0; replace hv442_0 := Option.some.inj (hv442_0.symm.trans hx442_0); injection hv442_0 with hva_ hvn_ hvc_; rw [hva_] at ge442_0; rw [hvc_] at ul442_0; have HL442_0 := Aside0.mk (show Kd.V (Kd.int .u8) 5 _ w.heap.size _ _ (rd_L1 t406 x9_1) from Kd.V_mk ul442_0 ge442_0); clear hva_ hvn_ hvc_ ge442_0 ul442_0; clear hcc442 hce442; have HR442_0 := Aside0.mk hi442_0; have HC442_0 := Aside0.mk hl442_0; clear hi442_0 hl442_0; replace p442 := eq_true p442; replace q442 := eq_true q442))
                          go_roundg k1
                          case measure => have := HK1.out; omega
                          case rel => exact ⟨(y439), (wrap64 (x8_1 + ((rd_L1 t406 x9_1).length : Int))), (wrap64 (x9_1 + 1)), (by first | rfl | (simp; done) | (simp [*]; done)), (by first | rfl | (simp; done) | (simp [*]; done)), H', ⟨by have := HK1.out; omega⟩, ⟨by (with_reducible repeat (first | apply Kd.N_alloc | apply Kd.N_drewN | apply Kd.N_drew)); exact Kd.N_mono HO_6.out (fun _ hk => ⟨hk.2, hk.1.2.2.2⟩)⟩, ⟨by (with_reducible repeat (first | apply Kd.N_alloc | apply Kd.N_drewN | apply Kd.N_drew)); exact Kd.N_mono HO441.out (fun _ hk => ⟨hk.1, hk.2.2.2⟩)⟩, ⟨by (with_reducible repeat (first | refine blk_drewN ?_ _ | refine blk_drew ?_ | refine blk_alloc ?_ _)); exact BK404.out⟩, ⟨by repeat (first | (with_reducible first | exact HB.out | apply below_alloc | apply pw_below_drewN | apply below_drew1 | refine below_set ?_ GE404.out) | exact HB.out)⟩⟩
                        · rw [if_neg c36] at H
                          exact absurd H (by simp)
                      · rw [if_neg c34] at H
                        exact absurd H (by simp)
                    · rw [if_neg c33] at H
                      exact absurd H (by simp)
                  · rw [if_neg c32] at H
                    exact absurd H (by simp)
                · rw [if_neg c31] at H
                  exact absurd H (by simp)
              · rw [if_neg c30] at H
                exact absurd H (by simp)
          · rw [if_neg c15] at H
            have c15b0 : decide (x9_1 < (t406.length : Int)) = false := decide_eq_false c15
            clear c15
            replace H := Option.bind_eq_some_iff.mp H
            obtain ⟨t443, A490, H⟩ := H
            replace H : (some (t443, 0)) = some (r1, r2) := H
            have A49 := Aside0.mk A490
            clear A490
            simp only [Option.some.injEq, Prod.mk.injEq] at H
            obtain ⟨rfl, rfl⟩ := H
            obtain ⟨Ao50, co50, eo50⟩ := Kd.N_slice HO_6.out
            subst eo50
            have hcz51_0 : wr.cell? ⟨gb404, 0, none⟩ = some (.int .i64 a1_0) := (blk_cell BK404.out 0).trans rfl
            have hcz51_1 : wr.cell? ⟨gb404, 1, none⟩ = some (.bool a1_1) := (blk_cell BK404.out 1).trans rfl
            have hcz51_2 : wr.cell? ⟨gb404, 2, none⟩ = some (.bool a1_2) := (blk_cell BK404.out 2).trans rfl
            have hcz51_3 : wr.cell? ⟨gb404, 3, none⟩ = some (.bool a1_3) := (blk_cell BK404.out 3).trans rfl
            have hcz51_4 : wr.cell? ⟨gb404, 4, none⟩ = some (.bool a1_4) := (blk_cell BK404.out 4).trans rfl
            have hfz51_0 := blk_frozen BK404.out 0
            have hfz51_1 := blk_frozen BK404.out 1
            have hfz51_2 := blk_frozen BK404.out 2
            have hfz51_3 := blk_frozen BK404.out 3
            have hfz51_4 := blk_frozen BK404.out 4
            obtain ⟨Ao52, co52, eo52⟩ := Kd.N_slice HO_7.out
            subst eo52
            go_wp2_with (first | ((with_reducible refine gate_callee (f := 83) rfl ?_); refine goesL_ (some 61) rfl rfl Try.func83 (by kernel_rfl) rfl #[.slice A0 l0.length c0, .agg #[.int .i64 a1_0, .bool a1_1, .bool a1_2, .bool a1_3, .bool a1_4], .slice Ao52 x7_1.length co52] rfl (by (try simp only [List.map_toArray, List.map_cons, List.map_nil]); first | done | rfl | (simp only [List.length_drop, List.length_take]; rfl)) ?_; (with_reducible refine (satchelref04_Lay.calls k1 _ _ l0 a1_0 a1_1 a1_2 a1_3 a1_4 _ _ x7_1 t443 _ ?side1 ?side2 ?side3 ?side4 A49.out).mono ?_); (case side1 => repeat (first | exact (Kd.C_below HR0.out HB.out) | (with_reducible refine Kd.C_alloc ?_ _) | (with_reducible refine Kd.C_drewN ?_ _) | (with_reducible refine Kd.C_drew ?_))); (case side2 => exact HC0.out); (case side3 => repeat (first | exact (Kd.N_reads' HO_7.out).2.2 | (with_reducible refine Kd.C_alloc ?_ _) | (with_reducible refine Kd.C_drewN ?_ _) | (with_reducible refine Kd.C_drew ?_))); (case side4 => exact (Kd.N_reads' HO_7.out).2.1); rintro e w53 ⟨v444, rfl, ho0, hb⟩; refine ⟨_, rfl, ?_⟩; have n0_ := Aside0.mk (Kd.N_elder' (by (with_reducible repeat (first | apply Kd.N_alloc | apply Kd.N_drewN | apply Kd.N_drew)); exact HO_6.out) (Kd.R_base ho0) hb); have n1_ := Aside0.mk (Kd.N_elder' (by (with_reducible repeat (first | apply Kd.N_alloc | apply Kd.N_drewN | apply Kd.N_drew)); exact HO_7.out) (Kd.R_base ho0) hb); have n2_ := Aside0.mk (Kd.R_lower ho0 (below_size (by repeat (first | (with_reducible first | exact HB.out | apply below_alloc | apply pw_below_drewN | apply below_drew1 | refine below_set ?_ GE404.out) | exact HB.out)))); have n3_ := Aside0.mk (blk_below (g := gb404) (o := .cells #[.int .i64 a1_0, .bool a1_1, .bool a1_2, .bool a1_3, .bool a1_4] 31 (0, 0)) (by (with_reducible repeat (first | refine blk_drewN ?_ _ | refine blk_drew ?_ | refine blk_alloc ?_ _)); exact BK404.out) hb); have n4_ := Aside0.mk (below_step (by repeat (first | (with_reducible first | exact HB.out | apply below_alloc | apply pw_below_drewN | apply below_drew1 | refine below_set ?_ GE404.out) | exact HB.out)) hb); clear HO_6; clear HO_7; clear BK404; clear HB; have HO_6 := n0_; have HO_7 := n1_; have HO445 := n2_; have BK404 := n3_; have HB := n4_; clear n0_ n1_ n2_ n3_ n4_; (try clear hb); (try clear hb2); (try clear hk); (try clear hi); (try clear ho0)))
            go_ret2
            exact ⟨_, by first | rfl | (simp [errW_none, errW_some] <;> rfl) | (simp [*, errW_none, errW_some] <;> rfl), by (with_reducible repeat (first | apply Kd.R_alloc | apply Kd.R_drewN | apply Kd.R_drew)); exact HO445.out, by repeat (first | (with_reducible first | exact HB.out | apply below_alloc | apply pw_below_drewN | apply below_drew1 | refine below_set ?_ GE404.out) | exact HB.out)⟩
  · replace c4 := Bool.eq_false_iff.mpr c4
    subst c4
    have H1 : (some (([] : List Int), 1)) = some (r1, r2) := by rw [if_neg (show ¬ (false = true) by decide)] at H; exact H
    clear H
    have H := H1
    clear H1
    simp only [Option.some.injEq, Prod.mk.injEq] at H
    obtain ⟨rfl, rfl⟩ := H
    go_enter Try.func41, Try.ntmps41
    go_wp2_with (first | ((with_reducible refine gate_dst (N := 3) rfl ?_); refine box_event ?hg (N := 3) ?hd (cs := #[.int .i64 a1_0, .bool a1_1, .bool a1_2, .bool a1_3, .bool a1_4]) (t := 31) ?hr ?_; (case hd => rfl); (case hg => rfl); (case hr => first | (go_simp; done) | (go_simp; rfl)); intro gb404 hg w54 hbox hb; have n0_ := Aside0.mk (below_step (by repeat (first | (with_reducible first | exact HB.out | apply below_alloc | apply pw_below_drewN | apply below_drew1) | exact HB.out)) hb); have n1_ := Aside0.mk (hbox); have n2_ := Aside0.mk ((by rw [hg]; exact (below_size (by repeat (first | (with_reducible first | exact HB.out | apply below_alloc | apply pw_below_drewN | apply below_drew1) | exact HB.out))) : w.heap.size ≤ gb404)); have n3_ := Aside0.mk ((by rw [hg]; exact (below_size (by repeat (first | (with_reducible first | exact HB.out | apply below_alloc | apply pw_below_drewN | apply below_drew1) | exact HB.out))) : w.heap.size ≤ gb404)); clear HB; have HB := n0_; have BK404 := n1_; have GW404 := n2_; have GE404 := n3_; clear n0_ n1_ n2_ n3_; clear hb hbox hg; have hcz55_0 : w54.cell? ⟨gb404, 0, none⟩ = some (.int .i64 a1_0) := (blk_cell BK404.out 0).trans rfl; have hcz55_1 : w54.cell? ⟨gb404, 1, none⟩ = some (.bool a1_1) := (blk_cell BK404.out 1).trans rfl; have hcz55_2 : w54.cell? ⟨gb404, 2, none⟩ = some (.bool a1_2) := (blk_cell BK404.out 2).trans rfl; have hcz55_3 : w54.cell? ⟨gb404, 3, none⟩ = some (.bool a1_3) := (blk_cell BK404.out 3).trans rfl; have hcz55_4 : w54.cell? ⟨gb404, 4, none⟩ = some (.bool a1_4) := (blk_cell BK404.out 4).trans rfl; have hfz55_0 := blk_frozen BK404.out 0; have hfz55_1 := blk_frozen BK404.out 1; have hfz55_2 := blk_frozen BK404.out 2; have hfz55_3 := blk_frozen BK404.out 3; have hfz55_4 := blk_frozen BK404.out 4) | ((with_reducible refine gate_callee (f := 81) rfl ?_); refine goesL_ (some 14) rfl rfl Try.func81 (by kernel_rfl) rfl #[.agg #[.int .i64 a1_0, .bool a1_1, .bool a1_2, .bool a1_3, .bool a1_4]] rfl (by (try simp only [List.map_toArray, List.map_cons, List.map_nil]); first | done | rfl | (simp only [List.length_drop, List.length_take]; rfl)) ?_; (with_reducible refine (satchelref04_Can.calls a1_0 a1_1 a1_2 a1_3 a1_4 false _ A3.out).mono ?_); rintro e w56 ⟨rfl, hb⟩; refine ⟨_, rfl, ?_⟩; have n0_ := Aside0.mk (blk_below (g := gb404) (o := .cells #[.int .i64 a1_0, .bool a1_1, .bool a1_2, .bool a1_3, .bool a1_4] 31 (0, 0)) (by (with_reducible repeat (first | refine blk_drewN ?_ _ | refine blk_drew ?_ | refine blk_alloc ?_ _)); exact BK404.out) hb); have n1_ := Aside0.mk (below_step (by repeat (first | (with_reducible first | exact HB.out | apply below_alloc | apply pw_below_drewN | apply below_drew1 | refine below_set ?_ GE404.out) | exact HB.out)) hb); clear BK404; clear HB; have BK404 := n0_; have HB := n1_; clear n0_ n1_; (try clear hb); (try clear hb2); (try clear hk); (try clear hi)))
    go_ret2
    exact ⟨_, by first | rfl | (simp [errW_none, errW_some] <;> rfl) | (simp [*, errW_none, errW_some] <;> rfl), by first | exact Kd.R_nil _ _ _ _ _ | exact Kd.N_nil _ _ _ _ _ | exact Kd.V_nil _ _ _ _ _ | exact Kd.Q_nil _ _ _ _ _ | exact Kd.S_nil _ _ _ _ _, by repeat (first | (with_reducible first | exact HB.out | apply below_alloc | apply pw_below_drewN | apply below_drew1 | refine below_set ?_ GE404.out) | exact HB.out)⟩

end Go.Proofs.Ytnomebkdhjigjaa.GFrameEncodes
/- Texts of mine made one: Lc, Ld, Le, Lf, Lv. -/
/- The four functions that lz.Decode hands to walk, as contracts over what the player holds. -/
namespace Go.Proofs.Ytnomebkdhjigjaa.W
open Go.RowKit Go.Proofs.YtnomebkdhjigjaaW.PrintWords Go.Proofs.YtnomebkdhjigjaaW.PrintLast Go.Proofs.YtnomebkdhjigjaaW.PrintMore
set_option linter.unusedVariables false
set_option linter.unusedSimpArgs false
def numS (b : List Int) (n : Int) (k : Nat) : Int := match num b n k with
  | none => 0
  | some (s, _) => s
def numE (b : List Int) (n : Int) (k : Nat) : Int := match num b n k with
  | none => 4
  | some _ => 0
/-- A block's decoding from a place on: the place, the error, what came out. -/
def dec (b : List Int) (bg most : Int) : Nat → Nat → List Int → Int × Int × List Int
  | 0, _, all => (0, 0, all)
  | f + 1, k, all =>
    if k = b.length then ((b.length : Int), 4, all) else
    if numE b (b.getD k 0 / 16) (k + 1) ≠ 0 then ((b.length : Int), 4, all) else
    if roomE all bg most (numS b (b.getD k 0 / 16) (k + 1)) ≠ 0 then ((moreK b (b.getD k 0 / 16) (k + 1) : Nat), 32, all) else
    if numS b (b.getD k 0 / 16) (k + 1) > (b.length : Int) - (moreK b (b.getD k 0 / 16) (k + 1) : Nat) then ((b.length : Int), 4, all) else
    dec2 b bg most k (moreK b (b.getD k 0 / 16) (k + 1) + (numS b (b.getD k 0 / 16) (k + 1)).toNat) (all ++ (b.take (moreK b (b.getD k 0 / 16) (k + 1) + (numS b (b.getD k 0 / 16) (k + 1)).toNat)).drop (moreK b (b.getD k 0 / 16) (k + 1))) (dec b bg most f)
where
  dec2 (b : List Int) (bg most : Int) (k k2 : Nat) (all : List Int) (go : Nat → List Int → Int × Int × List Int) : Int × Int × List Int :=
    if k2 = b.length then (if b.getD k 0 % 16 ≠ 0 then ((k : Int), 31, all) else (0, 0, all)) else
    if (b.length : Int) - (k2 : Int) < 2 then ((b.length : Int), 4, all) else
    if b.getD k2 0 + b.getD (k2 + 1) 0 * 256 = 0 then ((k2 : Int), 30, all) else
    if b.getD k2 0 + b.getD (k2 + 1) 0 * 256 > (all.length : Int) then ((k2 : Int), 30, all) else
    if numE b (b.getD k 0 % 16) (k2 + 2) ≠ 0 then ((b.length : Int), 4, all) else
    if roomE all bg most (numS b (b.getD k 0 % 16) (k2 + 2) + 4) ≠ 0 then ((k2 : Int), 32, all) else
    go (moreK b (b.getD k 0 % 16) (k2 + 2)) (copied (b.getD k2 0 + b.getD (k2 + 1) 0 * 256).toNat (numS b (b.getD k 0 % 16) (k2 + 2) + 4).toNat all)
end Go.Proofs.Ytnomebkdhjigjaa.W
/- Contract of lz.Decode: what comes out, the place and the error, as a plain function of the bytes, the bytes ahead and the bound. Conditions: fewer than 2^40 bytes, bytes are bytes. -/
namespace Go.Proofs.Ytnomebkdhjigjaa.W
open Go.RowKit Go.Proofs.YtnomebkdhjigjaaW.PrintWords Go.Proofs.YtnomebkdhjigjaaW.PrintLast Go.Proofs.YtnomebkdhjigjaaW.PrintMore
set_option linter.unusedVariables false
set_option linter.unusedSimpArgs false
/-- Decode, as a plain function. -/
def decode (b ahead : List Int) (most : Int) : List Int × Int × Int :=
  if most < 0 ∨ most > 4194304 then ([], 0, 1) else
  if (dec b (window ahead).length most (b.length + 1) 0 (window ahead)).2.1 ≠ 0 then ([], (dec b (window ahead).length most (b.length + 1) 0 (window ahead)).1, (dec b (window ahead).length most (b.length + 1) 0 (window ahead)).2.1) else
  ((dec b (window ahead).length most (b.length + 1) 0 (window ahead)).2.2.drop (window ahead).length, 0, 0)
end Go.Proofs.Ytnomebkdhjigjaa.W
/- lz.Decode's contract in the print's form; what comes out is bounded: plain facts. -/
/- The four functions that lz.Parse hands to walk, as contracts over the sequences so far. -/
/- lz's walk at Parse's four functions: what it answers and the sequences behind it, as a plain function. -/
namespace Go.Proofs.Ytnomebkdhjigjaa.W
open Go.RowKit Go.Proofs.Ytnomebkdhjigjaa.Z Go.Proofs.YtnomebkdhjigjaaW.PrintWords Go.Proofs.YtnomebkdhjigjaaW.PrintLast Go.Proofs.YtnomebkdhjigjaaW.PrintMore
set_option linter.unusedVariables false
set_option linter.unusedSimpArgs false
/-- A block's sequences from a place on: the place, the error, the sequences. -/
def prs (b : List Int) : Nat → Nat → List S44 → Int × Int × List S44
  | 0, _, L => (0, 0, L)
  | f + 1, k, L =>
    if k = b.length then ((b.length : Int), 4, L) else
    if numE b (b.getD k 0 / 16) (k + 1) ≠ 0 then ((b.length : Int), 4, L) else
    if numS b (b.getD k 0 / 16) (k + 1) > (b.length : Int) - (moreK b (b.getD k 0 / 16) (k + 1) : Nat) then ((b.length : Int), 4, L) else
    prs2 b k (moreK b (b.getD k 0 / 16) (k + 1) + (numS b (b.getD k 0 / 16) (k + 1)).toNat) L ((b.take (moreK b (b.getD k 0 / 16) (k + 1) + (numS b (b.getD k 0 / 16) (k + 1)).toNat)).drop (moreK b (b.getD k 0 / 16) (k + 1))) (prs b f)
where
  prs2 (b : List Int) (k k2 : Nat) (L : List S44) (xs : List Int) (go : Nat → List S44 → Int × Int × List S44) : Int × Int × List S44 :=
    if k2 = b.length then (if b.getD k 0 % 16 ≠ 0 then ((k : Int), 31, L) else (0, 0, L ++ [⟨xs, 0, 0⟩])) else
    if (b.length : Int) - (k2 : Int) < 2 then ((b.length : Int), 4, L) else
    if b.getD k2 0 + b.getD (k2 + 1) 0 * 256 = 0 then ((k2 : Int), 30, L) else
    if numE b (b.getD k 0 % 16) (k2 + 2) ≠ 0 then ((b.length : Int), 4, L) else
    go (moreK b (b.getD k 0 % 16) (k2 + 2)) (L ++ [⟨xs, b.getD k2 0 + b.getD (k2 + 1) 0 * 256, numS b (b.getD k 0 % 16) (k2 + 2) + 4⟩])
end Go.Proofs.Ytnomebkdhjigjaa.W
/- Contract of lz.Parse: the sequences, each in memory of its own, the place and the error, as a plain function of the bytes. Conditions: fewer than 2^40 bytes, bytes are bytes. -/
namespace Go.Proofs.Ytnomebkdhjigjaa.W
open Go.RowKit Go.Proofs.Ytnomebkdhjigjaa.Z Go.Proofs.YtnomebkdhjigjaaW.PrintWords Go.Proofs.YtnomebkdhjigjaaW.PrintLast Go.Proofs.YtnomebkdhjigjaaW.PrintMore
set_option linter.unusedVariables false
set_option linter.unusedSimpArgs false
def parse (b : List Int) : List S44 × Int × Int := if (prs b (b.length + 1) 0 []).2.1 ≠ 0 then ([], (prs b (b.length + 1) 0 []).1, (prs b (b.length + 1) 0 []).2.1) else ((prs b (b.length + 1) 0 []).2.2, 0, 0)
end Go.Proofs.Ytnomebkdhjigjaa.W
/- Sequences in memory of their own are read as a list. -/
/- How long what Parse tells is: plain facts. -/
/- One form: what is parsed is made again, what is made is parsed again, Decode is Play of Parse: plain facts. -/
namespace Go.Proofs.Ytnomebkdhjigjaa.W
open Go.RowKit Go.Proofs.Ytnomebkdhjigjaa.Z Go.Proofs.Ytnomebkdhjigjaa.MLzDecodes Go.Proofs.YtnomebkdhjigjaaW.PrintWords Go.Proofs.YtnomebkdhjigjaaW.PrintLast Go.Proofs.YtnomebkdhjigjaaW.PrintMore
set_option linter.unusedVariables false
set_option linter.unusedSimpArgs false
theorem ext_numN : ∀ (n : Nat) (rest : List Int), ext (numN n ++ rest) = some ((n : Int), (numN n).length) := by
  intro n
  induction n using Nat.strongRecOn with
  | _ n ih =>
    intro rest
    by_cases c : n < 255
    · rw [numN_small n c, List.singleton_append, ext, if_pos (by omega)]
      rfl
    · rw [numN_more n (by omega), List.cons_append, ext, if_neg (by omega), ih (n - 255) (by omega)]
      show some ((255 : Int) + ((n - 255 : Nat) : Int), (numN (n - 255)).length + 1) = some ((n : Int), (numN (n - 255)).length + 1)
      have : (255 : Int) + ((n - 255 : Nat) : Int) = (n : Int) := by omega
      rw [this]
theorem ext_inv : ∀ (l : List Int) (s : Int) (k : Nat), Byt l → ext l = some (s, k) → 0 ≤ s ∧ l = numN s.toNat ++ l.drop k := by
  intro l
  induction l with
  | nil => intro s k _ h; cases h
  | cons x r ih =>
    intro s k hb h
    have h0 := hb 0
    simp at h0
    rw [ext] at h
    by_cases c : x < 255
    · rw [if_pos c] at h
      cases h
      refine ⟨h0.1, ?_⟩
      rw [numN_small _ (by omega)]
      have : ((x.toNat : Nat) : Int) = x := by omega
      rw [this]
      rfl
    · rw [if_neg c] at h
      cases e : ext r with
      | none => rw [e] at h; cases h
      | some p =>
        obtain ⟨s', k'⟩ := p
        rw [e] at h
        cases h
        obtain ⟨h1, h2⟩ := ih s' k' (hb.drop 1) e
        have hx : x = 255 := by omega
        subst hx
        refine ⟨by omega, ?_⟩
        rw [numN_more _ (by omega)]
        have : ((255 : Int) + s').toNat - 255 = s'.toNat := by omega
        rw [this, List.cons_append, List.drop_succ_cons, ← h2]
theorem half_num (n : Int) (h : 0 ≤ n) (b rest : List Int) (k : Nat) (hd : b.drop k = ext255 n ++ rest) : num b (half n) k = some (n, k + (ext255 n).length) := by
  unfold half ext255 at *
  by_cases c : n < 15
  · rw [if_pos c] at hd
    rw [if_pos c, if_pos c]
    unfold num
    rw [if_pos c]
    rfl
  · rw [if_neg c] at hd
    rw [if_neg c, if_neg c]
    unfold num
    rw [if_neg (by decide), hd, ext_numN]
    show some ((15 : Int) + (((n - 15).toNat : Nat) : Int), k + _) = _
    have : (15 : Int) + (((n - 15).toNat : Nat) : Int) = n := by omega
    rw [this]
theorem num_inv {b : List Int} {h s : Int} {k j : Nat} (hb : Byt b) (h0 : 0 ≤ h) (h1 : h ≤ 15) (hn : num b h k = some (s, j)) : half s = h ∧ 0 ≤ s ∧ k ≤ j ∧ b.drop k = ext255 s ++ b.drop j := by
  unfold num at hn
  by_cases c : h < 15
  · rw [if_pos c] at hn
    cases hn
    refine ⟨if_pos c, h0, Nat.le_refl _, ?_⟩
    unfold ext255
    rw [if_pos c]
    rfl
  · rw [if_neg c] at hn
    cases e : ext (b.drop k) with
    | none => rw [e] at hn; cases hn
    | some p =>
      obtain ⟨s', k'⟩ := p
      rw [e] at hn
      cases hn
      obtain ⟨h2, h3⟩ := ext_inv _ _ _ (hb.drop k) e
      have hh : h = 15 := by omega
      subst hh
      refine ⟨if_neg (by omega), by omega, by omega, ?_⟩
      unfold ext255
      rw [if_neg (by omega)]
      have : ((15 : Int) + s' - 15).toNat = s'.toNat := by omega
      rw [this, ← List.drop_drop]
      exact h3
theorem numE_zero {b : List Int} {n : Int} {k : Nat} (h : numE b n k = 0) : num b n k = some (numS b n k, moreK b n k) := by
  unfold numE numS moreK at *
  cases e : num b n k with
  | none => rw [e] at h; cases h
  | some p => rfl
theorem num_some {b : List Int} {n s : Int} {k j : Nat} (h : num b n k = some (s, j)) : numE b n k = 0 ∧ numS b n k = s ∧ moreK b n k = j := by
  unfold numE numS moreK
  rw [h]
  exact ⟨rfl, rfl, rfl⟩
theorem drop_cons {b : List Int} {k : Nat} (h : k < b.length) : b.drop k = b.getD k 0 :: b.drop (k + 1) := by
  rw [List.getD_eq_getElem?_getD, List.getElem?_eq_getElem h]
  exact List.drop_eq_getElem_cons h
theorem getD_of_drop {b : List Int} {k : Nat} {x : Int} {r : List Int} (h : b.drop k = x :: r) : k < b.length ∧ b.getD k 0 = x ∧ b.drop (k + 1) = r := by
  have hk : k < b.length := by
    rcases Nat.lt_or_ge k b.length with h1 | h1
    · exact h1
    · rw [List.drop_of_length_le h1] at h; cases h
  rw [drop_cons hk] at h
  injection h with h1 h2
  exact ⟨hk, h1, h2⟩
/-- What is parsed: made, its bytes, how it is played. -/
theorem prs_inv (b : List Int) (hb : Byt b) : ∀ (f k : Nat) (L L' : List S44) (a : Int), k ≤ b.length → b.length < f + k → prs b f k L = (a, 0, L') →
    ∃ T, L' = L ++ T ∧ madeP T = true ∧ b.drop k = T.flatMap putP ∧ (∀ s ∈ T, s.f2 ≤ 19 + 255 * (b.length : Int)) ∧ ∀ (bg most : Int) (all : List Int), (dec b bg most f k all).2 = ((playL bg most T all).1, (playL bg most T all).2) ∨ ((dec b bg most f k all).2.1 ≠ 0 ∧ (dec b bg most f k all).2.1 = (playL bg most T all).1) := by
  intro f
  induction f with
  | zero => intro k L L' a hk hf h; omega
  | succ f ih =>
    intro k L L' a hk hf h
    rw [prs] at h
    by_cases c1 : k = b.length
    · rw [if_pos c1] at h; injection h with _ h; injection h with h _; cases h
    rw [if_neg c1] at h
    have hkl : k < b.length := by omega
    have hx := hb k
    by_cases c2 : numE b (b.getD k 0 / 16) (k + 1) ≠ 0
    · rw [if_pos c2] at h; injection h with _ h; injection h with h _; cases h
    rw [if_neg c2] at h
    have hn := numE_zero (Classical.not_not.1 c2)
    have hfa := num_bound hb (by omega) (by omega) (show k + 1 ≤ b.length by omega) hn
    have hi := num_inv hb (by omega) (by omega) hn
    by_cases c3 : numS b (b.getD k 0 / 16) (k + 1) > (b.length : Int) - (moreK b (b.getD k 0 / 16) (k + 1) : Nat)
    · rw [if_pos c3] at h; injection h with _ h; injection h with h _; cases h
    rw [if_neg c3] at h
    have hdec : ∀ bg most all, dec b bg most (f + 1) k all = if roomE all bg most (numS b (b.getD k 0 / 16) (k + 1)) ≠ 0 then (((moreK b (b.getD k 0 / 16) (k + 1) : Nat) : Int), 32, all) else
        dec.dec2 b bg most k (moreK b (b.getD k 0 / 16) (k + 1) + (numS b (b.getD k 0 / 16) (k + 1)).toNat) (all ++ (b.take (moreK b (b.getD k 0 / 16) (k + 1) + (numS b (b.getD k 0 / 16) (k + 1)).toNat)).drop (moreK b (b.getD k 0 / 16) (k + 1))) (dec b bg most f) := by
      intro bg most all
      rw [dec, if_neg c1, if_neg c2, if_neg c3]
    have hd := drop_cons hkl
    clear c1 c2 hn
    generalize numS b (b.getD k 0 / 16) (k + 1) = n at *
    generalize moreK b (b.getD k 0 / 16) (k + 1) = j at *
    obtain ⟨k2, hk2⟩ : ∃ k2, k2 = j + n.toNat := ⟨_, rfl⟩
    have hk2l : k2 ≤ b.length := by omega
    rw [← hk2] at h
    obtain ⟨xs, hxs⟩ : ∃ xs, xs = (b.take k2).drop j := ⟨_, rfl⟩
    rw [← hxs] at h
    have hxl : (xs.length : Int) = n := by rw [hxs, List.length_drop, List.length_take]; omega
    have hjs : b.drop j = xs ++ b.drop k2 := by
      rw [hxs, show b.drop k2 = (b.drop j).drop (k2 - j) by rw [List.drop_drop]; congr 1; omega, List.drop_take, List.take_append_drop]
    simp only [← hk2, ← hxs] at hdec
    rw [hi.2.2.2, hjs] at hd
    unfold prs.prs2 at h
    by_cases c4 : k2 = b.length
    · rw [if_pos c4] at h
      by_cases c5 : b.getD k 0 % 16 ≠ 0
      · rw [if_pos c5] at h; injection h with _ h; injection h with h _; cases h
      rw [if_neg c5] at h
      injection h with _ h
      injection h with _ h
      refine ⟨[⟨xs, 0, 0⟩], h.symm, rfl, ?_, (fun s hs => by rw [List.mem_singleton.1 hs]; show (0 : Int) ≤ _; omega), ?_⟩
      · rw [hd, c4, List.drop_length]
        simp only [List.flatMap_cons, List.flatMap_nil, putP, if_true, List.append_nil]
        rw [hxl, hi.1]
        have : 16 * (b.getD k 0 / 16) + 0 = b.getD k 0 := by omega
        rw [this]
        simp
      · intro bg most all
        rw [hdec]
        unfold roomE playL
        simp only [hxl]
        by_cases c6 : n > most - ((all.length : Int) - bg)
        · rw [if_pos c6, if_pos c6]
          exact .inr ⟨by simp, rfl⟩
        · rw [if_neg c6, if_neg c6]
          simp only [ne_eq, not_true_eq_false, if_false]
          unfold dec.dec2
          rw [if_pos c4, if_neg c5]
          exact .inl rfl
    rw [if_neg c4] at h
    by_cases c5 : (b.length : Int) - (k2 : Int) < 2
    · rw [if_pos c5] at h; injection h with _ h; injection h with h _; cases h
    rw [if_neg c5] at h
    by_cases c6 : b.getD k2 0 + b.getD (k2 + 1) 0 * 256 = 0
    · rw [if_pos c6] at h; injection h with _ h; injection h with h _; cases h
    rw [if_neg c6] at h
    by_cases c7 : numE b (b.getD k 0 % 16) (k2 + 2) ≠ 0
    · rw [if_pos c7] at h; injection h with _ h; injection h with h _; cases h
    rw [if_neg c7] at h
    have hn2 := numE_zero (Classical.not_not.1 c7)
    have hfa2 := num_bound hb (by omega) (by omega) (show k2 + 2 ≤ b.length by omega) hn2
    have hi2 := num_inv hb (by omega) (by omega) hn2
    have y0 := hb k2
    have y1 := hb (k2 + 1)
    have hdec2 : ∀ bg most all, dec.dec2 b bg most k k2 all (dec b bg most f) = if b.getD k2 0 + b.getD (k2 + 1) 0 * 256 > (all.length : Int) then ((k2 : Int), 30, all) else
        if roomE all bg most (numS b (b.getD k 0 % 16) (k2 + 2) + 4) ≠ 0 then ((k2 : Int), 32, all) else
        dec b bg most f (moreK b (b.getD k 0 % 16) (k2 + 2)) (copied (b.getD k2 0 + b.getD (k2 + 1) 0 * 256).toNat (numS b (b.getD k 0 % 16) (k2 + 2) + 4).toNat all) := by
      intro bg most all
      unfold dec.dec2
      rw [if_neg c4, if_neg c5, if_neg c6, if_neg c7]
    have hd2 := drop_cons (show k2 < b.length by omega)
    rw [drop_cons (show k2 + 1 < b.length by omega), show k2 + 1 + 1 = k2 + 2 from rfl, hi2.2.2.2] at hd2
    clear c7 hn2
    generalize numS b (b.getD k 0 % 16) (k2 + 2) = m at *
    generalize moreK b (b.getD k 0 % 16) (k2 + 2) = j2 at *
    generalize hbk : b.getD k2 0 + b.getD (k2 + 1) 0 * 256 = bk at *
    have hm1 : b.getD k2 0 = bk % 256 := by omega
    have hm2 : b.getD (k2 + 1) 0 = bk / 256 := by omega
    obtain ⟨T, hT1, hT2, hT3, hT5, hT4⟩ := ih j2 _ _ _ (by omega) (by omega) h
    refine ⟨⟨xs, bk, m + 4⟩ :: T, by rw [hT1, List.append_assoc]; rfl, ?_, ?_, (fun s hs => by
      rcases List.mem_cons.1 hs with hs | hs
      · rw [hs]; show m + 4 ≤ _; omega
      · exact hT5 s hs), ?_⟩
    · cases T with
      | nil => cases hT2
      | cons t u =>
        rw [madeP, hT2, Bool.and_true]
        exact decide_eq_true ⟨by show 1 ≤ bk; omega, by show bk < 65536; omega, by show 4 ≤ m + 4; omega⟩
    · rw [hd, hd2, hT3, List.flatMap_cons]
      simp only [putP]
      rw [if_neg (show ¬ bk = 0 from c6), if_neg (show ¬ bk = 0 from c6), hxl, hi.1, show m + 4 - 4 = m by omega, hi2.1, hm1, hm2]
      have : 16 * (b.getD k 0 / 16) + b.getD k 0 % 16 = b.getD k 0 := by omega
      rw [this]
      simp
    · intro bg most all
      rw [hdec, playL]
      unfold roomE
      simp only [hxl]
      by_cases c8 : n > most - ((all.length : Int) - bg)
      · rw [if_pos c8, if_pos c8]
        exact .inr ⟨by simp, rfl⟩
      · rw [if_neg c8, if_neg c8]
        simp only [ne_eq, not_true_eq_false, if_false]
        rw [hdec2, if_neg (show ¬ bk = 0 from c6)]
        by_cases c9 : bk > ((all ++ xs).length : Int)
        · rw [if_pos c9, if_pos c9]
          exact .inr ⟨by simp, rfl⟩
        · rw [if_neg c9, if_neg c9]
          unfold roomE
          by_cases c10 : m + 4 > most - (((all ++ xs).length : Int) - bg)
          · rw [if_pos c10, if_pos c10]
            exact .inr ⟨by simp, rfl⟩
          · rw [if_neg c10, if_neg c10]
            simp only [ne_eq, not_true_eq_false, if_false]
            exact hT4 bg most _
/-- What is made is parsed. -/
theorem prs_make (b : List Int) : ∀ (T : List S44) (f k : Nat) (L : List S44), madeP T = true → b.drop k = T.flatMap putP → k ≤ b.length → b.length < f + k → prs b f k L = (0, 0, L ++ T) := by
  intro T
  induction T with
  | nil => intro f k L h; cases h
  | cons s t ih =>
    intro f k L hm hd hk hf
    cases f with
    | zero => 
      rw [List.flatMap_cons] at hd
      have := congrArg List.length hd
      simp [putP] at this
      omega
    | succ f =>
      have hs : OkS s ∧ (t = [] ↔ s.f1 = 0) := by
        cases t with
        | nil =>
          have := of_decide_eq_true hm
          exact ⟨.inl this, fun _ => this.1, fun _ => rfl⟩
        | cons t u =>
          rw [madeP, Bool.and_eq_true] at hm
          have := of_decide_eq_true hm.1
          exact ⟨.inr this, (fun h => by cases h), (fun h => by omega)⟩
      rw [List.flatMap_cons] at hd
      obtain ⟨tok, htok⟩ : ∃ tok, tok = 16 * half (s.f0.length : Int) + (if s.f1 = 0 then 0 else half (s.f2 - 4)) := ⟨_, rfl⟩
      have hd' : b.drop k = tok :: (ext255 (s.f0.length : Int) ++ (s.f0 ++ ((if s.f1 = 0 then [] else [s.f1 % 256, s.f1 / 256] ++ ext255 (s.f2 - 4)) ++ t.flatMap putP))) := by
        rw [hd, htok]
        simp [putP]
      obtain ⟨hkl, hg, hd1⟩ := getD_of_drop hd'
      have hh := half_le (s.f0.length : Int) (by omega)
      have hh2 : 0 ≤ (if s.f1 = 0 then (0 : Int) else half (s.f2 - 4)) ∧ (if s.f1 = 0 then (0 : Int) else half (s.f2 - 4)) ≤ 15 := by
        by_cases c : s.f1 = 0
        · rw [if_pos c]; decide
        · rw [if_neg c]
          refine half_le _ ?_
          rcases hs.1 with h | h <;> omega
      have hq : tok / 16 = half (s.f0.length : Int) := by omega
      have hr : tok % 16 = (if s.f1 = 0 then (0 : Int) else half (s.f2 - 4)) := by omega
      have hn := num_some (half_num (s.f0.length : Int) (by omega) b _ (k + 1) hd1)
      rw [prs, if_neg (by omega), hg, hq, hn.1, hn.2.1, hn.2.2]
      rw [if_neg (by decide)]
      obtain ⟨j, hj⟩ : ∃ j, j = k + 1 + (ext255 (s.f0.length : Int)).length := ⟨_, rfl⟩
      rw [← hj]
      have hdj : b.drop j = s.f0 ++ ((if s.f1 = 0 then [] else [s.f1 % 256, s.f1 / 256] ++ ext255 (s.f2 - 4)) ++ t.flatMap putP) := by
        rw [hj, ← List.drop_drop, hd1, List.drop_left]
      have hjl : b.length = j + (s.f0.length + ((if s.f1 = 0 then [] else [s.f1 % 256, s.f1 / 256] ++ ext255 (s.f2 - 4)) ++ t.flatMap putP).length) ∨ b.length < j := by
        have := congrArg List.length hdj
        rw [List.length_drop, List.length_append] at this
        omega
      have hjl2 : j ≤ b.length := by
        have := congrArg List.length hd1
        rw [List.length_drop, List.length_append] at this
        omega
      rw [if_neg (by omega)]
      have hxs : (b.take (j + ((s.f0.length : Nat) : Int).toNat)).drop j = s.f0 := by
        rw [List.drop_take, hdj, show j + ((s.f0.length : Nat) : Int).toNat - j = s.f0.length by omega, List.take_left]
      rw [hxs]
      obtain ⟨k2, hk2⟩ : ∃ k2, k2 = j + ((s.f0.length : Nat) : Int).toNat := ⟨_, rfl⟩
      rw [← hk2]
      have hdk : b.drop k2 = (if s.f1 = 0 then [] else [s.f1 % 256, s.f1 / 256] ++ ext255 (s.f2 - 4)) ++ t.flatMap putP := by
        rw [hk2, ← List.drop_drop, hdj, show ((s.f0.length : Nat) : Int).toNat = s.f0.length by omega, List.drop_left]
      unfold prs.prs2
      by_cases c : s.f1 = 0
      · have ht := hs.2.2 c
        subst ht
        rw [if_pos c] at hdk hr
        have hkb : k2 = b.length := by
          have := congrArg List.length hdk
          simp at this
          omega
        rw [if_pos hkb, hg, hr, if_neg (by decide)]
        have hs2 : s.f2 = 0 := by
          rcases hs.1 with h | h <;> omega
        cases s with
        | mk f0 f1 f2 =>
          simp only at c hs2
          subst c hs2
          rfl
      · have hok : 1 ≤ s.f1 ∧ s.f1 < 65536 ∧ 4 ≤ s.f2 := by
          rcases hs.1 with h | h
          · exact absurd h.1 c
          · exact h
        rw [if_neg c] at hdk hr
        have hdk' : b.drop k2 = (s.f1 % 256) :: (s.f1 / 256) :: (ext255 (s.f2 - 4) ++ t.flatMap putP) := by rw [hdk]; rfl
        obtain ⟨h1, h2, h3⟩ := getD_of_drop hdk'
        obtain ⟨h4, h5, h6⟩ := getD_of_drop h3
        have hmn := num_some (half_num (s.f2 - 4) (by omega) b _ (k2 + 2) h6)
        rw [if_neg (by omega), if_neg (by omega), h2, h5, hg, hr, hmn.1, hmn.2.1, hmn.2.2]
        rw [show s.f1 % 256 + s.f1 / 256 * 256 = s.f1 by omega, show s.f2 - 4 + 4 = s.f2 by omega, if_neg c, if_neg (by decide)]
        have htm : madeP t = true := by
          cases t with
          | nil => exact absurd (hs.2.1 rfl) c
          | cons t u =>
            rw [madeP, Bool.and_eq_true] at hm
            exact hm.2
        have hdt : b.drop (k2 + 2 + (ext255 (s.f2 - 4)).length) = t.flatMap putP := by
          rw [← List.drop_drop, h6, List.drop_left]
        have hle : k2 + 2 + (ext255 (s.f2 - 4)).length ≤ b.length := by
          have := congrArg List.length h6
          rw [List.length_drop, List.length_append] at this
          omega
        rw [ih f _ _ htm hdt hle (by omega), List.append_assoc]
        rfl
theorem parse_make (l : List S44) (hm : madeP l = true) : parse (l.flatMap putP) = (l, 0, 0) := by
  unfold parse
  rw [prs_make (l.flatMap putP) l ((l.flatMap putP).length + 1) 0 [] hm rfl (Nat.zero_le _) (by omega)]
  rfl
/-- Parse without an error. -/
theorem parse_ok (b : List Int) (hb : Byt b) (h : (parse b).2.2 = 0) : madeP (parse b).1 = true ∧ b = (parse b).1.flatMap putP ∧ (∀ s ∈ (parse b).1, s.f2 ≤ 19 + 255 * (b.length : Int)) ∧ ∀ (ahead : List Int) (most : Int), (play (parse b).1 ahead most).2 = (decode b ahead most).2.2 ∧ (play (parse b).1 ahead most).1 = (decode b ahead most).1 := by
  unfold parse at h ⊢
  by_cases c : (prs b (b.length + 1) 0 []).2.1 ≠ 0
  · rw [if_pos c] at h
    exact absurd h c
  rw [if_neg c] at h ⊢
  obtain ⟨T, h1, h2, h3, h7, h4⟩ := prs_inv b hb (b.length + 1) 0 [] (prs b (b.length + 1) 0 []).2.2 (prs b (b.length + 1) 0 []).1 (Nat.zero_le _) (by omega) (by rw [← Classical.not_not.1 c])
  rw [List.nil_append] at h1
  show madeP (prs b (b.length + 1) 0 []).2.2 = true ∧ b = (prs b (b.length + 1) 0 []).2.2.flatMap putP ∧ (∀ s ∈ (prs b (b.length + 1) 0 []).2.2, s.f2 ≤ 19 + 255 * (b.length : Int)) ∧ ∀ (ahead : List Int) (most : Int), (play (prs b (b.length + 1) 0 []).2.2 ahead most).2 = (decode b ahead most).2.2 ∧ (play (prs b (b.length + 1) 0 []).2.2 ahead most).1 = (decode b ahead most).1
  rw [h1]
  refine ⟨h2, h3, h7, fun ahead most => ?_⟩
  unfold play decode
  by_cases c1 : most < 0 ∨ most > 4194304
  · rw [if_pos c1, if_pos (by rcases c1 with c1 | c1 <;> simp [c1])]
    exact ⟨rfl, rfl⟩
  · have c2 : ¬ (most < 0 ∨ most > 4194304 ∨ madeP T = false) := by
      rw [h2]
      rintro (h | h | h)
      · exact c1 (.inl h)
      · exact c1 (.inr h)
      · cases h
    rw [if_neg c1, if_neg c2]
    rcases h4 (window ahead).length most (window ahead) with h5 | ⟨h5, h6⟩
    · rw [h5]
      by_cases c2 : (playL (window ahead).length most T (window ahead)).1 ≠ 0
      · rw [if_pos c2, if_pos c2]
        exact ⟨rfl, rfl⟩
      · rw [if_neg c2, if_neg c2]
        exact ⟨rfl, rfl⟩
    · rw [if_pos h5, ← h6, if_pos h5]
      exact ⟨rfl, rfl⟩
def BytM (l : List Int) : Prop := ∀ x ∈ l, 0 ≤ x ∧ x < 256
theorem BytM.byt {l : List Int} (h : BytM l) : Byt l := fun i => by
  rw [List.getD_eq_getElem?_getD]
  cases e : l[i]? with
  | none => exact ⟨by decide, by decide⟩
  | some x => exact h x (List.mem_of_getElem? e)
theorem BytM.append {a b : List Int} (h : BytM a) (h' : BytM b) : BytM (a ++ b) := fun x hx => by
  rcases List.mem_append.1 hx with hx | hx
  · exact h x hx
  · exact h' x hx
theorem bytM_num (n : Nat) : BytM (numN n) := fun x hx => by
  unfold numN at hx
  rcases List.mem_append.1 hx with hx | hx
  · have := (List.mem_replicate.1 hx).2; omega
  · have := List.mem_singleton.1 hx; omega
theorem bytM_ext (n : Int) : BytM (ext255 n) := by
  unfold ext255
  split
  · intro x hx; cases hx
  · exact bytM_num _
theorem bytM_put (s : S44) (hs : OkS s) (hb : BytM s.f0) : BytM (putP s) := by
  have hh := half_le (s.f0.length : Int) (by omega)
  have hh2 : 0 ≤ (if s.f1 = 0 then (0 : Int) else half (s.f2 - 4)) ∧ (if s.f1 = 0 then (0 : Int) else half (s.f2 - 4)) ≤ 15 := by
    by_cases c : s.f1 = 0
    · rw [if_pos c]; decide
    · rw [if_neg c]
      refine half_le _ ?_
      rcases hs with h | h <;> omega
  unfold putP
  refine BytM.append (BytM.append (BytM.append (fun x hx => ?_) (bytM_ext _)) hb) ?_
  · have := List.mem_singleton.1 hx
    omega
  · split
    · intro x hx; cases hx
    · refine BytM.append (fun x hx => ?_) (bytM_ext _)
      have h1 : s.f1 < 65536 ∧ 0 ≤ s.f1 := by rcases hs with h | h <;> omega
      simp at hx
      rcases hx with hx | hx <;> omega
theorem bytM_flat (l : List S44) (h : ∀ s ∈ l, OkS s ∧ BytM s.f0) : BytM (l.flatMap putP) := fun x hx => by
  obtain ⟨s, h1, h2⟩ := List.mem_flatMap.1 hx
  exact bytM_put s (h s h1).1 (h s h1).2 x h2
end Go.Proofs.Ytnomebkdhjigjaa.W
/- What Encode packs is unpacked: plain facts. -/
namespace Go.Proofs.Ytnomebkdhjigjaa.W
open Go.RowKit Go.Proofs.Ytnomebkdhjigjaa.Z
set_option linter.unusedVariables false
set_option linter.unusedSimpArgs false
theorem enc_round (plain ahead : List Int) (h : plain.length ≤ 4194304) (hb : BytM plain) (hb2 : BytM ahead) :
    parse ((encA plain ahead).flatMap putP) = (encA plain ahead, 0, 0) ∧ endsP (encA plain ahead) = true ∧ ((((encA plain ahead).flatMap putP).length : Int) ≤ (plain.length : Int) + (plain.length : Int) / 255 + 2) ∧
      (decode ((encA plain ahead).flatMap putP) ahead (plain.length : Int)).1 = plain ∧ (decode ((encA plain ahead).flatMap putP) ahead (plain.length : Int)).2.2 = 0 ∧ Byt ((encA plain ahead).flatMap putP) ∧ madeP (encA plain ahead) = true ∧
      ∀ s ∈ encA plain ahead, s.f0.length ≤ 4259839 ∧ 0 ≤ s.f2 ∧ s.f2 ≤ 4259839 := by
  have hwl := (window_len ahead).1
  have hwb : BytM (window ahead) := fun x hx => by
    unfold window at hx
    split at hx
    · exact hb2 x (List.mem_of_mem_drop hx)
    · exact hb2 x hx
  have hal : (window ahead ++ plain).length = (window ahead).length + plain.length := List.length_append
  obtain ⟨f1, f2, f3, f4, f5⟩ := encL_facts (window ahead ++ plain) ((window ahead).length : Int) (plain.length : Int) (by omega) ((window ahead ++ plain).length + 1) (window ahead).length (window ahead).length (Nat.le_refl _) (by omega)
  have f1' : madeP (encA plain ahead) = true := f1
  have f2' : playL ((window ahead).length : Int) (plain.length : Int) (encA plain ahead) ((window ahead ++ plain).take (window ahead).length) = (0, window ahead ++ plain) := f2
  have f3' : (((encA plain ahead).flatMap putP).length : Int) ≤ (((window ahead ++ plain).length : Int) - ((window ahead).length : Int)) + (((window ahead ++ plain).length : Int) - ((window ahead).length : Int)) / 255 + 2 := f3
  have f5' : ∀ s ∈ encA plain ahead, s.f0.length ≤ (window ahead ++ plain).length ∧ 0 ≤ s.f2 ∧ s.f2 ≤ ((window ahead ++ plain).length : Int) ∧ ∀ x ∈ s.f0, x ∈ window ahead ++ plain := f5
  rw [List.take_left] at f2'
  have hpm := parse_make (encA plain ahead) f1'
  have hok : ∀ s ∈ encA plain ahead, OkS s := fun s hs => by
    obtain ⟨i, hi, e⟩ := List.mem_iff_getElem.1 hs
    have := (ok_at f1' i hi).1
    rw [List.getD_eq_getElem?_getD, List.getElem?_eq_getElem hi, Option.getD_some, e] at this
    exact this
  have hbyt : Byt ((encA plain ahead).flatMap putP) := (bytM_flat _ (fun s hs => ⟨hok s hs, fun x hx => (hwb.append hb) x ((f5' s hs).2.2.2 x hx)⟩)).byt
  have hpo := (parse_ok _ hbyt (by rw [hpm])).2.2.2 ahead (plain.length : Int)
  rw [hpm] at hpo
  have hpl : play (encA plain ahead) ahead (plain.length : Int) = (plain, 0) := by
    unfold play
    have hno : ¬ ((plain.length : Int) < 0 ∨ (plain.length : Int) > 4194304 ∨ madeP (encA plain ahead) = false) := by
      rintro (h1 | h1 | h1)
      · omega
      · omega
      · rw [f1'] at h1; cases h1
    rw [if_neg hno, f2']
    rw [if_neg (by simp), List.drop_left]
  rw [hpl] at hpo
  refine ⟨hpm, f4, ?_, hpo.2.symm, hpo.1.symm, hbyt, f1', fun s hs => ?_⟩
  · have : ((window ahead ++ plain).length : Int) - ((window ahead).length : Int) = (plain.length : Int) := by omega
    rw [this] at f3'
    exact f3'
  · have := f5' s hs
    omega
end Go.Proofs.Ytnomebkdhjigjaa.W
/- Frames, plain: what Encode makes and what the document lays are one: pieces, blocks, loops. -/
namespace Go.Proofs.Ytnomebkdhjigjaa.Frm
open Go.RowKit Go.Proofs.Ytnomebkdhjigjaa.Z Go.Proofs.Ytnomebkdhjigjaa.GFrameEncodes Go.Proofs.YtnomebkdhjigjaaW.PrintWords Go.Proofs.YtnomebkdhjigjaaW.PrintMore
set_option linter.unusedVariables false
set_option linter.unusedSimpArgs false
/-- How many plain bytes a block has at most. -/
def bigOf (blk : Int) : Nat := 2 ^ (8 + 2 * blk.toNat)
theorem four_cases {blk : Int} (h0 : 4 ≤ blk) (h1 : blk ≤ 7) : blk = 4 ∨ blk = 5 ∨ blk = 6 ∨ blk = 7 := by omega
theorem most_f (blk : Int) (h0 : 4 ≤ blk) (h1 : blk ≤ 7) : frame_most.f blk = some (bigOf blk : Int) := by
  rcases four_cases h0 h1 with rfl | rfl | rfl | rfl <;> kernel_rfl
theorem size_f (blk : Int) (a1 a2 a3 a4 : Bool) (h0 : 4 ≤ blk) (h1 : blk ≤ 7) : satchelref04_Size.f blk a1 a2 a3 a4 = some (bigOf blk : Int) := by
  rcases four_cases h0 h1 with rfl | rfl | rfl | rfl <;> kernel_rfl
theorem big_in (blk : Int) (h0 : 4 ≤ blk) (h1 : blk ≤ 7) : 65536 ≤ bigOf blk ∧ bigOf blk ≤ 4194304 := by
  rcases four_cases h0 h1 with rfl | rfl | rfl | rfl <;> decide
def pieceP (M : Nat) (plain : List Int) (i : Nat) : List Int := (plain.drop (i * M)).take M
def blkP (M : Nat) (a1 : Bool) (plain : List Int) (i : Nat) : List Int := (W.encode (pieceP M plain i) (if a1 then [] else plain.take (i * M))).1
/-- A block as it stands in a frame: its size, its bytes, their sum. -/
def bodyOf (a2 : Bool) (p b : List Int) : List Int :=
  le4 (if p.length ≤ b.length then (p.length : Int) + 2147483648 else (b.length : Int)) ++ (if p.length ≤ b.length then p else b) ++ (if a2 then le4 (X.sum32 0 (if p.length ≤ b.length then p else b)) else [])
def tailP (a3 : Bool) (plain : List Int) : List Int := [0, 0, 0, 0] ++ (if a3 then le4 (X.sum32 0 plain) else [])
def countP (M : Nat) (plain : List Int) : Nat := (plain.length + M - 1) / M
theorem count_lt (M : Nat) (plain : List Int) (hM : 0 < M) (i : Nat) : i < countP M plain ↔ i * M < plain.length := by
  unfold countP
  rw [Nat.lt_iff_add_one_le, Nat.le_div_iff_mul_le hM, Nat.succ_mul]
  omega
theorem count_le (M : Nat) (plain : List Int) (hM : 65536 ≤ M) (hl : plain.length ≤ 4194304) (i : Nat) (hi : i < countP M plain) : i < 64 := by
  have h := (count_lt M plain (by omega) i).1 hi
  have h2 : i * 65536 ≤ i * M := Nat.mul_le_mul_left i hM
  omega
theorem piece_len (M : Nat) (plain : List Int) (i : Nat) : (pieceP M plain i).length ≤ M := by
  unfold pieceP
  rw [List.length_take]
  omega
theorem piece_byt {M : Nat} {plain : List Int} (h : BytM plain) (i : Nat) : BytM (pieceP M plain i) := fun x hx => h x (List.mem_of_mem_drop (List.mem_of_mem_take hx))
theorem bytM_of_byt {l : List Int} (h : W.Byt l) : BytM l := fun x hx => by
  obtain ⟨i, hi, e⟩ := List.mem_iff_getElem.1 hx
  have := h i
  rw [List.getD_eq_getElem?_getD, List.getElem?_eq_getElem hi, Option.getD_some, e] at this
  exact this
theorem enc_byt (p a : List Int) (hp : BytM p) (ha : BytM a) (hl : p.length ≤ 4194304) : BytM (W.encode p a).1 := by
  unfold W.encode
  rw [if_neg (by omega)]
  exact bytM_of_byt (W.enc_round p a hl hp ha).2.2.2.2.2.1
theorem lzenc_f (p a : List Int) (hp : BytM p) (ha : BytM a) (hl : p.length ≤ 4194304) (hla : a.length ≤ 4194304) : lz_Encode.f p a = some (W.encode p a) := if_pos ⟨by omega, by omega, bytM_B hp, bytM_B ha⟩
theorem body_len (a2 : Bool) (p b : List Int) : (bodyOf a2 p b).length ≤ p.length + 8 := by
  unfold bodyOf
  split <;> split <;> simp [le4] <;> omega
theorem or31 (n : Nat) (h : n ≤ 4194304) : Go.bits .or .u32 ((n : Int) % 4294967296) 2147483648 = (n : Int) + 2147483648 := by
  rw [Int.emod_eq_of_lt (by omega) (by omega)]
  exact XxhW.or32 31 2147483648 (n : Int) (by decide) (by decide) (by decide) (by omega) (by omega) (by omega)
theorem enc_rest (p b acc : List Int) (a2 : Bool) (blk M : Int) (at' : Int) (G : List Int → Int → Option (List Int × Int)) (hM : frame_most.f blk = some M) (hp : BytM p) (hb : BytM b) (hpl : p.length ≤ 4194304) (ha : acc.length ≤ 1000000000000) :
    (if (b.length : Int) ≥ (p.length : Int) then ((frame_put32.f acc (Go.bits .or .u32 (((p.length : Int)) % 4294967296) 2147483648)).bind fun t200 => (if t200.length + p.length < 140737488355328 then ((some (t200 ++ p : List Int)).bind fun y203 => (if a2 = true then ((xxh_Sum32.f 0 p).bind fun t206 => ((frame_put32.f y203 t206).bind fun t207 => ((frame_most.f blk).bind fun t210 => G t207 (wrap64 (at' + t210))))) else ((frame_most.f blk).bind fun t211 => G y203 (wrap64 (at' + t211))))) else (none)))
      else ((frame_put32.f acc (((b.length : Int)) % 4294967296)).bind fun t212 => (if t212.length + b.length < 140737488355328 then ((some (t212 ++ b : List Int)).bind fun y215 => (if a2 = true then ((xxh_Sum32.f 0 b).bind fun t218 => ((frame_put32.f y215 t218).bind fun t219 => ((frame_most.f blk).bind fun t222 => G t219 (wrap64 (at' + t222))))) else ((frame_most.f blk).bind fun t223 => G y215 (wrap64 (at' + t223))))) else (none))))
    = G (acc ++ bodyOf a2 p b) (wrap64 (at' + M)) := by
  have h4 : ∀ x, (le4 x).length = 4 := fun x => rfl
  by_cases c : p.length ≤ b.length
  · rw [if_pos (by omega), or31 _ hpl, put32_f _ _ (by omega), Option.bind_some, if_pos (by rw [List.length_append, h4]; omega), Option.bind_some]
    unfold bodyOf
    simp only [if_pos c]
    cases a2 with
    | true => rw [if_pos rfl, sum_f p hp (by omega), Option.bind_some, put32_f _ _ (by simp only [List.length_append, h4]; omega), Option.bind_some, hM, Option.bind_some, if_pos rfl, List.append_assoc, List.append_assoc, List.append_assoc]
    | false => rw [if_neg (by decide), hM, Option.bind_some, if_neg (by decide), List.append_nil, List.append_assoc]
  · rw [if_neg (by omega), Int.emod_eq_of_lt (by omega) (by omega), put32_f _ _ (by omega), Option.bind_some, if_pos (by rw [List.length_append, h4]; omega), Option.bind_some]
    unfold bodyOf
    simp only [if_neg c]
    cases a2 with
    | true => rw [if_pos rfl, sum_f b hb (by omega), Option.bind_some, put32_f _ _ (by simp only [List.length_append, h4]; omega), Option.bind_some, hM, Option.bind_some, if_pos rfl, List.append_assoc, List.append_assoc, List.append_assoc]
    | false => rw [if_neg (by decide), hM, Option.bind_some, if_neg (by decide), List.append_nil, List.append_assoc]
theorem piece_eq (M : Nat) (plain : List Int) (i : Nat) : (plain.take (min plain.length (i * M + M))).drop (i * M) = pieceP M plain i := by
  unfold pieceP
  rw [List.drop_take]
  by_cases c : plain.length ≤ i * M + M
  · rw [Nat.min_eq_left c, List.take_of_length_le (by rw [List.length_drop]; omega), List.take_of_length_le (by rw [List.length_drop]; omega)]
  · rw [Nat.min_eq_right (by omega), Nat.add_sub_cancel_left]
theorem enc_step (k : Nat) (M : Nat) (plain acc : List Int) (i : Nat) (blk : Int) (a1 a2 a3 a4 : Bool) (hM : frame_most.f blk = some (M : Int)) (hM1 : M ≤ 4194304) (hi : i * M < plain.length) (hl : plain.length ≤ 4194304) (hb : BytM plain) (ha : acc.length ≤ 1000000000000) :
    frame_Encode.l0 (k + 1) plain acc ((i * M : Nat) : Int) blk a1 a2 a3 a4 = frame_Encode.l0 k plain (acc ++ bodyOf a2 (pieceP M plain i) (blkP M a1 plain i)) (((i + 1) * M : Nat) : Int) blk a1 a2 a3 a4 := by
  have hmn : mn (plain.length : Int) (wrap64 (((i * M : Nat) : Int) + (M : Int))) = ((min plain.length (i * M + M) : Nat) : Int) := by
    rw [IntWalk.wrap64_in _ (by omega)]
    unfold mn
    split <;> omega
  have hnx : wrap64 (((i * M : Nat) : Int) + (M : Int)) = (((i + 1) * M : Nat) : Int) := by
    rw [IntWalk.wrap64_in _ (by omega), Nat.succ_mul]
    omega
  have hpl : (pieceP M plain i).length ≤ 4194304 := Nat.le_trans (piece_len M plain i) hM1
  have hpb := piece_byt (M := M) hb i
  have hab : BytM (plain.take (i * M)) := fun x hx => hb x (List.mem_of_mem_take hx)
  have hal : (plain.take (i * M)).length ≤ 4194304 := by rw [List.length_take]; omega
  have hnb : BytM ([] : List Int) := fun x hx => absurd hx (by simp)
  rw [frame_Encode.l0, if_pos (by omega), hM, Option.bind_some, hmn, if_pos (by omega), if_pos (by omega), if_pos (by omega), Int.toNat_natCast, Int.toNat_natCast, piece_eq, ← hnx]
  cases a1 with
  | true =>
    rw [if_pos rfl, lzenc_f _ _ hpb hnb hpl (by decide), Option.bind_some]
    refine Eq.trans ?_ ((enc_rest (pieceP M plain i) (blkP M true plain i) acc a2 blk M ((i * M : Nat) : Int) (fun t m => frame_Encode.l0 k plain t m blk true a2 a3 a4) hM hpb (enc_byt _ _ hpb hnb hpl) hpl ha))
    unfold blkP
    rw [if_pos rfl, hM]
  | false =>
    rw [if_neg (by decide), if_pos (by omega), lzenc_f _ _ hpb hab hpl hal, Option.bind_some]
    refine Eq.trans ?_ ((enc_rest (pieceP M plain i) (blkP M false plain i) acc a2 blk M ((i * M : Nat) : Int) (fun t m => frame_Encode.l0 k plain t m blk false a2 a3 a4) hM hpb (enc_byt _ _ hpb hab hpl) hpl ha))
    rw [show blkP M false plain i = (W.encode (pieceP M plain i) (plain.take (i * M))).1 from by unfold blkP; rw [if_neg (by decide)], hM]
theorem enc_last (k : Nat) (plain acc : List Int) (x7 : Int) (blk : Int) (a1 a2 a3 a4 : Bool) (hx : (plain.length : Int) ≤ x7) (hl : plain.length ≤ 4194304) (hb : BytM plain) (ha : acc.length ≤ 1000000000000) :
    frame_Encode.l0 (k + 1) plain acc x7 blk a1 a2 a3 a4 = some (acc ++ tailP a3 plain, 0) := by
  rw [frame_Encode.l0, if_neg (by omega), put32_f _ _ (by omega), Option.bind_some]
  unfold tailP
  cases a3 with
  | true => rw [if_pos rfl, sum_f _ hb (by omega), Option.bind_some, put32_f _ _ (by simp [le4]; omega), Option.bind_some, if_pos rfl, List.append_assoc]; rfl
  | false => rw [if_neg (by decide), if_neg (by decide), List.append_nil]; rfl
theorem enc_loop (M : Nat) (plain : List Int) (blk : Int) (a1 a2 a3 a4 : Bool) (hM : frame_most.f blk = some (M : Int)) (hM0 : 65536 ≤ M) (hM1 : M ≤ 4194304) (hl : plain.length ≤ 4194304) (hb : BytM plain) (k : Nat) :
    ∀ (d i : Nat) (acc : List Int), i + d = countP M plain → acc.length ≤ 1000 + i * 5000000 →
      frame_Encode.l0 (k + d + 1) plain acc ((i * M : Nat) : Int) blk a1 a2 a3 a4 = some (acc ++ (List.range' i d).flatMap (fun i => bodyOf a2 (pieceP M plain i) (blkP M a1 plain i)) ++ tailP a3 plain, 0)
  | 0, i, acc, h, ha => by
    have h1 : ¬ i * M < plain.length := fun hc => by
      have := (count_lt M plain (by omega) i).2 hc
      omega
    have h64 : i ≤ 64 := by
      cases i with
      | zero => omega
      | succ j => have := count_le M plain hM0 hl j (by omega); omega
    rw [Nat.add_zero, enc_last k plain acc _ blk a1 a2 a3 a4 (by omega) hl hb (by omega)]
    simp
  | d + 1, i, acc, h, ha => by
    have hc : i < countP M plain := by omega
    have h64 := count_le M plain hM0 hl i hc
    have hi := (count_lt M plain (by omega) i).1 hc
    rw [show k + (d + 1) + 1 = (k + d + 1) + 1 by omega, enc_step (k + d + 1) M plain acc i blk a1 a2 a3 a4 hM hM1 hi hl hb (by omega)]
    have h1 := body_len a2 (pieceP M plain i) (blkP M a1 plain i)
    have h2 := piece_len M plain i
    rw [enc_loop M plain blk a1 a2 a3 a4 hM hM0 hM1 hl hb k d (i + 1) _ (by omega) (by rw [List.length_append]; omega), List.range'_succ, List.flatMap_cons, List.append_assoc acc]
/-- The frame of plain bytes. -/
def frameP (blk : Int) (a1 a2 a3 a4 : Bool) (plain : List Int) : List Int :=
  [4, 34, 77, 24] ++ headP blk a1 a2 a3 a4 (plain.length : Int) ++ (List.range' 0 (countP (bigOf blk) plain)).flatMap (fun i => bodyOf a2 (pieceP (bigOf blk) plain i) (blkP (bigOf blk) a1 plain i)) ++ tailP a3 plain
theorem head_len (blk : Int) (a1 a2 a3 a4 : Bool) (n : Int) : (headP blk a1 a2 a3 a4 n).length ≤ 11 := by
  unfold headP
  rw [List.length_append, hd_len]
  split <;> simp
theorem count_max (M : Nat) (plain : List Int) (hM0 : 65536 ≤ M) (hl : plain.length ≤ 4194304) : countP M plain ≤ 64 := by
  cases h : countP M plain with
  | zero => omega
  | succ j => have := count_le M plain hM0 hl j (by omega); omega
theorem encode_f (blk : Int) (a1 a2 a3 a4 : Bool) (plain : List Int) (h0 : 4 ≤ blk) (h1 : blk ≤ 7) (hl : plain.length ≤ 4194304) (hb : BytM plain) (k : Nat) (hk : 100 ≤ k) :
    frame_Encode.f k plain blk a1 a2 a3 a4 = some (frameP blk a1 a2 a3 a4 plain, 0) := by
  obtain ⟨hM0, hM1⟩ := big_in blk h0 h1
  have hn := count_max (bigOf blk) plain hM0 hl
  unfold frame_Encode.f
  obtain ⟨q, rfl⟩ : ∃ q, k = q + 5 := ⟨k - 5, by omega⟩
  rw [if_neg (by omega), if_neg (by omega), if_neg (by omega), magic_f, Option.bind_some, head_f q blk a1 a2 a3 a4 _ h0 h1 (by omega) (by omega), Option.bind_some, if_pos (by have := head_len blk a1 a2 a3 a4 (plain.length : Int); simp; omega)]
  have h := enc_loop (bigOf blk) plain blk a1 a2 a3 a4 (most_f blk h0 h1) hM0 hM1 hl hb (q + 5 - countP (bigOf blk) plain - 1) (countP (bigOf blk) plain) 0 ([4, 34, 77, 24] ++ headP blk a1 a2 a3 a4 (plain.length : Int)) (by omega) (by have := head_len blk a1 a2 a3 a4 (plain.length : Int); simp; omega)
  rw [show q + 5 - countP (bigOf blk) plain - 1 + countP (bigOf blk) plain + 1 = q + 5 by omega, Nat.zero_mul] at h
  exact h
end Go.Proofs.Ytnomebkdhjigjaa.Frm
namespace Go.Proofs.Ytnomebkdhjigjaa.GFrameEncodes
open Go.RowKit Go.Proofs.Ytnomebkdhjigjaa.Z Go.Proofs.YtnomebkdhjigjaaW.PrintWords Go.Proofs.YtnomebkdhjigjaaW.PrintLast Go.Proofs.YtnomebkdhjigjaaW.PrintMore
attribute [local go_sem] max2_int min2_int max_two min_two max_three min_three max_four min_four   -- for this text's walks alone
set_option linter.unusedVariables false
set_option linter.unusedSimpArgs false

/-! ### satchelref04_Skip: function 42 -/
def satchelref04_Skip.j0 : Nat → Int → List Int → Bool → Option (List Int × Int)
  | 0, _, _, _ => none
  | k + 1, x0, x1, x12 => if x12 = true then (some (([] : List Int), 1)) else (if (x1.length : Int) > 4194304 then (some (([] : List Int), 2)) else ((some (([(wrap64 (80 + x0)) % 256, 42, 77, 24] : List Int) : List Int)).bind fun y446 => ((satchelref04_low.f k (IntKind.u64.wrap ((x1.length : Int))) 4).bind fun t449 => (if y446.length + t449.length < 140737488355328 then ((some (y446 ++ t449 : List Int)).bind fun y452 => (if y452.length + x1.length < 140737488355328 then (some ((y452 ++ x1), 0)) else (none))) else (none)))))
def satchelref04_Skip.f (k : Nat) (a0 : Int) (l1 : List Int) : Option (List Int × Int) := if a0 < 0 then (satchelref04_Skip.j0 k a0 l1 true) else (satchelref04_Skip.j0 k a0 l1 (decide (a0 > 15)))
set_option maxHeartbeats 8000000 in
set_option maxRecDepth 100000 in
theorem satchelref04_Skip.calls (k : Nat) (a0 : Int) (A1 : Option Addr) (c1 : Nat) (l1 : List Int) (r1 : List Int) (r2 : Int) (w : World) (hr1 : Kd.C (Kd.int .u8) w A1 l1.length l1) (hc1 : l1.length ≤ c1) (h : satchelref04_Skip.f k a0 l1 = some (r1, r2)) :
    Calls Try.prog 42 #[.int .i64 a0, .slice A1 l1.length c1] w fun e w' => ∃ v0_ : Value, e = .returned (.tuple #[v0_, .int .i64 r2]) ∧ Kd.R (Kd.int .u8) 5 w' w.heap.size (fun _ => True) v0_ r1 ∧ Below w.heap.size w w' := by
  have HR1 := Aside0.mk hr1
  have HC1 := Aside0.mk hc1
  clear hr1 hc1
  have HB := Aside0.mk (Below.refl w.heap.size w)
  have H : (if a0 < 0 then (satchelref04_Skip.j0 k a0 l1 true) else (satchelref04_Skip.j0 k a0 l1 (decide (a0 > 15)))) = some (r1, r2) := h
  clear h
  have HC3 := Aside0.mk H
  clear H
  go_enter Try.func42, Try.ntmps42
  go_upto_region 1 with (fail)
  go_cut [12] (fun v12 wc => ∃ (kq : Nat) (x12_2 : Bool), v12 = .bool x12_2 ∧ Aside0 (satchelref04_Skip.j0 kq a0 l1 x12_2 = some (r1, r2)) ∧ Aside0 (kq ≤ k) ∧ Aside0 (Below w.heap.size w wc))
  case first =>
    have H := HC3.out
    clear HC3
    by_cases c4 : a0 < 0
    · rw [if_pos c4] at H
      have c4b0 : decide (a0 < 0) = true := decide_eq_true c4
      clear c4
      (first | rw [c4b0] | (simp only [i64_w, i32_w]; rw [c4b0]) | skip)
      have H' := Aside0.mk H
      clear H
      go_wp2
      go_meet
      case rel => exact ⟨_, (true), (by first | rfl | (simp; done) | (simp [*]; done)), H', ⟨by first | omega | exact Nat.le_refl _⟩, ⟨by repeat (first | (with_reducible first | exact HB.out | apply below_alloc | apply pw_below_drewN | apply below_drew1) | exact HB.out)⟩⟩
    · rw [if_neg c4] at H
      have c4b0 : decide (a0 < 0) = false := decide_eq_false c4
      clear c4
      (first | rw [c4b0] | (simp only [i64_w, i32_w]; rw [c4b0]) | skip)
      have H' := Aside0.mk H
      clear H
      go_wp2
      go_meet
      case rel => exact ⟨_, (decide (a0 > 15)), (by first | rfl | (simp; done) | (simp [*]; done)), H', ⟨by first | omega | exact Nat.le_refl _⟩, ⟨by repeat (first | (with_reducible first | exact HB.out | apply below_alloc | apply pw_below_drewN | apply below_drew1) | exact HB.out)⟩⟩
  case rest =>
    clear HC3
    try clear c1
    try clear p2
    try clear c4
    try clear c4b0
    obtain ⟨kq, x12_2, rfl, HA, HJ2, HB⟩ := hcut
    cases kq with
    | zero => exact absurd HA.out (by simp [satchelref04_Skip.j0])
    | succ kj2 =>
      have H := HA.out
      clear HA
      simp only [satchelref04_Skip.j0] at H
      by_cases c5 : x12_2 = true
      · subst c5
        have H1 : (some (([] : List Int), 1)) = some (r1, r2) := by rw [if_pos rfl] at H; exact H
        clear H
        have H := H1
        clear H1
        simp only [Option.some.injEq, Prod.mk.injEq] at H
        obtain ⟨rfl, rfl⟩ := H
        go_wp2
        go_ret2
        exact ⟨_, by first | rfl | (simp [errW_none, errW_some] <;> rfl) | (simp [*, errW_none, errW_some] <;> rfl), by first | exact Kd.R_nil _ _ _ _ _ | exact Kd.N_nil _ _ _ _ _ | exact Kd.V_nil _ _ _ _ _ | exact Kd.Q_nil _ _ _ _ _ | exact Kd.S_nil _ _ _ _ _, by repeat (first | (with_reducible first | exact HB.out | apply below_alloc | apply pw_below_drewN | apply below_drew1) | exact HB.out)⟩
      · replace c5 := Bool.eq_false_iff.mpr c5
        subst c5
        have H1 : (if (l1.length : Int) > 4194304 then (some (([] : List Int), 2)) else ((some (([(wrap64 (80 + a0)) % 256, 42, 77, 24] : List Int) : List Int)).bind fun y446 => ((satchelref04_low.f kj2 (IntKind.u64.wrap ((l1.length : Int))) 4).bind fun t449 => (if y446.length + t449.length < 140737488355328 then ((some (y446 ++ t449 : List Int)).bind fun y452 => (if y452.length + l1.length < 140737488355328 then (some ((y452 ++ l1), 0)) else (none))) else (none))))) = some (r1, r2) := by rw [if_neg (show ¬ (false = true) by decide)] at H; exact H
        clear H
        have H := H1
        clear H1
        by_cases c6 : (l1.length : Int) > 4194304
        · rw [if_pos c6] at H
          have c6b0 : decide (4194304 < (l1.length : Int)) = true := decide_eq_true c6
          have c6b1 : decide (4194304 < l1.length) = true := decide_eq_true (by omega)
          clear c6
          simp only [Option.some.injEq, Prod.mk.injEq] at H
          obtain ⟨rfl, rfl⟩ := H
          go_wp2
          go_ret2
          exact ⟨_, by first | rfl | (simp [errW_none, errW_some] <;> rfl) | (simp [*, errW_none, errW_some] <;> rfl), by first | exact Kd.R_nil _ _ _ _ _ | exact Kd.N_nil _ _ _ _ _ | exact Kd.V_nil _ _ _ _ _ | exact Kd.Q_nil _ _ _ _ _ | exact Kd.S_nil _ _ _ _ _, by repeat (first | (with_reducible first | exact HB.out | apply below_alloc | apply pw_below_drewN | apply below_drew1) | exact HB.out)⟩
        · rw [if_neg c6] at H
          have c6b0 : decide (4194304 < (l1.length : Int)) = false := decide_eq_false c6
          have c6b1 : decide (4194304 < l1.length) = false := decide_eq_false (by omega)
          clear c6
          obtain ⟨y446, hy446⟩ : ∃ y_ : List Int, y_ = (([(wrap64 (80 + a0)) % 256, 42, 77, 24] : List Int)) := ⟨_, rfl⟩
          replace H : ((satchelref04_low.f kj2 (IntKind.u64.wrap ((l1.length : Int))) 4).bind fun t449 => (if y446.length + t449.length < 140737488355328 then ((some (y446 ++ t449 : List Int)).bind fun y452 => (if y452.length + l1.length < 140737488355328 then (some ((y452 ++ l1), 0)) else (none))) else (none))) = some (r1, r2) := by first | (rw [hy446]; with_reducible exact H) | (have H2_ := (Option.bind_some _ _).symm.trans H; rw [hy446]; with_reducible exact H2_) | (have H2_ := (Option.bind_some _ _).symm.trans H; with_reducible exact H2_) | with_reducible exact H | (rw [hy446]; exact H) | exact H
          have Ny446 := Aside0.mk hy446
          clear hy446
          replace H := Option.bind_eq_some_iff.mp H
          obtain ⟨t449, A70, H⟩ := H
          replace H : (if y446.length + t449.length < 140737488355328 then ((some (y446 ++ t449 : List Int)).bind fun y452 => (if y452.length + l1.length < 140737488355328 then (some ((y452 ++ l1), 0)) else (none))) else (none)) = some (r1, r2) := H
          have A7 := Aside0.mk A70
          clear A70
          by_cases c8 : y446.length + t449.length < 140737488355328
          · rw [if_pos c8] at H
            have LMc8 := Aside0.mk c8
            clear c8
            obtain ⟨y452, hy452⟩ : ∃ y_ : List Int, y_ = (y446 ++ t449) := ⟨_, rfl⟩
            replace H : (if y452.length + l1.length < 140737488355328 then (some ((y452 ++ l1), 0)) else (none)) = some (r1, r2) := by first | (rw [hy452]; with_reducible exact H) | (have H2_ := (Option.bind_some _ _).symm.trans H; rw [hy452]; with_reducible exact H2_) | (have H2_ := (Option.bind_some _ _).symm.trans H; with_reducible exact H2_) | with_reducible exact H | (rw [hy452]; exact H) | exact H
            have Ny452 := Aside0.mk hy452
            clear hy452
            by_cases c9 : y452.length + l1.length < 140737488355328
            · rw [if_pos c9] at H
              have LMc9 := Aside0.mk c9
              clear c9
              obtain ⟨y455, hy455⟩ : ∃ y_ : List Int, y_ = (y452 ++ l1) := ⟨_, rfl⟩
              replace H : (some (y455, 0)) = some (r1, r2) := by first | (rw [hy455]; with_reducible exact H) | (have H2_ := (Option.bind_some _ _).symm.trans H; rw [hy455]; with_reducible exact H2_) | (have H2_ := (Option.bind_some _ _).symm.trans H; with_reducible exact H2_) | with_reducible exact H | (rw [hy455]; exact H) | exact H
              have Ny455 := Aside0.mk hy455
              clear hy455
              simp only [Option.some.injEq, Prod.mk.injEq] at H
              obtain ⟨rfl, rfl⟩ := H
              go_wp2_with (first | ((with_reducible refine gate_dst (N := 19) rfl ?_); refine Kd.R_lit (Kd.int .u8) _ 5 ?hg (N := 19) ?hd (xs := ([(wrap64 (80 + a0)) % 256, 42, 77, 24] : List Int)) (inner := [.int .u8 ((wrap64 (80 + a0)) % 256), .int .u8 42, .int .u8 77, .int .u8 24]) (ok := fun _ => True) (okp := fun _ => True) ?hr ?hp (fun _ hk => hk) trivial (Below.refl _ _) (Nat.le_refl _) (by simp) ?_; (case hd => rfl); (case hg => rfl); (case hr => first | (go_simp; done) | (go_simp; rfl)); (case hp => exact (Reps.one (show Kd.M (Kd.int .u8) _ _ _ ((wrap64 (80 + a0)) % 256) [.int .u8 ((wrap64 (80 + a0)) % 256)] from rfl) (Reps.one (show Kd.M (Kd.int .u8) _ _ _ 42 [.int .u8 42] from rfl) (Reps.one (show Kd.M (Kd.int .u8) _ _ _ 77 [.int .u8 77] from rfl) (Reps.one (show Kd.M (Kd.int .u8) _ _ _ 24 [.int .u8 24] from rfl) (Reps.none _ _)))))); intro v447 w10 ho11 hb hg_ hnew_; clear hg_ hnew_; (first | rw [← Ny446.out] at ho11 | (simp only [Int.reduceToNat] at ho11; rw [← Ny446.out] at ho11)); have n0_ := Aside0.mk (Kd.R_lower ho11 (below_size (by repeat (first | (with_reducible first | exact HB.out | apply below_alloc | apply pw_below_drewN | apply below_drew1) | exact HB.out)))); have n1_ := Aside0.mk (below_step (by repeat (first | (with_reducible first | exact HB.out | apply below_alloc | apply pw_below_drewN | apply below_drew1) | exact HB.out)) hb); clear HB; have HO448 := n0_; have HB := n1_; clear n0_ n1_; clear hb ho11) | ((with_reducible refine gate_callee (f := 84) rfl ?_); refine goesL_ (some 23) rfl rfl Try.func84 (by kernel_rfl) rfl #[.int .u64 (IntKind.u64.wrap ((l1.length : Int))), .int .i64 4] rfl (by (try simp only [List.map_toArray, List.map_cons, List.map_nil]); first | done | rfl | (simp only [List.length_drop, List.length_take]; rfl)) ?_; (with_reducible refine (satchelref04_low.calls kj2 (IntKind.u64.wrap ((l1.length : Int))) 4 t449 _ A7.out).mono ?_); rintro e w12 ⟨v450, rfl, ho0, hb⟩; refine ⟨_, rfl, ?_⟩; have n0_ := Aside0.mk (Kd.R_elder' (by (with_reducible repeat (first | apply Kd.R_alloc | apply Kd.R_drewN | apply Kd.R_drew)); exact HO448.out) (Kd.R_base ho0) hb); have n1_ := Aside0.mk (Kd.R_lower (Kd.R_new' ho0 (Kd.R_lt (by (with_reducible repeat (first | apply Kd.R_alloc | apply Kd.R_drewN | apply Kd.R_drew)); exact HO448.out))) (below_size (by repeat (first | (with_reducible first | exact HB.out | apply below_alloc | apply pw_below_drewN | apply below_drew1) | exact HB.out)))); have n2_ := Aside0.mk (below_step (by repeat (first | (with_reducible first | exact HB.out | apply below_alloc | apply pw_below_drewN | apply below_drew1) | exact HB.out)) hb); clear HO448; clear HB; have HO448 := n0_; have HO451 := n1_; have HB := n2_; clear n0_ n1_ n2_; (try clear hb); (try clear hb2); (try clear hk); (try clear hi); (try clear ho0); obtain ⟨Ao14, co14, eo14⟩ := Kd.R_slice HO451.out; subst eo14) | ((with_reducible refine gate_builtin (b := .append) (xs := #[.tmp 19, .tmp 23]) rfl ?_); at_builtin; refine Kd.R_append_rows (Kd.int .u8) (w0 := w) w.heap.size rfl (.tmp 19) (.tmp 23) 22 5 (.int .u8 0) 1 rfl Try.underlying22 info5 rfl (by decide) (by omega) v447 y446 t449 _ _ _ (fun k_ => some k_ ≠ (.slice Ao14 t449.length co14 : Value).ownBlock) (fun _ => False) rfl rfl ?aO ?aR (fun _ _ h => h) (fun _ h => h.elim) ?aF ?aB ?aS ?aL ?_; (case aR => repeat (first | exact (Kd.R_reads' HO451.out).2.2 | (with_reducible refine Kd.C_alloc ?_ _) | (with_reducible refine Kd.C_drewN ?_ _) | (with_reducible refine Kd.C_drew ?_))); (case aB => exact (by repeat (first | (with_reducible first | exact HB.out | apply below_alloc | apply pw_below_drewN | apply below_drew1) | exact HB.out))); (case aF => exact (fun k_ hk => Kd.fresh' (Kd.R_lt (by (with_reducible repeat (first | apply Kd.R_alloc | apply Kd.R_drewN | apply Kd.R_drew)); exact HO451.out)) k_ hk)); (case aO => exact (by (with_reducible repeat (first | apply Kd.R_alloc | apply Kd.R_drewN | apply Kd.R_drew)); exact Kd.R_mono HO448.out (fun _ hk => hk.2))); (case aS => exact (below_size (by repeat (first | (with_reducible first | exact HB.out | apply below_alloc | apply pw_below_drewN | apply below_drew1) | exact HB.out)))); (case aL => have := LMc8.out; omega); intro v453 w13 ho hb hg hat; rw [← Ny452.out] at ho; have n0_ := Aside0.mk (Kd.R_after (ok := (fun _ => True)) (by (with_reducible repeat (first | apply Kd.R_alloc | apply Kd.R_drewN | apply Kd.R_drew)); exact HO451.out) hg hat); have n1_ := Aside0.mk (hb); have n2_ := Aside0.mk (ho); clear HO451; clear HB; clear HO448; have HO451 := n0_; have HB := n1_; have HO454 := n2_; clear n0_ n1_ n2_; clear ho hb hg hat) | ((with_reducible refine gate_builtin (b := .append) (xs := #[.tmp 25, .tmp 26]) rfl ?_); at_builtin; refine Kd.R_append_rows (Kd.int .u8) (w0 := w) w.heap.size rfl (.tmp 25) (.tmp 26) 22 5 (.int .u8 0) 1 rfl Try.underlying22 info5 rfl (by decide) (by omega) v453 y452 l1 _ _ _ (fun k_ => some k_ ≠ (.slice Ao14 t449.length co14 : Value).ownBlock) (fun _ => False) rfl rfl ?aO ?aR (fun _ _ h => h) (fun _ h => h.elim) ?aF ?aB ?aS ?aL ?_; (case aR => repeat (first | exact (Kd.C_below HR1.out HB.out) | (with_reducible refine Kd.C_alloc ?_ _) | (with_reducible refine Kd.C_drewN ?_ _) | (with_reducible refine Kd.C_drew ?_))); (case aB => exact (by repeat (first | (with_reducible first | exact HB.out | apply below_alloc | apply pw_below_drewN | apply below_drew1) | exact HB.out))); (case aF => exact (fun k_ hk => Kd.fresh' (Kd.R_lt (by (with_reducible repeat (first | apply Kd.R_alloc | apply Kd.R_drewN | apply Kd.R_drew)); exact HO451.out)) k_ hk)); (case aO => exact (by (with_reducible repeat (first | apply Kd.R_alloc | apply Kd.R_drewN | apply Kd.R_drew)); exact HO454.out)); (case aS => exact (below_size (by repeat (first | (with_reducible first | exact HB.out | apply below_alloc | apply pw_below_drewN | apply below_drew1) | exact HB.out)))); (case aL => have := LMc9.out; omega); intro v456 w15 ho hb hg hat; rw [← Ny455.out] at ho; have n0_ := Aside0.mk (Kd.R_after (ok := (fun _ => True)) (by (with_reducible repeat (first | apply Kd.R_alloc | apply Kd.R_drewN | apply Kd.R_drew)); exact HO451.out) hg hat); have n1_ := Aside0.mk (hb); have n2_ := Aside0.mk (ho); clear HO451; clear HB; clear HO454; have HO451 := n0_; have HB := n1_; have HO457 := n2_; clear n0_ n1_ n2_; clear ho hb hg hat))
              go_ret2
              exact ⟨_, by first | rfl | (simp [errW_none, errW_some] <;> rfl) | (simp [*, errW_none, errW_some] <;> rfl), by (with_reducible repeat (first | apply Kd.R_alloc | apply Kd.R_drewN | apply Kd.R_drew)); exact Kd.R_mono HO457.out (fun _ hk => trivial), by repeat (first | (with_reducible first | exact HB.out | apply below_alloc | apply pw_below_drewN | apply below_drew1) | exact HB.out)⟩
            · rw [if_neg c9] at H
              exact absurd H (by simp)
          · rw [if_neg c8] at H
            exact absurd H (by simp)

/-! ### satchellaw04_left: function 43 -/
def satchellaw04_left.l0 : Nat → List Int → Bool → Int → Option (Bool × List Int)
  | 0, _, _, _ => none
  | k + 1, x0, x5, x6 => if x6 < (x0.length : Int) then (if 0 ≤ x6 then (satchellaw04_left.l0 k (x0.set (x6 : Int).toNat 238) x5 (wrap64 (x6 + 1))) else (none)) else (some (x5, x0))
def satchellaw04_left.f (k : Nat) (l0 : List Int) (l1 : List Int) : Option (Bool × List Int) := if (strOfNums l1).size + 5 ≤ 9223372036854775807 then (satchellaw04_left.l0 k l0 ((strOfNums l0).toList == ((strOfNums l1) ++ (⟨#[1, 2, 3, 4, 5]⟩ : ByteArray)).toList) 0) else (none)
set_option maxHeartbeats 8000000 in
set_option maxRecDepth 100000 in
theorem satchellaw04_left.calls (k : Nat) (P0_ : Nat → Prop) (u9000_ : Value) (l0 : List Int) (A1 : Option Addr) (c1 : Nat) (l1 : List Int) (r1 : Bool) (r2 : List Int) (w0 w : World) (hB : Below w0.heap.size w0 w) (ho0 : Kd.R (Kd.int .u8) 5 w w0.heap.size P0_ u9000_ l0) (hr1 : ∀ W_, Kept w W_ (fun k_ => P0_ k_) → Kd.C (Kd.int .u8) W_ A1 l1.length l1) (hc1 : l1.length ≤ c1) (h : satchellaw04_left.f k l0 l1 = some (r1, r2)) :
    Calls Try.prog 43 #[u9000_, .slice A1 l1.length c1] w fun e w' => e = .returned (.bool r1) ∧ Kd.R (Kd.int .u8) 5 w' w0.heap.size (fun k_ => (P0_ k_ ∨ w.heap.size ≤ k_)) u9000_ r2 ∧ Below w0.heap.size w0 w' ∧ Kept w w' (fun k_ => P0_ k_) := by
  have HO0 := Aside0.mk (show Kd.R (Kd.int .u8) 5 w w0.heap.size (fun k_ => (P0_ k_ ∨ w.heap.size ≤ k_)) u9000_ l0 from Kd.R_mono ho0 (fun k_ hk => (.inl hk)))
  have HR1 := Aside0.mk hr1
  have HC1 := Aside0.mk hc1
  clear hr1 hc1
  have HK := Aside0.mk (Kept.refl w (fun k_ => P0_ k_))
  have HW0 := Aside0.mk hB.size
  have HB := Aside0.mk hB
  clear hB
  have H : (if (strOfNums l1).size + 5 ≤ 9223372036854775807 then (satchellaw04_left.l0 k l0 ((strOfNums l0).toList == ((strOfNums l1) ++ (⟨#[1, 2, 3, 4, 5]⟩ : ByteArray)).toList) 0) else (none)) = some (r1, r2) := h
  clear h
  by_cases c3 : (strOfNums l1).size + 5 ≤ 9223372036854775807
  · rw [if_pos c3] at H
    have c3b0 := eq_true c3
    have c3b1 : decide ((strOfNums l1).size + 5 ≤ 9223372036854775807) = true := decide_eq_true c3
    try have c3b2 : (9223372036854775807 < (strOfNums l1).size + 5) = False := eq_false (Nat.not_lt.2 c3)
    have H' := Aside0.mk H
    clear H
    have hcv4 := own_string (P := Try.prog) Try.underlying22 Try.underlying5 Try.underlying9 (Kd.own_of_R HO0.out)
    have hcv5 := Kd.C_string (P := Try.prog) (A := A1) (c := c1) Try.underlying22 Try.underlying5 Try.underlying9 (Kd.C_kept_now HR1.out (by repeat (first | (with_reducible first | exact HK.out | apply Kept.alloc | apply Kept.drewN | apply Kept.drew) | exact HK.out)))
    go_enter Try.func43, Try.ntmps43
    go_wp2
    go_loopg [6] k (fun kq v6 w' => ∃ (x0_1 : List Int) (x6_1 : Int), v6 = .int .i64 x6_1 ∧ Aside0 (satchellaw04_left.l0 kq x0_1 ((strOfNums l0).toList == ((strOfNums l1) ++ (⟨#[1, 2, 3, 4, 5]⟩ : ByteArray)).toList) x6_1 = some (r1, r2)) ∧ Aside0 (kq ≤ k) ∧ Aside0 (Kd.R (Kd.int .u8) 5 w' w0.heap.size (fun k_ => (P0_ k_ ∨ w.heap.size ≤ k_)) u9000_ x0_1) ∧ Aside0 (Kept w w' (fun k_ => P0_ k_)) ∧ Aside0 (Below w0.heap.size w0 w'))
    case atStart => exact ⟨(l0), (0), (by first | rfl | (simp; done) | (simp [*]; done)), H', ⟨Nat.le_refl _⟩, ⟨by (with_reducible repeat (first | apply Kd.R_alloc | apply Kd.R_drewN | apply Kd.R_drew)); exact HO0.out⟩, ⟨by repeat (first | (with_reducible first | exact HK.out | apply Kept.alloc | apply Kept.drewN | apply Kept.drew) | exact HK.out)⟩, ⟨by repeat (first | (with_reducible first | exact HB.out | apply below_alloc | apply pw_below_drewN | apply below_drew1) | exact HB.out)⟩⟩
    case round =>
      clear H'
      try clear c1
      try clear p2
      try clear c3
      try clear c3b0
      try clear c3b1
      try clear c3b2
      try clear c4
      try clear hcv4
      try clear hcv5
      obtain ⟨x0_1, x6_1, rfl, HA, HK1, HO_0, HK, HB⟩ := hrel
      cases gk with
      | zero => exact absurd HA.out (by simp [satchellaw04_left.l0])
      | succ k1 =>
        have H := HA.out
        clear HA
        simp only [satchellaw04_left.l0] at H
        by_cases c6 : x6_1 < (x0_1.length : Int)
        · rw [if_pos c6] at H
          have c6b0 : decide (x6_1 < (x0_1.length : Int)) = true := decide_eq_true c6
          clear c6
          by_cases c7 : 0 ≤ x6_1
          · rw [if_pos c7] at H
            have c7b0 : decide (0 ≤ x6_1) = true := decide_eq_true c7
            clear c7
            obtain ⟨y458, hy458⟩ : ∃ y_ : List Int, y_ = (x0_1.set (x6_1 : Int).toNat 238) := ⟨_, rfl⟩
            replace H : (satchellaw04_left.l0 k1 y458 ((strOfNums l0).toList == ((strOfNums l1) ++ (⟨#[1, 2, 3, 4, 5]⟩ : ByteArray)).toList) (wrap64 (x6_1 + 1))) = some (r1, r2) := by first | (rw [hy458]; with_reducible exact H) | (have H2_ := (Option.bind_some _ _).symm.trans H; rw [hy458]; with_reducible exact H2_) | (have H2_ := (Option.bind_some _ _).symm.trans H; with_reducible exact H2_) | with_reducible exact H | (rw [hy458]; exact H) | exact H
            have Ny458 := Aside0.mk hy458
            clear hy458
            have H' := Aside0.mk H
            clear H
            obtain ⟨Ao9, co9, eo9⟩ := Kd.R_slice HO_0.out
            subst eo9
            have p8 : 0 ≤ (x6_1 : Int) := of_decide_eq_true (by first | (with_reducible assumption) | assumption)
            have q8 : (x6_1 : Int) < ((x0_1.length : Int) : Int) := of_decide_eq_true (by first | (with_reducible assumption) | assumption)
            obtain ⟨go8, co8, eo8, gb8, gl8, cl8, HG8⟩ := Kd.R_form HO_0.out (by omega)
            (first | cases eo8 | (injection eo8 with ea_ en_ ec_; (first | subst ea_ | (injection ea_ with ea_; subst ea_)); subst ec_; clear en_))
            have GB8 := Aside0.mk gb8
            have GG8 := Aside0.mk HG8
            clear gb8 gl8 HG8
            have HMgo8 := Aside0.mk (show (P0_ go8 ∨ w.heap.size ≤ go8) from (HO_0.out.1 _ rfl))
            obtain ⟨hx8_0, hf8_0⟩ := Kd.R_celln 0 HO_0.out (x6_1 : Int) p8 q8
            replace p8 := eq_true p8
            replace q8 := eq_true q8
            have HP10 := Kd.R_putg HO_0.out (x6_1 : Int) 238
            go_wp2_with (first | ((with_reducible refine gate_store (t := 5) (p := 21) rfl ?_); refine store_event (t := 5) (p := 21) (v := ?vo_w11) (w1 := (wr.setCell ⟨go8, (x6_1 : Int).toNat, none⟩ (.int .u8 238))) ?hg ?ho ?hn ?hr ?_; (case ho => rfl); (case hg => rfl); (case hn => rfl); (case hr => first | (go_simp; done) | (go_simp; rfl)); intro w11 hw; have hg : wr.grownBy w11 (some go8) := (by rw [hw]; exact HP10.2); have hp_ : Kd.R (Kd.int .u8) 5 w11 w0.heap.size (fun k_ => (P0_ k_ ∨ w.heap.size ≤ k_)) (.slice (some ⟨go8, 0, none⟩) x0_1.length co9) y458 := (by rw [hw, Ny458.out]; exact HP10.1); clear HP10; have n0_ := Aside0.mk (hp_); have n1_ := Aside0.mk ((by rw [hw]; exact below_set (HB.out) GB8.out : Below w0.heap.size w0 w11)); have n2_ := Aside0.mk (Kept.of_grown (S := (fun k_ => P0_ k_)) hg (by repeat (first | (with_reducible first | exact HK.out | apply Kept.alloc | apply Kept.drewN | apply Kept.drew) | exact HK.out)) (fun k_ e_ => (HO_0.out.1 k_ e_))); clear HO_0; clear HB; clear HK; have HO_0 := n0_; have HB := n1_; have HK := n2_; clear n0_ n1_ n2_; clear hg hw hp_))
            go_roundg k1
            case measure => have := HK1.out; omega
            case rel => exact ⟨(y458), (wrap64 (x6_1 + 1)), (by first | rfl | (simp; done) | (simp [*]; done)), H', ⟨by have := HK1.out; omega⟩, ⟨by (with_reducible repeat (first | apply Kd.R_alloc | apply Kd.R_drewN | apply Kd.R_drew)); exact HO_0.out⟩, ⟨by repeat (first | (with_reducible first | exact HK.out | apply Kept.alloc | apply Kept.drewN | apply Kept.drew) | exact HK.out)⟩, ⟨by repeat (first | (with_reducible first | exact HB.out | apply below_alloc | apply pw_below_drewN | apply below_drew1) | exact HB.out)⟩⟩
          · rw [if_neg c7] at H
            exact absurd H (by simp)
        · rw [if_neg c6] at H
          have c6b0 : decide (x6_1 < (x0_1.length : Int)) = false := decide_eq_false c6
          clear c6
          simp only [Option.some.injEq, Prod.mk.injEq] at H
          obtain ⟨rfl, rfl⟩ := H
          obtain ⟨Ao12, co12, eo12⟩ := Kd.R_slice HO_0.out
          subst eo12
          go_wp2
          go_ret
          exact ⟨by first | rfl | (simp [errW_none, errW_some] <;> rfl) | (simp [*, errW_none, errW_some] <;> rfl), by (with_reducible repeat (first | apply Kd.R_alloc | apply Kd.R_drewN | apply Kd.R_drew)); exact HO_0.out, by repeat (first | (with_reducible first | exact HB.out | apply below_alloc | apply pw_below_drewN | apply below_drew1) | exact HB.out), by repeat (first | (with_reducible first | exact HK.out | apply Kept.alloc | apply Kept.drewN | apply Kept.drew) | exact HK.out)⟩
  · rw [if_neg c3] at H
    exact absurd H (by simp)

end Go.Proofs.Ytnomebkdhjigjaa.GFrameEncodes
