/- SizesSet: the walk. -/
import Derived.Test.YtanbicpkdkcpbaaGs
import Derived.Test.YtanbicpkdkcpbaaGt
import Derived.Test.YtanbicpkdkcpbaaGh
import Derived.Deep.CutBlock
import Derived.Deep.QuietTactic
import Derived.BigQuiet
import Derived.OwnWalk
namespace Go.Proofs.Ytanbicpkdkcpbaa.Rng
open Go.RowKit Go.Proofs.Ytanbicpkdkcpbaa.W Go.Proofs.Ytanbicpkdkcpbaa.RSizesRanges Go.Proofs.YtanbicpkdkcpbaaW.PrintWords Go.Proofs.YtanbicpkdkcpbaaW.PrintLast Go.Proofs.YtanbicpkdkcpbaaW.PrintMore
set_option linter.unusedVariables false
set_option linter.unusedSimpArgs false
/-- What the law holds in memory: the range that it was given, and two sets. -/
structure SInv (w W : World) (gb gp gq : Nat) (a b : Int) (P Q : List S67) : Prop where
  bel : Below w.heap.size w W
  box : W.heap[gb]? = some (.cells #[.int .i64 a, .int .i64 b] 67 (0, 0))
  p : IsSet W w.heap.size gp P
  q : IsSet W w.heap.size gq Q
  lb : w.heap.size ≤ gb
  lp : w.heap.size ≤ gp
  lq : w.heap.size ≤ gq
  bp : gb ≠ gp
  bq : gb ≠ gq
  pq : gp ≠ gq
theorem SInv.below {w W W' : World} {gb gp gq : Nat} {a b : Int} {P Q : List S67} (h : SInv w W gb gp gq a b P Q) (hb : Below W.heap.size W W') : SInv w W' gb gp gq a b P Q :=
  ⟨below_step h.bel hb, blk_below h.box hb, h.p.below hb, h.q.below hb, h.lb, h.lp, h.lq, h.bp, h.bq, h.pq⟩
theorem SInv.setQ {w W W' : World} {gb gp gq : Nat} {a b : Int} {P Q Q' : List S67} (h : SInv w W gb gp gq a b P Q) (hs : IsSet W' w.heap.size gq Q') (ht : Touch W W' gq) : SInv w W' gb gp gq a b P Q' :=
  ⟨ht.below h.bel h.lq, ht.heap h.box h.bq, h.p.other h.q ht h.pq, hs, h.lb, h.lp, h.lq, h.bp, h.bq, h.pq⟩
theorem SInv.setP {w W W' : World} {gb gp gq : Nat} {a b : Int} {P Q P' : List S67} (h : SInv w W gb gp gq a b P Q) (hs : IsSet W' w.heap.size gp P') (ht : Touch W W' gp) : SInv w W' gb gp gq a b P' Q :=
  ⟨ht.below h.bel h.lp, ht.heap h.box h.bp, hs, h.q.other h.p ht (Ne.symm h.pq), h.lb, h.lp, h.lq, h.bp, h.bq, h.pq⟩
theorem rd_take (l : List S67) (i : Nat) (h : i < 1000) : rd_T67 (l.take 1000) (i : Int) = rd_T67 l (i : Int) := by
  unfold rd_T67
  rw [Int.toNat_natCast, List.getD_eq_getElem?_getD, List.getD_eq_getElem?_getD, List.getElem?_take, if_pos h]
theorem same_l0 (P : List S67) (hP : P.length ≤ 1000000) : ∀ (j k i : Nat), i + j = P.length → j < k → satchellaw01_same.l0 k P P (i : Int) = some true := by
  intro j
  induction j with
  | zero =>
    intro k i hi hk
    obtain ⟨k, rfl⟩ : ∃ q, k = q + 1 := ⟨k - 1, by omega⟩
    rw [satchellaw01_same.l0, if_neg (by omega)]
  | succ j ih =>
    intro k i hi hk
    obtain ⟨k, rfl⟩ : ∃ q, k = q + 1 := ⟨k - 1, by omega⟩
    rw [satchellaw01_same.l0, if_pos (by omega), if_pos (by omega), if_pos (by omega), if_neg (by simp), wsucc _ (by omega)]
    exact ih k (i + 1) (by omega) (by omega)
theorem same_f (P : List S67) (hP : P.length ≤ 1000000) : satchellaw01_same.f (P.length + 1) P P = some true := by
  unfold satchellaw01_same.f
  rw [if_pos rfl]
  exact same_l0 P hP P.length _ 0 (by omega) (by omega)
theorem one_tot : wrap64 (totL [⟨1, 3⟩]) = 2 := IntWalk.wrap64_in _ (by decide)
set_option maxHeartbeats 16000000 in
set_option maxRecDepth 100000 in
theorem set_walk (A0 : Option Addr) (c0 : Nat) (l : List S67) (A1 : Option Addr) (c1 : Nat) (o : List S67) (a b : Int) (w : World) (hr0 : Kd.C k67 w A0 l.length l) (hc0 : l.length ≤ c0) (hr1 : Kd.C k67 w A1 o.length o) (hc1 : o.length ≤ c1) (hl : l.length ≤ 1000000000) (ho : o.length ≤ 1000000000) :
    Calls Try.prog 9 #[.slice A0 l.length c0, .slice A1 o.length c1, .agg #[.int .i64 a, .int .i64 b]] w fun e w' => e = .returned (.bool true) ∧ Below w.heap.size w w' := by
  have HR0 := Aside0.mk hr0
  have HR1 := Aside0.mk hr1
  obtain ⟨Xo, hXo⟩ : ∃ X, X = o.take 1000 := ⟨_, rfl⟩
  obtain ⟨Xl, hXl⟩ : ∃ X, X = l.take 1000 := ⟨_, rfl⟩
  have HXo := Aside0.mk (show Xo = o.take 1000 ∧ Xo.length = min 1000 o.length from ⟨hXo, by rw [hXo, List.length_take]⟩)
  have HXl := Aside0.mk (show Xl = l.take 1000 ∧ Xl.length = min 1000 l.length from ⟨hXl, by rw [hXl, List.length_take]⟩)
  have hFo := addN_facts Xo fine_nil (by have := HXo.out.2; omega)
  have hFl := addN_facts Xl fine_nil (by have := HXl.out.2; omega)
  have HF0 := Aside0.mk (fun i : Nat => show (addN [] (Xo.take i)).length ≤ 1000 by have h := (addN_facts (Xo.take i) fine_nil (by have := HXo.out.2; rw [List.length_take]; omega)).1.len; have := HXo.out.2; rw [List.length_take] at h; omega)
  have HF2 := Aside0.mk (fun i : Nat => show (cutN (addN [] Xo) (Xo.take i)).length ≤ 2000 by have h := (cutN_facts (Xo.take i) hFo.1 (by have := HXo.out.2; rw [List.length_take]; omega)).1.len; have := HXo.out.2; rw [List.length_take] at h; omega)
  have HF4 := Aside0.mk (fun i : Nat => show (addN [] (Xl.take i)).length ≤ 1000 by have h := (addN_facts (Xl.take i) fine_nil (by have := HXl.out.2; rw [List.length_take]; omega)).1.len; have := HXl.out.2; rw [List.length_take] at h; omega)
  have HF6 := Aside0.mk (fun i : Nat => show (addN [] ((Xl.drop i).reverse)).length ≤ 1000 by have h := (addN_facts ((Xl.drop i).reverse) fine_nil (by have := HXl.out.2; rw [List.length_reverse, List.length_drop]; omega)).1.len; have := HXl.out.2; rw [List.length_reverse, List.length_drop] at h; omega)
  have HCUT := Aside0.mk (cut_all Xo (by have := HXo.out.2; omega))
  have HREV := Aside0.mk (add_rev Xl (by have := HXl.out.2; omega))
  have hFP : Fine (addN [] Xl) 1000 := hFl.1.mono (by have := HXl.out.2; omega)
  have HFP := Aside0.mk hFP
  have HB := Aside0.mk (Below.refl w.heap.size w)
  clear hr0 hr1 hXo hXl hFo hFl hFP hc0 hc1
  go_enter Try.func9, Try.ntmps9
  go_upto_block 0 with (first | ((with_reducible refine gate_dst (N := 5) rfl ?_); refine box_event ?hg (N := 5) ?hd (cs := #[.int .i64 a, .int .i64 b]) (t := 67) ?hr ?_; (case hd => rfl); (case hg => rfl); (case hr => first | (go_simp; done) | (go_simp; rfl)); intro gb hgv wa hbox hb; have n0 := Aside0.mk (below_step HB.out hb); have n1 := Aside0.mk (show w.heap.size ≤ gb by rw [hgv]; exact below_size HB.out); have BB := Aside0.mk hbox; have LB := n1; clear n1; clear HB; have HB := n0; clear n0 hb hbox hgv) | ((with_reducible refine gate_dst (N := 19) rfl ?_); refine box_event ?hg (N := 19) ?hd (cs := #[.slice none 0 0]) (t := 65) ?hr ?_; (case hd => rfl); (case hg => rfl); (case hr => first | (go_simp; done) | (go_simp; rfl)); intro gp hgv wb hbox hb; have n0 := Aside0.mk (below_step HB.out hb); have n1 := Aside0.mk (show w.heap.size ≤ gp by rw [hgv]; exact below_size HB.out); have n2 := Aside0.mk (blk_below BB.out hb); have HBP := Aside0.mk (show gb ≠ gp by have := blk_lt BB.out; omega); clear BB; have BB := n2; have BP := Aside0.mk hbox; have LP := n1; clear n1 n2; clear HB; have HB := n0; clear n0 hb hbox hgv) | ((with_reducible refine gate_dst (N := 21) rfl ?_); refine box_event ?hg (N := 21) ?hd (cs := #[.slice none 0 0]) (t := 65) ?hr ?_; (case hd => rfl); (case hg => rfl); (case hr => first | (go_simp; done) | (go_simp; rfl)); intro gq hgv wc hbox hb; have n0 := Aside0.mk (below_step HB.out hb); have n1 := Aside0.mk (show w.heap.size ≤ gq by rw [hgv]; exact below_size HB.out); have HBQ := Aside0.mk (show gb ≠ gq by have := blk_lt BB.out; omega); have HPQ := Aside0.mk (show gp ≠ gq by have := blk_lt BP.out; omega); have n2 := Aside0.mk (blk_below BB.out hb); have n3 := Aside0.mk (blk_below BP.out hb); clear BB BP; have BB := n2; have BP := n3; have BQ := Aside0.mk hbox; have LQ := n1; clear n1 n2 n3; clear HB; have HB := n0; clear n0 hb hbox hgv))
  have HS := Aside0.mk (show SInv w wc gb gp gq a b [] [] from ⟨HB.out, BB.out, ⟨_, BP.out, Kd.R_nil _ _ _ _ _⟩, ⟨_, BQ.out, Kd.R_nil _ _ _ _ _⟩, LB.out, LP.out, LQ.out, HBP.out, HBQ.out, HPQ.out⟩)
  clear HB BB BP BQ LB LP LQ HBP HBQ HPQ
  go_cut [] (fun (wd : World) => Aside0 (SInv w wd gb gp gq a b [] (addN [] Xo)))
  case first =>
    go_wp2_with fail
    go_loopg [9] Xo.length (fun kq v9 wc => ∃ i : Nat, kq + i = Xo.length ∧ v9 = .int .i64 i ∧ Aside0 (SInv w wc gb gp gq a b ([]) (addN [] (Xo.take i))))
    case atStart => exact ⟨0, by omega, rfl, HS⟩
    case round =>
      clear HS
      obtain ⟨i, hk, rfl, HS⟩ := hrel
      cases gk with
      | succ k1 =>
        have hlen := HXo.out.2
        have hix : i < o.length ∧ i < 1000 := by omega
        have d1 : decide ((i : Int) < (o.length : Int)) = true := decide_eq_true (by omega)
        have d2 : decide ((i : Int) < 1000) = true := decide_eq_true (by omega)
        have e1 : (i : Int) < (o.length : Int) := by omega
        have e2 : (i : Int) < 1000 := by omega
        have hw1 : wrap64 ((i : Int) + 1) = ((i + 1 : Nat) : Int) := wsucc _ (by omega)
        have hrt := rd_take o i hix.2
        rw [← HXo.out.1] at hrt
        have hst := addN_take [] Xo i (by omega)
        rw [hrt] at hst
        obtain ⟨y, hy⟩ : ∃ y, y = rd_T67 o (i : Int) := ⟨_, rfl⟩
        have p9 : 0 ≤ (i : Int) := by omega
        have q9 : (i : Int) < (o.length : Int) := by omega
        obtain ⟨ad9, e9, hx9_0, hx9_1⟩ := at_T67 HR1.out (i : Int) p9 q9
        cases e9
        replace hx9_0 := (HS.out.bel.cell (World.block_lt_of_cell? _ _ hx9_0)).trans hx9_0
        replace hx9_1 := (HS.out.bel.cell (World.block_lt_of_cell? _ _ hx9_1)).trans hx9_1
        simp only [Int.toNat_natCast] at hx9_0 hx9_1
        replace p9 := eq_true p9
        replace q9 := eq_true q9
        rw [← hy] at hx9_0 hx9_1 hst
        clear hrt hy hlen hix
        have HA := Aside0.mk (add_set HS.out.q HS.out.bel.size (by have := HF0.out i; omega) y.f0 y.f1)
        have HSN := Aside0.mk (fun (W' : World) (hs : IsSet W' w.heap.size gq ((addR (addN [] (Xo.take i)) y.f0 y.f1).1)) (ht : Touch wr W' gq) => (show SInv w W' gb gp gq a b ([]) (addN [] (Xo.take (i + 1))) from HS.out.setQ (by rw [hst]; exact hs) ht))
        clear hst HS
        go_wp2_with (go_at_call 30; refine HA.out.mono ?_; rintro e w8 ⟨rfl, hs8, ht8⟩; have HS8 := Aside0.mk (HSN.out w8 hs8 ht8); clear hs8 ht8)
        go_roundg k1
        case measure => omega
        case rel => exact ⟨i + 1, by omega, by simp, HS8⟩
      | zero =>
        have hlen := HXo.out.2
        have hi : i = Xo.length := by omega
        have hend : SInv w wr gb gp gq a b ([]) (addN [] Xo) := by
          have h := HS.out
          rw [hi, List.take_length] at h
          exact h
        have HE := Aside0.mk hend
        clear hend HS
        by_cases c : i < o.length
        · have d1 : decide ((i : Int) < (o.length : Int)) = true := decide_eq_true (by omega)
          have d2 : decide ((i : Int) < 1000) = false := decide_eq_false (by omega)
          have e1 : (i : Int) < (o.length : Int) := by omega
          have e2 : ¬ ((i : Int) < 1000) := by omega
          clear hi hlen c hk
          go_wp2_with fail
          go_meet
          case rel => exact HE
        · have d1 : decide ((i : Int) < (o.length : Int)) = false := decide_eq_false (by omega)
          have e1 : ¬ ((i : Int) < (o.length : Int)) := by omega
          clear hi hlen c hk
          go_wp2_with fail
          go_meet
          case rel => exact HE
  case rest =>
    clear HS
    have HS := hcut
    clear hcut
    go_upto_block 2 with fail
    go_cut [] (fun (wd : World) => Aside0 (SInv w wd gb gp gq a b [] []))
    case first =>
      go_wp2_with fail
      go_loopg [10] Xo.length (fun kq v10 wc => ∃ i : Nat, kq + i = Xo.length ∧ v10 = .int .i64 i ∧ Aside0 (SInv w wc gb gp gq a b ([]) (cutN (addN [] Xo) (Xo.take i))))
      case atStart => exact ⟨0, by omega, rfl, HS⟩
      case round =>
        clear HS
        obtain ⟨i, hk, rfl, HS⟩ := hrel
        cases gk with
        | succ k1 =>
          have hlen := HXo.out.2
          have hix : i < o.length ∧ i < 1000 := by omega
          have d1 : decide ((i : Int) < (o.length : Int)) = true := decide_eq_true (by omega)
          have d2 : decide ((i : Int) < 1000) = true := decide_eq_true (by omega)
          have e1 : (i : Int) < (o.length : Int) := by omega
          have e2 : (i : Int) < 1000 := by omega
          have hw1 : wrap64 ((i : Int) + 1) = ((i + 1 : Nat) : Int) := wsucc _ (by omega)
          have hrt := rd_take o i hix.2
          rw [← HXo.out.1] at hrt
          have hst := cutN_take (addN [] Xo) Xo i (by omega)
          rw [hrt] at hst
          obtain ⟨y, hy⟩ : ∃ y, y = rd_T67 o (i : Int) := ⟨_, rfl⟩
          have p9 : 0 ≤ (i : Int) := by omega
          have q9 : (i : Int) < (o.length : Int) := by omega
          obtain ⟨ad9, e9, hx9_0, hx9_1⟩ := at_T67 HR1.out (i : Int) p9 q9
          cases e9
          replace hx9_0 := (HS.out.bel.cell (World.block_lt_of_cell? _ _ hx9_0)).trans hx9_0
          replace hx9_1 := (HS.out.bel.cell (World.block_lt_of_cell? _ _ hx9_1)).trans hx9_1
          simp only [Int.toNat_natCast] at hx9_0 hx9_1
          replace p9 := eq_true p9
          replace q9 := eq_true q9
          rw [← hy] at hx9_0 hx9_1 hst
          clear hrt hy hlen hix
          have HA := Aside0.mk (cut_set HS.out.q HS.out.bel.size (by have := HF2.out i; omega) y.f0 y.f1)
          have HSN := Aside0.mk (fun (W' : World) (hs : IsSet W' w.heap.size gq ((cutR (cutN (addN [] Xo) (Xo.take i)) y.f0 y.f1).1)) (ht : Touch wr W' gq) => (show SInv w W' gb gp gq a b ([]) (cutN (addN [] Xo) (Xo.take (i + 1))) from HS.out.setQ (by rw [hst]; exact hs) ht))
          clear hst HS
          go_wp2_with (go_at_call 28; refine HA.out.mono ?_; rintro e w8 ⟨rfl, hs8, ht8⟩; have HS8 := Aside0.mk (HSN.out w8 hs8 ht8); clear hs8 ht8)
          go_roundg k1
          case measure => omega
          case rel => exact ⟨i + 1, by omega, by simp, HS8⟩
        | zero =>
          have hlen := HXo.out.2
          have hi : i = Xo.length := by omega
          have hend : SInv w wr gb gp gq a b [] [] := by
            have h := HS.out
            rw [hi, List.take_length] at h
            rw [HCUT.out] at h
            exact h
          have HE := Aside0.mk hend
          clear hend HS
          by_cases c : i < o.length
          · have d1 : decide ((i : Int) < (o.length : Int)) = true := decide_eq_true (by omega)
            have d2 : decide ((i : Int) < 1000) = false := decide_eq_false (by omega)
            have e1 : (i : Int) < (o.length : Int) := by omega
            have e2 : ¬ ((i : Int) < 1000) := by omega
            clear hi hlen c hk
            go_wp2_with fail
            go_meet
            case rel => exact HE
          · have d1 : decide ((i : Int) < (o.length : Int)) = false := decide_eq_false (by omega)
            have e1 : ¬ ((i : Int) < (o.length : Int)) := by omega
            clear hi hlen c hk
            go_wp2_with fail
            go_meet
            case rel => exact HE
    case rest =>
      clear HS
      have HS := hcut
      clear hcut HCUT HF0 HF2 HR1
      have HT := Aside0.mk (fun (W : World) (h : Below wc.heap.size wc W) => (show Calls Try.prog 36 #[.pointer (some ⟨gq, 0, none⟩)] W fun e w' => e = .returned (.int .i64 0) ∧ Below W.heap.size W w' from by
        have h1 := tot_set ((HS.out.q).below h) (by simp)
        rw [show wrap64 (totL []) = 0 from IntWalk.wrap64_in _ (by decide)] at h1
        exact h1))
      have HL := Aside0.mk (fun (W : World) (h : Below wc.heap.size wc W) => all_set ((HS.out.q).below h) (by simp))
      have HB := Aside0.mk (Below.refl wc.heap.size wc)
      go_upto_block 4 with (first | (go_at_call 36; (with_reducible refine (HT.out _ HB.out).mono ?_); rintro e w2 ⟨rfl, hb2⟩; have n0 := Aside0.mk (below_step HB.out hb2); clear HB; have HB := n0; clear n0 hb2) | (go_at_call 32; (with_reducible refine (HL.out _ HB.out).mono ?_); rintro e w3 ⟨v3, rfl, ho3, hb3⟩; have n0 := Aside0.mk (below_step HB.out hb3); clear HB; have HB := n0; obtain ⟨A3, c3, rfl⟩ := Kd.R_slice ho3; clear n0 hb3 ho3))
      have HSa := Aside0.mk (HS.out.below HB.out)
      clear HT HL HB HS
      have HS := HSa
      clear HSa
      go_cut [] (fun (wd : World) => Aside0 (SInv w wd gb gp gq a b (addN [] Xl) []))
      case first =>
        go_wp2_with fail
        go_loopg [11] Xl.length (fun kq v11 wc => ∃ i : Nat, kq + i = Xl.length ∧ v11 = .int .i64 i ∧ Aside0 (SInv w wc gb gp gq a b (addN [] (Xl.take i)) ([])))
        case atStart => exact ⟨0, by omega, rfl, HS⟩
        case round =>
          clear HS
          obtain ⟨i, hk, rfl, HS⟩ := hrel
          cases gk with
          | succ k1 =>
            have hlen := HXl.out.2
            have hix : i < l.length ∧ i < 1000 := by omega
            have d1 : decide ((i : Int) < (l.length : Int)) = true := decide_eq_true (by omega)
            have d2 : decide ((i : Int) < 1000) = true := decide_eq_true (by omega)
            have e1 : (i : Int) < (l.length : Int) := by omega
            have e2 : (i : Int) < 1000 := by omega
            have hw1 : wrap64 ((i : Int) + 1) = ((i + 1 : Nat) : Int) := wsucc _ (by omega)
            have hrt := rd_take l i hix.2
            rw [← HXl.out.1] at hrt
            have hst := addN_take [] Xl i (by omega)
            rw [hrt] at hst
            obtain ⟨y, hy⟩ : ∃ y, y = rd_T67 l (i : Int) := ⟨_, rfl⟩
            have p9 : 0 ≤ (i : Int) := by omega
            have q9 : (i : Int) < (l.length : Int) := by omega
            obtain ⟨ad9, e9, hx9_0, hx9_1⟩ := at_T67 HR0.out (i : Int) p9 q9
            cases e9
            replace hx9_0 := (HS.out.bel.cell (World.block_lt_of_cell? _ _ hx9_0)).trans hx9_0
            replace hx9_1 := (HS.out.bel.cell (World.block_lt_of_cell? _ _ hx9_1)).trans hx9_1
            simp only [Int.toNat_natCast] at hx9_0 hx9_1
            replace p9 := eq_true p9
            replace q9 := eq_true q9
            rw [← hy] at hx9_0 hx9_1 hst
            clear hrt hy hlen hix
            have HA := Aside0.mk (add_set HS.out.p HS.out.bel.size (by have := HF4.out i; omega) y.f0 y.f1)
            have HSN := Aside0.mk (fun (W' : World) (hs : IsSet W' w.heap.size gp ((addR (addN [] (Xl.take i)) y.f0 y.f1).1)) (ht : Touch wr W' gp) => (show SInv w W' gb gp gq a b (addN [] (Xl.take (i + 1))) ([]) from HS.out.setP (by rw [hst]; exact hs) ht))
            clear hst HS
            go_wp2_with (go_at_call 30; refine HA.out.mono ?_; rintro e w8 ⟨rfl, hs8, ht8⟩; have HS8 := Aside0.mk (HSN.out w8 hs8 ht8); clear hs8 ht8)
            go_roundg k1
            case measure => omega
            case rel => exact ⟨i + 1, by omega, by simp, HS8⟩
          | zero =>
            have hlen := HXl.out.2
            have hi : i = Xl.length := by omega
            have hend : SInv w wr gb gp gq a b (addN [] Xl) ([]) := by
              have h := HS.out
              rw [hi, List.take_length] at h
              exact h
            have HE := Aside0.mk hend
            clear hend HS
            by_cases c : i < l.length
            · have d1 : decide ((i : Int) < (l.length : Int)) = true := decide_eq_true (by omega)
              have d2 : decide ((i : Int) < 1000) = false := decide_eq_false (by omega)
              have e1 : (i : Int) < (l.length : Int) := by omega
              have e2 : ¬ ((i : Int) < 1000) := by omega
              clear hi hlen c hk
              go_wp2_with fail
              go_meet
              case rel => exact HE
            · have d1 : decide ((i : Int) < (l.length : Int)) = false := decide_eq_false (by omega)
              have e1 : ¬ ((i : Int) < (l.length : Int)) := by omega
              clear hi hlen c hk
              go_wp2_with fail
              go_meet
              case rel => exact HE
      case rest =>
        clear HS
        have HS := hcut
        clear hcut HF4
        have hw0 : wrap64 ((l.length : Int) - 1) = (l.length : Int) - 1 := IntWalk.wrap64_in _ (by omega)
        go_upto_block 6 with fail
        go_cut [] (fun (wd : World) => Aside0 (SInv w wd gb gp gq a b (addN [] Xl) (addN [] Xl)))
        case first =>
          go_wp2_with fail
          go_loopg [12] l.length (fun kq v12 wd => ∃ j : Int, j = (kq : Int) - 1 ∧ kq ≤ l.length ∧ v12 = .int .i64 j ∧ Aside0 (SInv w wd gb gp gq a b (addN [] Xl) (addN [] ((Xl.drop kq).reverse))))
          case atStart => exact ⟨(l.length : Int) - 1, rfl, Nat.le_refl _, by simp, by
            have h := HS.out
            rw [List.drop_eq_nil_of_le (by have := HXl.out.2; omega)]
            exact ⟨h⟩⟩
          case round =>
            clear HS hw0
            obtain ⟨j, hj, hkl, rfl, HS⟩ := hrel
            cases gk with
            | succ k1 =>
              obtain rfl : j = (k1 : Int) := by omega
              have hw1 : wrap64 ((k1 : Int) - 1) = (k1 : Int) - 1 := IntWalk.wrap64_in _ (by omega)
              have d0 : decide (0 ≤ (k1 : Int)) = true := decide_eq_true (by omega)
              have e0 : 0 ≤ (k1 : Int) := by omega
              by_cases c : k1 < 1000
              · have d1 : decide ((k1 : Int) < 1000) = true := decide_eq_true (by omega)
                have e1 : (k1 : Int) < 1000 := by omega
                have hlen := HXl.out.2
                have hrt := rd_take l k1 c
                rw [← HXl.out.1] at hrt
                have hst := rev_step Xl k1 (by omega)
                rw [hrt] at hst
                obtain ⟨y, hy⟩ : ∃ y, y = rd_T67 l (k1 : Int) := ⟨_, rfl⟩
                have p9 : 0 ≤ (k1 : Int) := by omega
                have q9 : (k1 : Int) < (l.length : Int) := by omega
                obtain ⟨ad9, e9, hx9_0, hx9_1⟩ := at_T67 HR0.out (k1 : Int) p9 q9
                cases e9
                replace hx9_0 := (HS.out.bel.cell (World.block_lt_of_cell? _ _ hx9_0)).trans hx9_0
                replace hx9_1 := (HS.out.bel.cell (World.block_lt_of_cell? _ _ hx9_1)).trans hx9_1
                simp only [Int.toNat_natCast] at hx9_0 hx9_1
                replace p9 := eq_true p9
                replace q9 := eq_true q9
                rw [← hy] at hx9_0 hx9_1 hst
                clear hrt hy hlen c hj
                have HA := Aside0.mk (add_set HS.out.q HS.out.bel.size (by have := HF6.out (k1 + 1); omega) y.f0 y.f1)
                have HSN := Aside0.mk (fun (W' : World) (hs : IsSet W' w.heap.size gq (addR (addN [] ((Xl.drop (k1 + 1)).reverse)) y.f0 y.f1).1) (ht : Touch wr W' gq) => (show SInv w W' gb gp gq a b (addN [] Xl) (addN [] ((Xl.drop k1).reverse)) from HS.out.setQ (by rw [hst]; exact hs) ht))
                clear hst HS
                go_wp2_with (go_at_call 30; refine HA.out.mono ?_; rintro e w8 ⟨rfl, hs8, ht8⟩; have HS8 := Aside0.mk (HSN.out w8 hs8 ht8); clear hs8 ht8)
                go_roundg k1
                case measure => omega
                case rel => exact ⟨(k1 : Int) - 1, rfl, by omega, by simp, HS8⟩
              · have d1 : decide ((k1 : Int) < 1000) = false := decide_eq_false (by omega)
                have e1 : ¬ ((k1 : Int) < 1000) := by omega
                have hd : Xl.drop k1 = Xl.drop (k1 + 1) := by rw [List.drop_eq_nil_of_le (by have := HXl.out.2; omega), List.drop_eq_nil_of_le (by have := HXl.out.2; omega)]
                rw [← hd] at HS
                clear hd c hj
                go_wp2_with fail
                go_roundg k1
                case measure => omega
                case rel => exact ⟨(k1 : Int) - 1, rfl, by omega, by simp, HS⟩
            | zero =>
              obtain rfl : j = -1 := by omega
              have d0 : decide (0 ≤ (-1 : Int)) = false := by decide
              have e0 : ¬ (0 ≤ (-1 : Int)) := by decide
              have HE := Aside0.mk (show SInv w wr gb gp gq a b (addN [] Xl) (addN [] Xl) by
                have h := HS.out
                rw [List.drop_zero, HREV.out] at h
                exact h)
              clear HS hj hkl
              go_wp2_with fail
              go_meet
              case rel => exact HE
        case rest =>
          clear HS hw0
          have HS := hcut
          clear hcut HF6 HREV HR0
          obtain ⟨P, hP⟩ : ∃ P, P = addN [] Xl := ⟨_, rfl⟩
          rw [← hP] at HS HFP
          clear hP
          have hPl := HFP.out.len
          have HPL := Aside0.mk hPl
          have HTp := Aside0.mk (fun (W : World) (h : Below wc.heap.size wc W) => tot_set ((HS.out.p).below h) (by omega))
          have HTq := Aside0.mk (fun (W : World) (h : Below wc.heap.size wc W) => tot_set ((HS.out.q).below h) (by omega))
          have HLp := Aside0.mk (fun (W : World) (h : Below wc.heap.size wc W) => all_set ((HS.out.p).below h) (by omega))
          have HLq := Aside0.mk (fun (W : World) (h : Below wc.heap.size wc W) => all_set ((HS.out.q).below h) (by omega))
          have HSM := Aside0.mk (same_f P (by omega))
          have HG := Aside0.mk (fun (W : World) (h : Below wc.heap.size wc W) => gaps_set ((HS.out.p).below h) (by omega) a b)
          have hb0 := HS.out.box
          clear hPl
          have HB := Aside0.mk (Below.refl wc.heap.size wc)
          go_upto_region 23 with (first | (go_at_call 32; (with_reducible refine (HLp.out _ HB.out).mono ?_); rintro e w2 ⟨v2, rfl, ho2, hb2⟩; have n0 := Aside0.mk (below_step HB.out hb2); clear HB; have HB := n0; obtain ⟨A2, c2, rfl, hc2, hC2⟩ := Kd.R_reads ho2; have HC2 := Aside0.mk hC2; have HN2 := Aside0.mk hc2; clear n0 hb2 ho2 hc2 hC2) | (go_at_call 32; (with_reducible refine (HLq.out _ HB.out).mono ?_); rintro e w3 ⟨v3, rfl, ho3, hb3⟩; have n0 := Aside0.mk (below_step HB.out hb3); clear HB; have HB := n0; obtain ⟨A3, c3, rfl, hc3, hC3⟩ := Kd.R_reads ho3; have HC3 := Aside0.mk hC3; have HN3 := Aside0.mk hc3; have n1 := Aside0.mk (Kd.C_below HC2.out hb3); clear HC2; have HC2 := n1; clear n0 n1 hb3 ho3 hc3 hC3) | (go_at_call 35; refine (satchellaw01_same.calls (P.length + 1) A2 c2 P A3 c3 P true _ HC2.out HN2.out HC3.out HN3.out HSM.out).mono ?_; rintro e w4 ⟨rfl, ⟨m4, rfl⟩⟩; have n0 := Aside0.mk (pw_below_drewN HB.out m4); clear HB; have HB := n0; clear n0) | (go_at_call 36; (with_reducible refine (HTp.out _ HB.out).mono ?_); rintro e w5 ⟨rfl, hb5⟩; have n0 := Aside0.mk (below_step HB.out hb5); clear HB; have HB := n0; clear n0 hb5) | (go_at_call 36; (with_reducible refine (HTq.out _ HB.out).mono ?_); rintro e w6 ⟨rfl, hb6⟩; have n0 := Aside0.mk (below_step HB.out hb6); clear HB; have HB := n0; clear n0 hb6))
          have HSa := Aside0.mk (HS.out.below HB.out)
          clear HTp HTq HLp HLq HSM HS hb0
          (try clear HC2 HN2 HC3 HN3)
          have HS := HSa
          clear HSa
          have b0 : w6.cell? ⟨gb, 0, none⟩ = some (.int .i64 a) := (blk_cell HS.out.box 0).trans rfl
          have b1 : w6.cell? ⟨gb, 1, none⟩ = some (.int .i64 b) := (blk_cell HS.out.box 1).trans rfl
          go_upto_region 24 with (go_at_call 33; refine (HG.out _ HB.out).mono ?_; rintro e w7 ⟨v7, rfl, ho7, hb7⟩; have HR7 := Aside0.mk ho7; have HB7 := Aside0.mk hb7; clear ho7 hb7)
          obtain ⟨G, hG⟩ : ∃ G, G = gapsR P a b := ⟨_, rfl⟩
          rw [← hG] at HR7
          have HGE := Aside0.mk hG
          obtain ⟨Ag, cg, rfl, hcg, _⟩ := Kd.R_reads HR7.out
          have HSb := Aside0.mk (HS.out.below HB7.out)
          have HRG := Aside0.mk (Kd.R_lower (base' := w.heap.size) HR7.out HS.out.bel.size)
          have hGl : G.length ≤ 1001 := by
            by_cases hc : canB a b = true
            · have := (gapsR_facts HFP.out a b hc).2.2
              rw [hG]
              exact this
            · rw [hG]; unfold gapsR; rw [if_neg hc]; simp
          have HGF := Aside0.mk (fun (i : Nat) (hi : i < G.length) => show (rd_T67 G (i : Int)).f0 < (rd_T67 G (i : Int)).f1 ∧ a ≤ (rd_T67 G (i : Int)).f0 ∧ (rd_T67 G (i : Int)).f1 ≤ b ∧ canB (rd_T67 G (i : Int)).f0 (rd_T67 G (i : Int)).f1 = true ∧ hasR P (rd_T67 G (i : Int)).f0 (rd_T67 G (i : Int)).f1 = false by
            have hm : rd_T67 G (i : Int) ∈ G := by
              unfold rd_T67
              rw [Int.toNat_natCast, List.getD_eq_getElem?_getD, List.getElem?_eq_getElem hi, Option.getD_some]
              exact List.getElem_mem hi
            by_cases hc : canB a b = true
            · have h := gap_one HFP.out a b hc (rd_T67 G (i : Int)) (by rw [← hG]; exact hm)
              exact ⟨h.1, h.2.1, h.2.2.1, h.2.2.2.1, h.2.2.2.2.1⟩
            · rw [hG] at hi
              unfold gapsR at hi
              rw [if_neg hc] at hi
              exact absurd hi (Nat.not_lt_zero _))
          clear hG hcg HR7 HB7 HB HG HS b0 b1
          go_upto_block 8 with fail
          go_cut [14] (fun v14 wd => v14 = .int .i64 (wrap64 (totL G)) ∧ Aside0 (SInv w wd gb gp gq a b P P) ∧ Aside0 (Kd.R k67 67 wd w.heap.size (fun _ => True) (.slice Ag G.length cg) G))
          case first =>
            go_wp2_with fail
            go_loopg [14, 15] G.length (fun kq v14 v15 wd => ∃ (i : Nat) (m : Int), kq + i = G.length ∧ v14 = .int .i64 m ∧ v15 = .int .i64 i ∧ Aside0 (m = wrap64 (totL (G.take i))) ∧ Aside0 (SInv w wd gb gp gq a b P P) ∧ Aside0 (Kd.R k67 67 wd w.heap.size (fun _ => True) (.slice Ag G.length cg) G))
            case atStart => exact ⟨0, 0, by omega, rfl, rfl, ⟨by rw [List.take_zero, show totL [] = 0 from rfl]; exact (IntWalk.wrap64_in _ (by decide)).symm⟩, HSb, HRG⟩
            case round =>
              clear HSb HRG
              obtain ⟨i, m, hk, rfl, rfl, HM, HS, HRG⟩ := hrel
              cases gk with
              | succ k1 =>
                have e1 : (i : Int) < (G.length : Int) := by omega
                have d1 : decide ((i : Int) < (G.length : Int)) = true := decide_eq_true e1
                have hw1 : wrap64 ((i : Int) + 1) = ((i + 1 : Nat) : Int) := wsucc _ (by omega)
                obtain ⟨f1, f2, f3, _, f5⟩ := HGF.out i (by omega)
                have hn := tot_take G i (by omega) m HM.out
                obtain ⟨y, hy⟩ : ∃ y, y = rd_T67 G (i : Int) := ⟨_, rfl⟩
                have HC := Aside0.mk (Kd.R_reads' HRG.out).2.2
                have p9 : 0 ≤ (i : Int) := by omega
                have q9 : (i : Int) < (G.length : Int) := by omega
                obtain ⟨ad9, e9, hx0, hx1⟩ := at_T67 HC.out (i : Int) p9 q9
                cases e9
                simp only [Int.toNat_natCast] at hx0 hx1
                replace p9 := eq_true p9
                replace q9 := eq_true q9
                rw [← hy] at hx0 hx1 f1 f2 f3 f5 hn
                have HN := Aside0.mk hn
                have HH := Aside0.mk (fun (W : World) (h : Below wr.heap.size wr W) => (show Calls Try.prog 38 #[.pointer (some ⟨gq, 0, none⟩), .agg #[.int .i64 y.f0, .int .i64 y.f1]] W fun e w' => e = .returned (.bool false) ∧ Below W.heap.size W w' from by
                  have h1 := has_set (HS.out.q.below h) (by have := HPL.out; omega) y.f0 y.f1
                  rw [f5] at h1
                  exact h1))
                have g1 : decide (y.f1 ≤ y.f0) = false := decide_eq_false (by omega)
                have g2 : decide (y.f0 < a) = false := decide_eq_false (by omega)
                have g3 : decide (b < y.f1) = false := decide_eq_false (by omega)
                clear hy hn f1 f2 f3 f5 HC
                obtain ⟨u, hu⟩ : ∃ u, u = y.f0 := ⟨_, rfl⟩
                obtain ⟨v, hv⟩ : ∃ v, v = y.f1 := ⟨_, rfl⟩
                rw [← hu, ← hv] at HN HH g1
                rw [← hu] at hx0 g2
                rw [← hv] at hx1 g3
                clear hu hv
                go_upto_region 28 with fail
                have y0 : wr.drew.cell? (ad9.add (i * 2)) = some (.int .i64 u) := hx0
                have y1 : wr.drew.cell? ⟨(ad9.add (i * 2)).block, (ad9.add (i * 2)).off + 1, none⟩ = some (.int .i64 v) := hx1
                have b0 : wr.drew.cell? ⟨gb, 0, none⟩ = some (.int .i64 a) := (blk_cell (show wr.drew.heap[gb]? = some (.cells #[.int .i64 a, .int .i64 b] 67 (0, 0)) from HS.out.box) 0).trans rfl
                have b1 : wr.drew.cell? ⟨gb, 1, none⟩ = some (.int .i64 b) := (blk_cell (show wr.drew.heap[gb]? = some (.cells #[.int .i64 a, .int .i64 b] 67 (0, 0)) from HS.out.box) 1).trans rfl
                have HHd := Aside0.mk (HH.out wr.drew (below_drew (Below.refl _ _)))
                have HBr := Aside0.mk (below_drew (Below.refl wr.heap.size wr))
                have HSd := Aside0.mk (HS.out.below HBr.out)
                have HRd := Aside0.mk (Kd.R_below HRG.out HBr.out)
                clear hx0 hx1 HH HBr HS HRG
                refine start_ (n := 39) (S := fun w' => w'.cell? (ad9.add (i * 2)) = some (.int .i64 u) ∧ w'.cell? ⟨(ad9.add (i * 2)).block, (ad9.add (i * 2)).off + 1, none⟩ = some (.int .i64 v) ∧ w'.cell? ⟨gb, 0, none⟩ = some (.int .i64 a) ∧ w'.cell? ⟨gb, 1, none⟩ = some (.int .i64 b)) (ds := []) #[false, false, false, false, false, false, false, false, false, false, false, false, false, false, false, false, false, false, false, false, false, false, false, false, false, false, false, false, false, false, false, false, false, false, false, false, false, false, false] (by kernel_rfl) rfl rfl ⟨y0, y1, b0, b1⟩ (fun hHeld => ?_)
                generalize wr.drew = wd at HHd HSd HRd y0 y1 b0 b1 hHeld ⊢
                refine pure_ (i := 0) (N := some 116) (v := ?_) (a' := ?_) #[true, false, false, false, false, false, false, false, false, false, false, false, false, false, false, false, false, false, false, false, false, false, false, false, false, false, false, false, false, false, false, false, false, false, false, false, false, false, false] rfl rfl (by kernel_rfl) (fun _ _ _ h => h) (Or.inl ⟨by rfl, ?_⟩) ?_ ?_
                rotate_left
                · intro w'
                  go_simp
                  with_reducible rfl
                rotate_left
                · simp only [Act.put, List.setIfInBounds_toArray, List.set_cons_zero, List.set_cons_succ, i64_w, i32_w]
                  rfl
                refine pure_ (i := 1) (N := some 117) (v := ?_) (a' := ?_) #[true, true, false, false, false, false, false, false, false, false, false, false, false, false, false, false, false, false, false, false, false, false, false, false, false, false, false, false, false, false, false, false, false, false, false, false, false, false, false] rfl rfl (by kernel_rfl) (fun _ _ _ h => h) (Or.inl ⟨by rfl, ?_⟩) ?_ ?_
                rotate_left
                · intro w'
                  go_simp
                  with_reducible rfl
                rotate_left
                · simp only [Act.put, List.setIfInBounds_toArray, List.set_cons_zero, List.set_cons_succ, i64_w, i32_w]
                  rfl
                refine pure_ (i := 2) (N := some 118) (v := ?_) (a' := ?_) #[true, true, true, false, false, false, false, false, false, false, false, false, false, false, false, false, false, false, false, false, false, false, false, false, false, false, false, false, false, false, false, false, false, false, false, false, false, false, false] rfl rfl (by kernel_rfl) (fun _ _ _ h => h) (Or.inl ⟨by rfl, ?_⟩) ?_ ?_
                rotate_left
                · intro w'
                  go_simp
                  with_reducible rfl
                rotate_left
                · simp only [Act.put, List.setIfInBounds_toArray, List.set_cons_zero, List.set_cons_succ, i64_w, i32_w]
                  rfl
                refine pure_ (i := 3) (N := some 119) (v := ?_) (a' := ?_) #[true, true, true, true, false, false, false, false, false, false, false, false, false, false, false, false, false, false, false, false, false, false, false, false, false, false, false, false, false, false, false, false, false, false, false, false, false, false, false] rfl rfl (by kernel_rfl) (fun _ _ _ h => h) (Or.inl ⟨by rfl, ?_⟩) ?_ ?_
                rotate_left
                · intro w'
                  go_simp
                  with_reducible rfl
                rotate_left
                · simp only [Act.put, List.setIfInBounds_toArray, List.set_cons_zero, List.set_cons_succ, i64_w, i32_w]
                  rfl
                refine pure_ (i := 5) (N := some 121) (v := ?_) (a' := ?_) #[true, true, true, true, false, true, false, false, false, false, false, false, false, false, false, false, false, false, false, false, false, false, false, false, false, false, false, false, false, false, false, false, false, false, false, false, false, false, false] rfl rfl (by kernel_rfl) (fun _ _ _ h => h) (Or.inl ⟨by rfl, ?_⟩) ?_ ?_
                rotate_left
                · intro w'
                  go_simp
                  with_reducible rfl
                rotate_left
                · simp only [Act.put, List.setIfInBounds_toArray, List.set_cons_zero, List.set_cons_succ, i64_w, i32_w]
                  rfl
                refine pure_ (i := 6) (N := some 122) (v := ?_) (a' := ?_) #[true, true, true, true, false, true, true, false, false, false, false, false, false, false, false, false, false, false, false, false, false, false, false, false, false, false, false, false, false, false, false, false, false, false, false, false, false, false, false] rfl rfl (by kernel_rfl) (fun _ _ _ h => h) (Or.inl ⟨by rfl, ?_⟩) ?_ ?_
                rotate_left
                · intro w'
                  go_simp
                  with_reducible rfl
                rotate_left
                · simp only [Act.put, List.setIfInBounds_toArray, List.set_cons_zero, List.set_cons_succ, i64_w, i32_w]
                  rfl
                refine pure_ (i := 7) (N := some 123) (v := ?_) (a' := ?_) #[true, true, true, true, false, true, true, true, false, false, false, false, false, false, false, false, false, false, false, false, false, false, false, false, false, false, false, false, false, false, false, false, false, false, false, false, false, false, false] rfl rfl (by kernel_rfl) (fun _ _ _ h => h) (Or.inl ⟨by rfl, ?_⟩) ?_ ?_
                rotate_left
                · intro w'
                  go_simp
                  with_reducible rfl
                rotate_left
                · simp only [Act.put, List.setIfInBounds_toArray, List.set_cons_zero, List.set_cons_succ, i64_w, i32_w]
                  rfl
                refine pure_ (i := 8) (N := some 124) (v := ?_) (a' := ?_) #[true, true, true, true, false, true, true, true, true, false, false, false, false, false, false, false, false, false, false, false, false, false, false, false, false, false, false, false, false, false, false, false, false, false, false, false, false, false, false] rfl rfl (by kernel_rfl) (fun _ _ _ h => h) (Or.inl ⟨by rfl, ?_⟩) ?_ ?_
                rotate_left
                · intro w'
                  go_simp
                  with_reducible rfl
                rotate_left
                · simp only [Act.put, List.setIfInBounds_toArray, List.set_cons_zero, List.set_cons_succ, i64_w, i32_w]
                  rfl
                refine take_ (i := 4) (N := some 120) (v := ?_) (a' := ?_) #[true, true, true, true, true, true, true, true, true, false, false, false, false, false, false, false, false, false, false, false, false, false, false, false, false, false, false, false, false, false, false, false, false, false, false, false, false, false, false] rfl rfl (by kernel_rfl) (fun _ _ _ h => h) (Or.inl ⟨by rfl, ?_⟩) hHeld ?_ ?_
                rotate_left
                · rintro w' ⟨s0, s1, s2, s3⟩
                  go_simp
                  with_reducible rfl
                rotate_left
                · simp only [Act.put, List.setIfInBounds_toArray, List.set_cons_zero, List.set_cons_succ, i64_w, i32_w]
                  rfl
                refine take_ (i := 9) (N := some 125) (v := ?_) (a' := ?_) #[true, true, true, true, true, true, true, true, true, true, false, false, false, false, false, false, false, false, false, false, false, false, false, false, false, false, false, false, false, false, false, false, false, false, false, false, false, false, false] rfl rfl (by kernel_rfl) (fun _ _ _ h => h) (Or.inl ⟨by rfl, ?_⟩) hHeld ?_ ?_
                rotate_left
                · rintro w' ⟨s0, s1, s2, s3⟩
                  go_simp
                  with_reducible rfl
                rotate_left
                · simp only [Act.put, List.setIfInBounds_toArray, List.set_cons_zero, List.set_cons_succ, i64_w, i32_w]
                  rfl
                refine pure_ (i := 10) (N := some 126) (v := ?_) (a' := ?_) #[true, true, true, true, true, true, true, true, true, true, true, false, false, false, false, false, false, false, false, false, false, false, false, false, false, false, false, false, false, false, false, false, false, false, false, false, false, false, false] rfl rfl (by kernel_rfl) (fun _ _ _ h => h) (Or.inl ⟨by rfl, ?_⟩) ?_ ?_
                rotate_left
                · intro w'
                  go_simp
                  with_reducible rfl
                rotate_left
                · simp only [Act.put, List.setIfInBounds_toArray, List.set_cons_zero, List.set_cons_succ, i64_w, i32_w]
                  rfl
                refine pure_ (i := 11) (N := some 127) (v := ?_) (a' := ?_) #[true, true, true, true, true, true, true, true, true, true, true, true, false, false, false, false, false, false, false, false, false, false, false, false, false, false, false, false, false, false, false, false, false, false, false, false, false, false, false] rfl rfl (by kernel_rfl) (fun _ _ _ h => h) (Or.inl ⟨by rfl, ?_⟩) ?_ ?_
                rotate_left
                · intro w'
                  go_simp
                  with_reducible rfl
                rotate_left
                · simp only [Act.put, List.setIfInBounds_toArray, List.set_cons_zero, List.set_cons_succ, i64_w, i32_w]
                  rfl
                refine pure_ (i := 12) (N := some 128) (v := ?_) (a' := ?_) #[true, true, true, true, true, true, true, true, true, true, true, true, true, false, false, false, false, false, false, false, false, false, false, false, false, false, false, false, false, false, false, false, false, false, false, false, false, false, false] rfl rfl (by kernel_rfl) (fun _ _ _ h => h) (Or.inl ⟨by rfl, ?_⟩) ?_ ?_
                rotate_left
                · intro w'
                  go_simp
                  with_reducible rfl
                rotate_left
                · simp only [Act.put, List.setIfInBounds_toArray, List.set_cons_zero, List.set_cons_succ, i64_w, i32_w]
                  rfl
                refine pure_ (i := 13) (N := some 129) (v := ?_) (a' := ?_) #[true, true, true, true, true, true, true, true, true, true, true, true, true, true, false, false, false, false, false, false, false, false, false, false, false, false, false, false, false, false, false, false, false, false, false, false, false, false, false] rfl rfl (by kernel_rfl) (fun _ _ _ h => h) (Or.inl ⟨by rfl, ?_⟩) ?_ ?_
                rotate_left
                · intro w'
                  go_simp
                  with_reducible rfl
                rotate_left
                · simp only [Act.put, List.setIfInBounds_toArray, List.set_cons_zero, List.set_cons_succ, i64_w, i32_w]
                  rfl
                refine pure_ (i := 14) (N := some 130) (v := ?_) (a' := ?_) #[true, true, true, true, true, true, true, true, true, true, true, true, true, true, true, false, false, false, false, false, false, false, false, false, false, false, false, false, false, false, false, false, false, false, false, false, false, false, false] rfl rfl (by kernel_rfl) (fun _ _ _ h => h) (Or.inl ⟨by rfl, ?_⟩) ?_ ?_
                rotate_left
                · intro w'
                  go_simp
                  with_reducible rfl
                rotate_left
                · simp only [Act.put, List.setIfInBounds_toArray, List.set_cons_zero, List.set_cons_succ, i64_w, i32_w]
                  rfl
                refine pure_ (i := 15) (N := some 131) (v := ?_) (a' := ?_) #[true, true, true, true, true, true, true, true, true, true, true, true, true, true, true, true, false, false, false, false, false, false, false, false, false, false, false, false, false, false, false, false, false, false, false, false, false, false, false] rfl rfl (by kernel_rfl) (fun _ _ _ h => h) (Or.inl ⟨by rfl, ?_⟩) ?_ ?_
                rotate_left
                · intro w'
                  go_simp
                  with_reducible rfl
                rotate_left
                · simp only [Act.put, List.setIfInBounds_toArray, List.set_cons_zero, List.set_cons_succ, i64_w, i32_w]
                  rfl
                refine pure_ (i := 17) (N := some 133) (v := ?_) (a' := ?_) #[true, true, true, true, true, true, true, true, true, true, true, true, true, true, true, true, false, true, false, false, false, false, false, false, false, false, false, false, false, false, false, false, false, false, false, false, false, false, false] rfl rfl (by kernel_rfl) (fun _ _ _ h => h) (Or.inl ⟨by rfl, ?_⟩) ?_ ?_
                rotate_left
                · intro w'
                  go_simp
                  with_reducible rfl
                rotate_left
                · simp only [Act.put, List.setIfInBounds_toArray, List.set_cons_zero, List.set_cons_succ, i64_w, i32_w]
                  rfl
                refine take_ (i := 16) (N := some 132) (v := ?_) (a' := ?_) #[true, true, true, true, true, true, true, true, true, true, true, true, true, true, true, true, true, true, false, false, false, false, false, false, false, false, false, false, false, false, false, false, false, false, false, false, false, false, false] rfl rfl (by kernel_rfl) (fun _ _ _ h => h) (Or.inl ⟨by rfl, ?_⟩) hHeld ?_ ?_
                rotate_left
                · rintro w' ⟨s0, s1, s2, s3⟩
                  go_simp
                  with_reducible rfl
                rotate_left
                · simp only [Act.put, List.setIfInBounds_toArray, List.set_cons_zero, List.set_cons_succ, i64_w, i32_w]
                  rfl
                refine take_ (i := 18) (N := some 134) (v := ?_) (a' := ?_) #[true, true, true, true, true, true, true, true, true, true, true, true, true, true, true, true, true, true, true, false, false, false, false, false, false, false, false, false, false, false, false, false, false, false, false, false, false, false, false] rfl rfl (by kernel_rfl) (fun _ _ _ h => h) (Or.inl ⟨by rfl, ?_⟩) hHeld ?_ ?_
                rotate_left
                · rintro w' ⟨s0, s1, s2, s3⟩
                  go_simp
                  with_reducible rfl
                rotate_left
                · simp only [Act.put, List.setIfInBounds_toArray, List.set_cons_zero, List.set_cons_succ, i64_w, i32_w]
                  rfl
                refine pure_ (i := 19) (N := some 135) (v := ?_) (a' := ?_) #[true, true, true, true, true, true, true, true, true, true, true, true, true, true, true, true, true, true, true, true, false, false, false, false, false, false, false, false, false, false, false, false, false, false, false, false, false, false, false] rfl rfl (by kernel_rfl) (fun _ _ _ h => h) (Or.inl ⟨by rfl, ?_⟩) ?_ ?_
                rotate_left
                · intro w'
                  go_simp
                  with_reducible rfl
                rotate_left
                · simp only [Act.put, List.setIfInBounds_toArray, List.set_cons_zero, List.set_cons_succ, i64_w, i32_w]
                  rfl
                refine pure_ (i := 20) (N := some 136) (v := ?_) (a' := ?_) #[true, true, true, true, true, true, true, true, true, true, true, true, true, true, true, true, true, true, true, true, true, false, false, false, false, false, false, false, false, false, false, false, false, false, false, false, false, false, false] rfl rfl (by kernel_rfl) (fun _ _ _ h => h) (Or.inl ⟨by rfl, ?_⟩) ?_ ?_
                rotate_left
                · intro w'
                  go_simp
                  with_reducible rfl
                rotate_left
                · simp only [Act.put, List.setIfInBounds_toArray, List.set_cons_zero, List.set_cons_succ, i64_w, i32_w]
                  rfl
                refine pure_ (i := 21) (N := some 137) (v := ?_) (a' := ?_) #[true, true, true, true, true, true, true, true, true, true, true, true, true, true, true, true, true, true, true, true, true, true, false, false, false, false, false, false, false, false, false, false, false, false, false, false, false, false, false] rfl rfl (by kernel_rfl) (fun _ _ _ h => h) (Or.inl ⟨by rfl, ?_⟩) ?_ ?_
                rotate_left
                · intro w'
                  go_simp
                  with_reducible rfl
                rotate_left
                · simp only [Act.put, List.setIfInBounds_toArray, List.set_cons_zero, List.set_cons_succ, i64_w, i32_w]
                  rfl
                refine pure_ (i := 22) (N := some 138) (v := ?_) (a' := ?_) #[true, true, true, true, true, true, true, true, true, true, true, true, true, true, true, true, true, true, true, true, true, true, true, false, false, false, false, false, false, false, false, false, false, false, false, false, false, false, false] rfl rfl (by kernel_rfl) (fun _ _ _ h => h) (Or.inl ⟨by rfl, ?_⟩) ?_ ?_
                rotate_left
                · intro w'
                  go_simp
                  with_reducible rfl
                rotate_left
                · simp only [Act.put, List.setIfInBounds_toArray, List.set_cons_zero, List.set_cons_succ, i64_w, i32_w]
                  rfl
                refine pure_ (i := 23) (N := some 139) (v := ?_) (a' := ?_) #[true, true, true, true, true, true, true, true, true, true, true, true, true, true, true, true, true, true, true, true, true, true, true, true, false, false, false, false, false, false, false, false, false, false, false, false, false, false, false] rfl rfl (by kernel_rfl) (fun _ _ _ h => h) (Or.inl ⟨by rfl, ?_⟩) ?_ ?_
                rotate_left
                · intro w'
                  go_simp
                  with_reducible rfl
                rotate_left
                · simp only [Act.put, List.setIfInBounds_toArray, List.set_cons_zero, List.set_cons_succ, i64_w, i32_w]
                  rfl
                refine pure_ (i := 24) (N := some 140) (v := ?_) (a' := ?_) #[true, true, true, true, true, true, true, true, true, true, true, true, true, true, true, true, true, true, true, true, true, true, true, true, true, false, false, false, false, false, false, false, false, false, false, false, false, false, false] rfl rfl (by kernel_rfl) (fun _ _ _ h => h) (Or.inl ⟨by rfl, ?_⟩) ?_ ?_
                rotate_left
                · intro w'
                  go_simp
                  with_reducible rfl
                rotate_left
                · simp only [Act.put, List.setIfInBounds_toArray, List.set_cons_zero, List.set_cons_succ, i64_w, i32_w]
                  rfl
                refine pure_ (i := 25) (N := some 141) (v := ?_) (a' := ?_) #[true, true, true, true, true, true, true, true, true, true, true, true, true, true, true, true, true, true, true, true, true, true, true, true, true, true, false, false, false, false, false, false, false, false, false, false, false, false, false] rfl rfl (by kernel_rfl) (fun _ _ _ h => h) (Or.inl ⟨by rfl, ?_⟩) ?_ ?_
                rotate_left
                · intro w'
                  go_simp
                  with_reducible rfl
                rotate_left
                · simp only [Act.put, List.setIfInBounds_toArray, List.set_cons_zero, List.set_cons_succ, i64_w, i32_w]
                  rfl
                refine pure_ (i := 27) (N := some 143) (v := ?_) (a' := ?_) #[true, true, true, true, true, true, true, true, true, true, true, true, true, true, true, true, true, true, true, true, true, true, true, true, true, true, false, true, false, false, false, false, false, false, false, false, false, false, false] rfl rfl (by kernel_rfl) (fun _ _ _ h => h) (Or.inl ⟨by rfl, ?_⟩) ?_ ?_
                rotate_left
                · intro w'
                  go_simp
                  with_reducible rfl
                rotate_left
                · simp only [Act.put, List.setIfInBounds_toArray, List.set_cons_zero, List.set_cons_succ, i64_w, i32_w]
                  rfl
                refine take_ (i := 26) (N := some 142) (v := ?_) (a' := ?_) #[true, true, true, true, true, true, true, true, true, true, true, true, true, true, true, true, true, true, true, true, true, true, true, true, true, true, true, true, false, false, false, false, false, false, false, false, false, false, false] rfl rfl (by kernel_rfl) (fun _ _ _ h => h) (Or.inl ⟨by rfl, ?_⟩) hHeld ?_ ?_
                rotate_left
                · rintro w' ⟨s0, s1, s2, s3⟩
                  go_simp
                  with_reducible rfl
                rotate_left
                · simp only [Act.put, List.setIfInBounds_toArray, List.set_cons_zero, List.set_cons_succ, i64_w, i32_w]
                  rfl
                refine take_ (i := 28) (N := some 144) (v := ?_) (a' := ?_) #[true, true, true, true, true, true, true, true, true, true, true, true, true, true, true, true, true, true, true, true, true, true, true, true, true, true, true, true, true, false, false, false, false, false, false, false, false, false, false] rfl rfl (by kernel_rfl) (fun _ _ _ h => h) (Or.inl ⟨by rfl, ?_⟩) hHeld ?_ ?_
                rotate_left
                · rintro w' ⟨s0, s1, s2, s3⟩
                  go_simp
                  with_reducible rfl
                rotate_left
                · simp only [Act.put, List.setIfInBounds_toArray, List.set_cons_zero, List.set_cons_succ, i64_w, i32_w]
                  rfl
                refine pure_ (i := 29) (N := some 145) (v := ?_) (a' := ?_) #[true, true, true, true, true, true, true, true, true, true, true, true, true, true, true, true, true, true, true, true, true, true, true, true, true, true, true, true, true, true, false, false, false, false, false, false, false, false, false] rfl rfl (by kernel_rfl) (fun _ _ _ h => h) (Or.inl ⟨by rfl, ?_⟩) ?_ ?_
                rotate_left
                · intro w'
                  go_simp
                  with_reducible rfl
                rotate_left
                · simp only [Act.put, List.setIfInBounds_toArray, List.set_cons_zero, List.set_cons_succ, i64_w, i32_w]
                  rfl
                refine pure_ (i := 30) (N := some 146) (v := ?_) (a' := ?_) #[true, true, true, true, true, true, true, true, true, true, true, true, true, true, true, true, true, true, true, true, true, true, true, true, true, true, true, true, true, true, true, false, false, false, false, false, false, false, false] rfl rfl (by kernel_rfl) (fun _ _ _ h => h) (Or.inl ⟨by rfl, ?_⟩) ?_ ?_
                rotate_left
                · intro w'
                  go_simp
                  with_reducible rfl
                rotate_left
                · simp only [Act.put, List.setIfInBounds_toArray, List.set_cons_zero, List.set_cons_succ, i64_w, i32_w]
                  rfl
                refine pure_ (i := 31) (N := some 147) (v := ?_) (a' := ?_) #[true, true, true, true, true, true, true, true, true, true, true, true, true, true, true, true, true, true, true, true, true, true, true, true, true, true, true, true, true, true, true, true, false, false, false, false, false, false, false] rfl rfl (by kernel_rfl) (fun _ _ _ h => h) (Or.inl ⟨by rfl, ?_⟩) ?_ ?_
                rotate_left
                · intro w'
                  go_simp
                  with_reducible rfl
                rotate_left
                · simp only [Act.put, List.setIfInBounds_toArray, List.set_cons_zero, List.set_cons_succ, i64_w, i32_w]
                  rfl
                refine pure_ (i := 32) (N := some 148) (v := ?_) (a' := ?_) #[true, true, true, true, true, true, true, true, true, true, true, true, true, true, true, true, true, true, true, true, true, true, true, true, true, true, true, true, true, true, true, true, true, false, false, false, false, false, false] rfl rfl (by kernel_rfl) (fun _ _ _ h => h) (Or.inl ⟨by rfl, ?_⟩) ?_ ?_
                rotate_left
                · intro w'
                  go_simp
                  with_reducible rfl
                rotate_left
                · simp only [Act.put, List.setIfInBounds_toArray, List.set_cons_zero, List.set_cons_succ, i64_w, i32_w]
                  rfl
                refine pure_ (i := 33) (N := some 149) (v := ?_) (a' := ?_) #[true, true, true, true, true, true, true, true, true, true, true, true, true, true, true, true, true, true, true, true, true, true, true, true, true, true, true, true, true, true, true, true, true, true, false, false, false, false, false] rfl rfl (by kernel_rfl) (fun _ _ _ h => h) (Or.inl ⟨by rfl, ?_⟩) ?_ ?_
                rotate_left
                · intro w'
                  go_simp
                  with_reducible rfl
                rotate_left
                · simp only [Act.put, List.setIfInBounds_toArray, List.set_cons_zero, List.set_cons_succ, i64_w, i32_w]
                  rfl
                refine pure_ (i := 34) (N := some 150) (v := ?_) (a' := ?_) #[true, true, true, true, true, true, true, true, true, true, true, true, true, true, true, true, true, true, true, true, true, true, true, true, true, true, true, true, true, true, true, true, true, true, true, false, false, false, false] rfl rfl (by kernel_rfl) (fun _ _ _ h => h) (Or.inl ⟨by rfl, ?_⟩) ?_ ?_
                rotate_left
                · intro w'
                  go_simp
                  with_reducible rfl
                rotate_left
                · simp only [Act.put, List.setIfInBounds_toArray, List.set_cons_zero, List.set_cons_succ, i64_w, i32_w]
                  rfl
                refine pure_ (i := 35) (N := some 151) (v := ?_) (a' := ?_) #[true, true, true, true, true, true, true, true, true, true, true, true, true, true, true, true, true, true, true, true, true, true, true, true, true, true, true, true, true, true, true, true, true, true, true, true, false, false, false] rfl rfl (by kernel_rfl) (fun _ _ _ h => h) (Or.inl ⟨by rfl, ?_⟩) ?_ ?_
                rotate_left
                · intro w'
                  go_simp
                  with_reducible rfl
                rotate_left
                · simp only [Act.put, List.setIfInBounds_toArray, List.set_cons_zero, List.set_cons_succ, i64_w, i32_w]
                  rfl
                refine take_ (i := 36) (N := some 152) (v := ?_) (a' := ?_) #[true, true, true, true, true, true, true, true, true, true, true, true, true, true, true, true, true, true, true, true, true, true, true, true, true, true, true, true, true, true, true, true, true, true, true, true, true, false, false] rfl rfl (by kernel_rfl) (fun _ _ _ h => h) (Or.inl ⟨by rfl, ?_⟩) hHeld ?_ ?_
                rotate_left
                · rintro w' ⟨s0, s1, s2, s3⟩
                  go_simp
                  with_reducible rfl
                rotate_left
                · simp only [Act.put, List.setIfInBounds_toArray, List.set_cons_zero, List.set_cons_succ, i64_w, i32_w]
                  rfl
                refine one_ (i := 37) (N := some 153) #[true, true, true, true, true, true, true, true, true, true, true, true, true, true, true, true, true, true, true, true, true, true, true, true, true, true, true, true, true, true, true, true, true, true, true, true, true, true, false] rfl rfl (by kernel_rfl) (by decide) (fun K hK => ?_)
                refine goes_ Try.func38 (by kernel_rfl) rfl #[.pointer (some ⟨gq, 0, none⟩), .agg #[.int .i64 u, .int .i64 v]] (by rfl) rfl rfl (by simp only [List.map_toArray, List.map_cons, List.map_nil]; rfl) ?_
                with_reducible refine (HHd.out).mono ?_
                rintro e w8 ⟨rfl, hb8⟩
                refine ⟨_, rfl, ?_⟩
                have HB8 := Aside0.mk hb8
                refine hK.out _ _ ⟨pw_cell_below hb8 y0, pw_cell_below hb8 y1, pw_cell_below hb8 b0, pw_cell_below hb8 b1⟩ (fun hHeld => ?_)
                clear hK K
                refine norm_ (a' := ?_) ?_ ?_
                rotate_left
                · show Act.put _ (some 153) _ = _
                  simp only [Act.put, List.setIfInBounds_toArray, List.set_cons_zero, List.set_cons_succ, i64_w, i32_w]
                  rfl
                refine pure_ (i := 38) (N := some 154) (v := ?_) (a' := ?_) #[true, true, true, true, true, true, true, true, true, true, true, true, true, true, true, true, true, true, true, true, true, true, true, true, true, true, true, true, true, true, true, true, true, true, true, true, true, true, true] rfl rfl (by kernel_rfl) (fun _ _ _ h => h) (Or.inl ⟨by rfl, ?_⟩) ?_ ?_
                rotate_left
                · intro w'
                  go_simp
                  with_reducible rfl
                rotate_left
                · simp only [Act.put, List.setIfInBounds_toArray, List.set_cons_zero, List.set_cons_succ, i64_w, i32_w]
                  rfl
                refine done_ (by kernel_rfl) ?_
                have HS8 := Aside0.mk (HSd.out.below HB8.out)
                have HR8 := Aside0.mk (Kd.R_below HRd.out HB8.out)
                clear HSd HRd
                go_upto_region 30 with fail
                have z0 : w8.drew.cell? (ad9.add (i * 2)) = some (.int .i64 u) := pw_cell_below HB8.out y0
                have z1 : w8.drew.cell? ⟨(ad9.add (i * 2)).block, (ad9.add (i * 2)).off + 1, none⟩ = some (.int .i64 v) := pw_cell_below HB8.out y1
                have HBr := Aside0.mk (below_drew (Below.refl w8.heap.size w8))
                have HS9 := Aside0.mk (HS8.out.below HBr.out)
                have HR9 := Aside0.mk (Kd.R_below HR8.out HBr.out)
                clear y0 y1 b0 b1 HS8 HR8 HB8 HBr
                refine start_ (n := 14) (S := fun w' => w'.cell? (ad9.add (i * 2)) = some (.int .i64 u) ∧ w'.cell? ⟨(ad9.add (i * 2)).block, (ad9.add (i * 2)).off + 1, none⟩ = some (.int .i64 v)) (ds := []) #[false, false, false, false, false, false, false, false, false, false, false, false, false, false] (by kernel_rfl) rfl rfl ⟨z0, z1⟩ (fun hHeld => ?_)
                generalize w8.drew = wd9 at HS9 HR9 z0 z1 hHeld ⊢
                refine pure_ (i := 0) (N := some 155) (v := ?_) (a' := ?_) #[true, false, false, false, false, false, false, false, false, false, false, false, false, false] rfl rfl (by kernel_rfl) (fun _ _ _ h => h) (Or.inl ⟨by rfl, ?_⟩) ?_ ?_
                rotate_left
                · intro w'
                  go_simp
                  with_reducible rfl
                rotate_left
                · simp only [Act.put, List.setIfInBounds_toArray, List.set_cons_zero, List.set_cons_succ, i64_w, i32_w]
                  rfl
                refine pure_ (i := 1) (N := some 156) (v := ?_) (a' := ?_) #[true, true, false, false, false, false, false, false, false, false, false, false, false, false] rfl rfl (by kernel_rfl) (fun _ _ _ h => h) (Or.inl ⟨by rfl, ?_⟩) ?_ ?_
                rotate_left
                · intro w'
                  go_simp
                  with_reducible rfl
                rotate_left
                · simp only [Act.put, List.setIfInBounds_toArray, List.set_cons_zero, List.set_cons_succ, i64_w, i32_w]
                  rfl
                refine pure_ (i := 2) (N := some 157) (v := ?_) (a' := ?_) #[true, true, true, false, false, false, false, false, false, false, false, false, false, false] rfl rfl (by kernel_rfl) (fun _ _ _ h => h) (Or.inl ⟨by rfl, ?_⟩) ?_ ?_
                rotate_left
                · intro w'
                  go_simp
                  with_reducible rfl
                rotate_left
                · simp only [Act.put, List.setIfInBounds_toArray, List.set_cons_zero, List.set_cons_succ, i64_w, i32_w]
                  rfl
                refine pure_ (i := 3) (N := some 158) (v := ?_) (a' := ?_) #[true, true, true, true, false, false, false, false, false, false, false, false, false, false] rfl rfl (by kernel_rfl) (fun _ _ _ h => h) (Or.inl ⟨by rfl, ?_⟩) ?_ ?_
                rotate_left
                · intro w'
                  go_simp
                  with_reducible rfl
                rotate_left
                · simp only [Act.put, List.setIfInBounds_toArray, List.set_cons_zero, List.set_cons_succ, i64_w, i32_w]
                  rfl
                refine pure_ (i := 4) (N := some 159) (v := ?_) (a' := ?_) #[true, true, true, true, true, false, false, false, false, false, false, false, false, false] rfl rfl (by kernel_rfl) (fun _ _ _ h => h) (Or.inl ⟨by rfl, ?_⟩) ?_ ?_
                rotate_left
                · intro w'
                  go_simp
                  with_reducible rfl
                rotate_left
                · simp only [Act.put, List.setIfInBounds_toArray, List.set_cons_zero, List.set_cons_succ, i64_w, i32_w]
                  rfl
                refine pure_ (i := 7) (N := some 162) (v := ?_) (a' := ?_) #[true, true, true, true, true, false, false, true, false, false, false, false, false, false] rfl rfl (by kernel_rfl) (fun _ _ _ h => h) (Or.inl ⟨by rfl, ?_⟩) ?_ ?_
                rotate_left
                · intro w'
                  go_simp
                  with_reducible rfl
                rotate_left
                · simp only [Act.put, List.setIfInBounds_toArray, List.set_cons_zero, List.set_cons_succ, i64_w, i32_w]
                  rfl
                refine pure_ (i := 8) (N := some 163) (v := ?_) (a' := ?_) #[true, true, true, true, true, false, false, true, true, false, false, false, false, false] rfl rfl (by kernel_rfl) (fun _ _ _ h => h) (Or.inl ⟨by rfl, ?_⟩) ?_ ?_
                rotate_left
                · intro w'
                  go_simp
                  with_reducible rfl
                rotate_left
                · simp only [Act.put, List.setIfInBounds_toArray, List.set_cons_zero, List.set_cons_succ, i64_w, i32_w]
                  rfl
                refine pure_ (i := 9) (N := some 164) (v := ?_) (a' := ?_) #[true, true, true, true, true, false, false, true, true, true, false, false, false, false] rfl rfl (by kernel_rfl) (fun _ _ _ h => h) (Or.inl ⟨by rfl, ?_⟩) ?_ ?_
                rotate_left
                · intro w'
                  go_simp
                  with_reducible rfl
                rotate_left
                · simp only [Act.put, List.setIfInBounds_toArray, List.set_cons_zero, List.set_cons_succ, i64_w, i32_w]
                  rfl
                refine pure_ (i := 10) (N := some 165) (v := ?_) (a' := ?_) #[true, true, true, true, true, false, false, true, true, true, true, false, false, false] rfl rfl (by kernel_rfl) (fun _ _ _ h => h) (Or.inl ⟨by rfl, ?_⟩) ?_ ?_
                rotate_left
                · intro w'
                  go_simp
                  with_reducible rfl
                rotate_left
                · simp only [Act.put, List.setIfInBounds_toArray, List.set_cons_zero, List.set_cons_succ, i64_w, i32_w]
                  rfl
                refine take_ (i := 5) (N := some 160) (v := ?_) (a' := ?_) #[true, true, true, true, true, true, false, true, true, true, true, false, false, false] rfl rfl (by kernel_rfl) (fun _ _ _ h => h) (Or.inl ⟨by rfl, ?_⟩) hHeld ?_ ?_
                rotate_left
                · rintro w' ⟨s0, s1⟩
                  go_simp
                  with_reducible rfl
                rotate_left
                · simp only [Act.put, List.setIfInBounds_toArray, List.set_cons_zero, List.set_cons_succ, i64_w, i32_w]
                  rfl
                refine pure_ (i := 6) (N := some 161) (v := ?_) (a' := ?_) #[true, true, true, true, true, true, true, true, true, true, true, false, false, false] rfl rfl (by kernel_rfl) (fun _ _ _ h => h) (Or.inl ⟨by rfl, ?_⟩) ?_ ?_
                rotate_left
                · intro w'
                  go_simp
                  with_reducible rfl
                rotate_left
                · simp only [Act.put, List.setIfInBounds_toArray, List.set_cons_zero, List.set_cons_succ, i64_w, i32_w]
                  rfl
                refine take_ (i := 11) (N := some 166) (v := ?_) (a' := ?_) #[true, true, true, true, true, true, true, true, true, true, true, true, false, false] rfl rfl (by kernel_rfl) (fun _ _ _ h => h) (Or.inl ⟨by rfl, ?_⟩) hHeld ?_ ?_
                rotate_left
                · rintro w' ⟨s0, s1⟩
                  go_simp
                  with_reducible rfl
                rotate_left
                · simp only [Act.put, List.setIfInBounds_toArray, List.set_cons_zero, List.set_cons_succ, i64_w, i32_w]
                  rfl
                refine pure_ (i := 12) (N := some 167) (v := ?_) (a' := ?_) #[true, true, true, true, true, true, true, true, true, true, true, true, true, false] rfl rfl (by kernel_rfl) (fun _ _ _ h => h) (Or.inl ⟨by rfl, ?_⟩) ?_ ?_
                rotate_left
                · intro w'
                  go_simp
                  with_reducible rfl
                rotate_left
                · simp only [Act.put, List.setIfInBounds_toArray, List.set_cons_zero, List.set_cons_succ, i64_w, i32_w]
                  rfl
                refine pure_ (i := 13) (N := some 14) (v := ?_) (a' := ?_) #[true, true, true, true, true, true, true, true, true, true, true, true, true, true] rfl rfl (by kernel_rfl) (fun _ _ _ h => h) (Or.inl ⟨by rfl, ?_⟩) ?_ ?_
                rotate_left
                · intro w'
                  go_simp
                  with_reducible rfl
                rotate_left
                · simp only [Act.put, List.setIfInBounds_toArray, List.set_cons_zero, List.set_cons_succ, i64_w, i32_w]
                  rfl
                refine done_ (by kernel_rfl) ?_
                go_wp2_with fail
                go_roundg k1
                case measure => omega
                case rel => exact ⟨i + 1, _, by omega, rfl, by simp, HN, HS9, HR9⟩
              | zero =>
                have hi : i = G.length := by omega
                have e1 : ¬ ((i : Int) < (G.length : Int)) := by omega
                have d1 : decide ((i : Int) < (G.length : Int)) = false := decide_eq_false e1
                have HME := Aside0.mk (show m = wrap64 (totL G) by rw [HM.out, hi, List.take_length])
                clear hi hk HM
                go_wp2_with fail
                go_meet
                case rel => exact ⟨by rw [HME.out], HS, HRG⟩
          case rest =>
            clear HSb HRG
            obtain ⟨rfl, HS, HRG⟩ := hcut
            obtain ⟨tg, htg⟩ : ∃ t, t = wrap64 (totL G) := ⟨_, rfl⟩
            have HTG := Aside0.mk htg
            rw [← htg]
            clear htg
            have b0 : wc.cell? ⟨gb, 0, none⟩ = some (.int .i64 a) := (blk_cell HS.out.box 0).trans rfl
            have b1 : wc.cell? ⟨gb, 1, none⟩ = some (.int .i64 b) := (blk_cell HS.out.box 1).trans rfl
            by_cases hc : canB a b = true
            rotate_left
            · have hz : ((G.length : Int) == 0) = true := by
                rw [HGE.out]; unfold gapsR; rw [if_neg hc]; rfl
              have hc' : ¬ (0 ≤ a ∧ a ≤ b) := fun h => hc ((canB_iff a b).2 h)
              clear hc HGE HGF HTG HPL HFP
              by_cases ca : a < 0
              · have d1 : decide (a < 0) = true := decide_eq_true ca
                clear hc'
                go_wp2_with fail
                go_ret
                exact ⟨rfl, HS.out.bel⟩
              · have d1 : decide (a < 0) = false := decide_eq_false ca
                have cb : b < a := by omega
                have d2 : decide (b < a) = true := decide_eq_true cb
                clear hc'
                go_wp2_with fail
                go_ret
                exact ⟨rfl, HS.out.bel⟩
            · have hab := (canB_iff a b).1 hc
              have ca : ¬ (a < 0) := by omega
              have cb : ¬ (b < a) := by omega
              have d1 : decide (a < 0) = false := decide_eq_false ca
              have d2 : decide (b < a) = false := decide_eq_false cb
              have HHA := Aside0.mk (show hasR (addN P G) a b = true by rw [HGE.out]; exact has_all HFP.out (by omega) a b hc)
              have HTA := Aside0.mk (show totL (addN P G) = totL P + totL G by rw [HGE.out]; exact tot_all HFP.out (by omega) a b hc)
              have HFN := Aside0.mk (fun i : Nat => show Fine (addN P (G.take i)) 2001 from (addN_facts (G.take i) HFP.out (by rw [List.length_take]; omega)).1.mono (by rw [List.length_take]; omega))
              clear hc hab
              go_upto_block 10 with fail
              go_wp2_with fail
              go_loopg [16] G.length (fun kq v16 wd => ∃ i : Nat, kq + i = G.length ∧ v16 = .int .i64 i ∧ Aside0 (SInv w wd gb gp gq a b P (addN P (G.take i))) ∧ Aside0 (Kd.R k67 67 wd w.heap.size (fun _ => True) (.slice Ag G.length cg) G))
              case atStart => exact ⟨0, by omega, rfl, HS, HRG⟩
              case round =>
                clear HS HRG b0 b1
                obtain ⟨i, hk, rfl, HS, HRG⟩ := hrel
                cases gk with
                | succ k1 =>
                  have e1 : (i : Int) < (G.length : Int) := by omega
                  have d3 : decide ((i : Int) < (G.length : Int)) = true := decide_eq_true e1
                  have hw1 : wrap64 ((i : Int) + 1) = ((i + 1 : Nat) : Int) := wsucc _ (by omega)
                  obtain ⟨_, _, _, f4, _⟩ := HGF.out i (by omega)
                  have hst := addN_take P G i (by omega)
                  have h0 := (addR_facts (HFN.out i) (by omega) (rd_T67 G (i : Int)).f0 (rd_T67 G (i : Int)).f1).2.2 f4
                  have hA := add_set HS.out.q HS.out.bel.size (by have := (HFN.out i).len; omega) (rd_T67 G (i : Int)).f0 (rd_T67 G (i : Int)).f1
                  rw [h0, ← hst] at hA
                  obtain ⟨y, hy⟩ : ∃ y, y = rd_T67 G (i : Int) := ⟨_, rfl⟩
                  have HC := Aside0.mk (Kd.R_reads' HRG.out).2.2
                  have p9 : 0 ≤ (i : Int) := by omega
                  have q9 : (i : Int) < (G.length : Int) := by omega
                  obtain ⟨ad9, e9, hx0, hx1⟩ := at_T67 HC.out (i : Int) p9 q9
                  cases e9
                  simp only [Int.toNat_natCast] at hx0 hx1
                  replace p9 := eq_true p9
                  replace q9 := eq_true q9
                  rw [← hy] at hx0 hx1 hA
                  have HA := Aside0.mk hA
                  have HSN := Aside0.mk (fun (W' : World) (hs : IsSet W' w.heap.size gq (addN P (G.take (i + 1)))) (ht : Touch wr W' gq) => (show SInv w W' gb gp gq a b P (addN P (G.take (i + 1))) from HS.out.setQ hs ht))
                  have HRN := Aside0.mk (fun (W' : World) (ht : Touch wr W' gq) => ht.R HS.out.q.holds.choose_spec HRG.out)
                  clear hy hA hst h0 f4 HC HS HRG
                  go_wp2_with (go_at_call 30; refine HA.out.mono ?_; rintro e w8 ⟨rfl, hs8, ht8⟩; have HS8 := Aside0.mk (HSN.out w8 hs8 ht8); have HR8 := Aside0.mk (HRN.out w8 ht8); clear hs8 ht8)
                  go_roundg k1
                  case measure => omega
                  case rel => exact ⟨i + 1, by omega, by simp, HS8, HR8⟩
                | zero =>
                  have hi : i = G.length := by omega
                  have e1 : ¬ ((i : Int) < (G.length : Int)) := by omega
                  have d3 : decide ((i : Int) < (G.length : Int)) = false := decide_eq_false e1
                  have HSE := Aside0.mk (show SInv w wr gb gp gq a b P (addN P G) by
                    have h := HS.out
                    rw [hi, List.take_length] at h
                    exact h)
                  have HQL := Aside0.mk (show (addN P G).length ≤ 2001 by
                    have h := (HFN.out G.length).len
                    rw [List.take_length] at h
                    exact h)
                  clear hi hk HS HRG HFN HGF HGE
                  obtain ⟨Q, hQ⟩ : ∃ Q, Q = addN P G := ⟨_, rfl⟩
                  rw [← hQ] at HSE HQL HHA HTA
                  clear hQ
                  obtain ⟨tp, htp⟩ : ∃ t, t = wrap64 (totL P) := ⟨_, rfl⟩
                  obtain ⟨tq, htq⟩ : ∃ t, t = wrap64 (totL Q) := ⟨_, rfl⟩
                  have heq : (tq == wrap64 (tp + tg)) = true := by
                    rw [htq, htp, HTG.out, HTA.out, wrap_add2]
                    simp
                  have HH := Aside0.mk (fun (W : World) (h : Below wr.heap.size wr W) => (show Calls Try.prog 38 #[.pointer (some ⟨gq, 0, none⟩), .agg #[.int .i64 a, .int .i64 b]] W fun e w' => e = .returned (.bool true) ∧ Below W.heap.size W w' from by
                    have h1 := has_set (HSE.out.q.below h) (by have := HQL.out; omega) a b
                    rw [HHA.out] at h1
                    exact h1))
                  have HTq := Aside0.mk (fun (W : World) (h : Below wr.heap.size wr W) => (show Calls Try.prog 36 #[.pointer (some ⟨gq, 0, none⟩)] W fun e w' => e = .returned (.int .i64 tq) ∧ Below W.heap.size W w' from by
                    rw [htq]
                    exact tot_set (HSE.out.q.below h) (by have := HQL.out; omega)))
                  have HTp := Aside0.mk (fun (W : World) (h : Below wr.heap.size wr W) => (show Calls Try.prog 36 #[.pointer (some ⟨gp, 0, none⟩)] W fun e w' => e = .returned (.int .i64 tp) ∧ Below W.heap.size W w' from by
                    rw [htp]
                    exact tot_set (HSE.out.p.below h) (by have := HPL.out; omega)))
                  have b0 : wr.cell? ⟨gb, 0, none⟩ = some (.int .i64 a) := (blk_cell HSE.out.box 0).trans rfl
                  have b1 : wr.cell? ⟨gb, 1, none⟩ = some (.int .i64 b) := (blk_cell HSE.out.box 1).trans rfl
                  have HBW := Aside0.mk HSE.out.bel
                  have HBX := Aside0.mk HSE.out.box
                  have HB := Aside0.mk (Below.refl wr.heap.size wr)
                  clear htp htq HTG HTA HHA HQL HSE HPL HFP d1 d2 ca cb
                  go_wp2_with (first | ((with_reducible refine gate_dst (N := 195) rfl ?_); refine box_event ?hg (N := 195) ?hd (cs := #[.slice none 0 0]) (t := 65) ?hr ?_; (case hd => rfl); (case hg => rfl); (case hr => first | (go_simp; done) | (go_simp; rfl)); intro gn hgv w9 hbox hb; have n0 := Aside0.mk (below_step HB.out hb); have n1 := Aside0.mk (below_step HBW.out hb); have n2 := Aside0.mk (blk_below HBX.out hb); have LN := Aside0.mk (show w.heap.size ≤ gn by rw [hgv]; exact HBW.out.size); have HO := Aside0.mk (show IsSet w9 w.heap.size gn [] from ⟨_, hbox, Kd.R_nil _ _ _ _ _⟩); clear HB HBW HBX; have HB := n0; have HBW := n1; have HBX := n2; have x0 : w9.cell? ⟨gb, 0, none⟩ = some (.int .i64 a) := (blk_cell HBX.out 0).trans rfl; have x1 : w9.cell? ⟨gb, 1, none⟩ = some (.int .i64 b) := (blk_cell HBX.out 1).trans rfl; clear n0 n1 n2 hb hbox hgv) | (go_at_call 38; (with_reducible refine (HH.out _ HB.out).mono ?_); rintro e w10 ⟨rfl, hb10⟩; have n0 := Aside0.mk (below_step HB.out hb10); have n1 := Aside0.mk (below_step HBW.out hb10); have n2 := Aside0.mk (HO.out.below hb10); clear HB HBW HO; have HB := n0; have HBW := n1; have HO := n2; clear n0 n1 n2 hb10) | (go_at_call 36; (with_reducible refine (HTq.out _ HB.out).mono ?_); rintro e w11 ⟨rfl, hb11⟩; have n0 := Aside0.mk (below_step HB.out hb11); have n1 := Aside0.mk (below_step HBW.out hb11); have n2 := Aside0.mk (HO.out.below hb11); clear HB HBW HO; have HB := n0; have HBW := n1; have HO := n2; clear n0 n1 n2 hb11) | (go_at_call 36; (with_reducible refine (HTp.out _ HB.out).mono ?_); rintro e w12 ⟨rfl, hb12⟩; have n0 := Aside0.mk (below_step HB.out hb12); have n1 := Aside0.mk (below_step HBW.out hb12); have n2 := Aside0.mk (HO.out.below hb12); clear HB HBW HO; have HB := n0; have HBW := n1; have HO := n2; clear n0 n1 n2 hb12) | (go_at_call 30; refine (add_set HO.out HBW.out.size (by simp) 1 3).mono ?_; rintro e w13 ⟨he, hs13, ht13⟩; rw [one_set] at he hs13; dsimp only at he hs13; subst he; have n1 := Aside0.mk (ht13.below HBW.out LN.out); have n2 := Aside0.mk hs13; clear HBW HO HB; have HBW := n1; have HO1 := n2; clear n1 n2 hs13 ht13) | (go_at_call 36; refine (tot_set HO1.out (by simp)).mono ?_; rintro e w14 ⟨he, hb14⟩; rw [one_tot] at he; subst he; have n1 := Aside0.mk (below_step HBW.out hb14); clear HBW; have HBW := n1; clear n1 hb14))
                  go_ret
                  exact ⟨rfl, HBW.out⟩
end Go.Proofs.Ytanbicpkdkcpbaa.Rng
