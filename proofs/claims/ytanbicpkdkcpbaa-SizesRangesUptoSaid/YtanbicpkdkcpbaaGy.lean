/- SizesRanges: the walk. -/
import Derived.Test.YtanbicpkdkcpbaaGx
import Derived.Deep.CutBlock
import Derived.Deep.QuietTactic
import Derived.BigQuiet
import Derived.OwnWalk
namespace Go.Proofs.Ytanbicpkdkcpbaa.Rng
open Go.RowKit Go.Proofs.Ytanbicpkdkcpbaa.W Go.Proofs.Ytanbicpkdkcpbaa.RSizesRanges Go.Proofs.YtanbicpkdkcpbaaW.PrintWords Go.Proofs.YtanbicpkdkcpbaaW.PrintLast Go.Proofs.YtanbicpkdkcpbaaW.PrintMore
set_option linter.unusedVariables false
set_option linter.unusedSimpArgs false
set_option maxHeartbeats 16000000 in
set_option maxRecDepth 100000 in
theorem ranges_walk (A0 : Option Addr) (c0 : Nat) (l : List Act) (w : World) (hr0 : Acts w A0 l) (hl : l.length ≤ 1000000000) :
    Calls Try.prog 8 #[.slice A0 l.length c0] w fun e w' => e = .returned (.bool true) ∧ Below w.heap.size w w' := by
  have HR0 := Aside0.mk hr0
  have HB := Aside0.mk (Below.refl w.heap.size w)
  clear hr0
  go_enter Try.func8, Try.ntmps8
  go_upto_region 3 with (first | ((with_reducible refine gate_dst (N := 16) rfl ?_); refine box_event ?hg (N := 16) ?hd (cs := #[.slice none 0 0]) (t := 65) ?hr ?_; (case hd => rfl); (case hg => rfl); (case hr => first | (go_simp; done) | (go_simp; rfl)); intro gp hgv wa hbox hb; have n0 := Aside0.mk (below_step HB.out hb); have n1 := Aside0.mk (show w.heap.size ≤ gp by rw [hgv]; exact below_size HB.out); have BP := Aside0.mk hbox; have LP := n1; clear n1; clear HB; have HB := n0; clear n0 hb hbox hgv) | ((with_reducible refine gate_dst (N := 17) rfl ?_); refine Kd.R_lit k67 _ 67 ?hg (N := 17) ?hd (xs := ([] : List S67)) (inner := []) (ok := fun _ => True) (okp := fun _ => True) ?hr ?hp (fun _ hk => hk) trivial (Below.refl _ _) (Nat.le_refl _) (by simp) ?_; (case hd => rfl); (case hg => rfl); (case hr => first | (go_simp; done) | (go_simp; rfl)); (case hp => exact (Reps.none _ _)); intro vd0 wb ho4 hb hg_ hnew_; clear hg_ hnew_; have HD := Aside0.mk (Kd.R_lower ho4 (below_size HB.out)); have n1 := Aside0.mk (blk_below BP.out hb); have n0 := Aside0.mk (below_step HB.out hb); clear HB BP; have HB := n0; have BP := n1; clear n0 n1 hb ho4))
  have HS := Aside0.mk (show RInv w wb gp (runL l 0) vd0 from ⟨HB.out, ⟨_, BP.out, Kd.R_nil _ _ _ _ _⟩, LP.out, HD.out⟩)
  clear HB BP HD LP
  go_wp2_with fail
  go_loopg [4, 5] l.length (fun kq v4 v5 wd => ∃ i : Nat, kq + i = l.length ∧ v5 = .int .i64 i ∧ Aside0 (RInv w wd gp (runL l i) v4))
  case atStart => exact ⟨0, by omega, rfl, HS⟩
  case round =>
    clear HS
    obtain ⟨i, hk, rfl, HS⟩ := hrel
    cases gk with
    | succ k1 =>
      have e1 : (i : Int) < (l.length : Int) := by omega
      have d1 : decide ((i : Int) < (l.length : Int)) = true := decide_eq_true e1
      have e2 : 0 ≤ (i : Int) := by omega
      have HW1 := Aside0.mk (wsucc i (by omega))
      obtain ⟨ad, rfl, hact⟩ := HR0.out i (by omega)
      have hrs := runL_succ l i (by omega)
      have hFL := runL_fine l i (by omega)
      obtain ⟨s, hs⟩ : ∃ s, s = l.getD i actZ := ⟨_, rfl⟩
      rw [← hs] at hact hrs
      obtain ⟨Ad, cd, rfl, hcd, _⟩ := Kd.R_reads HS.out.d
      obtain ⟨L, hL⟩ : ∃ L, L = runL l i := ⟨_, rfl⟩
      rw [← hL] at HS hrs hFL hcd ⊢
      obtain ⟨ai, hai⟩ : ∃ a, a = ad.add (i * 5) := ⟨_, rfl⟩
      rw [← hai] at hact
      have HAW := Aside0.mk hact
      have HACT := Aside0.mk (hact.below HS.out.bel)
      have HAI := Aside0.mk hai
      have HRS := Aside0.mk hrs
      have HFL := Aside0.mk hFL
      clear hs hL hact hrs hFL
      obtain ⟨sc, x0, x1, y0, y1⟩ := s
      have acc := HACT.out.c
      have acx0 := HACT.out.x0
      have acx1 := HACT.out.x1
      rw [hai] at acc acx0 acx1
      clear hai
      go_upto_if 28 with fail
      go_cut [4, 6, 7] (fun v4 v6 v7 wd => ∃ code : Int, v6 = .int .i64 code ∧ v7 = .int .i64 code ∧ Aside0 (RInv w wd gp (runL l (i + 1)) v4))
      case first =>
        cases sc with
        | true =>
          have HRT := Aside0.mk (show runL l (i + 1) = (cutR L x0 x1).1 from HRS.out)
          have HA := Aside0.mk (cut_set HS.out.p HS.out.bel.size (by have := HFL.out.len; omega) x0 x1)
          go_wp2_with (first | (go_at_call 28; refine HA.out.mono ?_; rintro e w8 ⟨rfl, hs8, ht8⟩; have HS8 := Aside0.mk hs8; have HT8 := Aside0.mk ht8; have HAC8 := Aside0.mk (HAW.out.below (ht8.below HS.out.bel HS.out.lp)); clear hs8 ht8; have z0 : w8.cell? ⟨(ad.add (i * 5)).block, (ad.add (i * 5)).off + 1, none⟩ = some (.int .i64 x0) := (by rw [← HAI.out]; exact HAC8.out.x0); have z1 : w8.cell? ⟨(ad.add (i * 5)).block, (ad.add (i * 5)).off + 2, none⟩ = some (.int .i64 x1) := (by rw [← HAI.out]; exact HAC8.out.x1)) | (go_at_call 29; refine (rcut_calls Ad cd L x0 x1 w8 (Kd.R_reads' (HT8.out.R HS.out.p.holds.choose_spec HS.out.d)).2.2 hcd HFL.out).mono ?_; rintro e w9 ⟨v9, rfl, hb9, hv9⟩; have HN := Aside0.mk (show RInv w w9 gp (runL l (i + 1)) v9 by rw [HRT.out]; exact HS.out.act HS8.out HT8.out hb9 hv9); clear hb9 hv9))
          go_meet
          case rel => exact ⟨_, rfl, rfl, HN⟩
        | false =>
          have HRT := Aside0.mk (show runL l (i + 1) = (addR L x0 x1).1 from HRS.out)
          have HA := Aside0.mk (add_set HS.out.p HS.out.bel.size (by have := HFL.out.len; omega) x0 x1)
          go_wp2_with (first | (go_at_call 30; refine HA.out.mono ?_; rintro e w8 ⟨rfl, hs8, ht8⟩; have HS8 := Aside0.mk hs8; have HT8 := Aside0.mk ht8; have HAC8 := Aside0.mk (HAW.out.below (ht8.below HS.out.bel HS.out.lp)); clear hs8 ht8; have z0 : w8.cell? ⟨(ad.add (i * 5)).block, (ad.add (i * 5)).off + 1, none⟩ = some (.int .i64 x0) := (by rw [← HAI.out]; exact HAC8.out.x0); have z1 : w8.cell? ⟨(ad.add (i * 5)).block, (ad.add (i * 5)).off + 2, none⟩ = some (.int .i64 x1) := (by rw [← HAI.out]; exact HAC8.out.x1)) | (go_at_call 31; refine (radd_calls Ad cd L x0 x1 w8 (Kd.R_reads' (HT8.out.R HS.out.p.holds.choose_spec HS.out.d)).2.2 hcd HFL.out).mono ?_; rintro e w9 ⟨v9, rfl, hb9, hv9⟩; have HN := Aside0.mk (show RInv w w9 gp (runL l (i + 1)) v9 by rw [HRT.out]; exact HS.out.act HS8.out HT8.out hb9 hv9); clear hb9 hv9))
          go_meet
          case rel => exact ⟨_, rfl, rfl, HN⟩
      case rest =>
        clear HS acc acx0 acx1 HACT HRS HFL
        obtain ⟨code, rfl, rfl, HN⟩ := hcut
        have hFM := runL_fine l (i + 1) (by omega)
        obtain ⟨M, hM⟩ : ∃ M, M = runL l (i + 1) := ⟨_, rfl⟩
        rw [← hM] at HN hFM
        have HM := Aside0.mk hM
        have HFM := Aside0.mk hFM
        clear hM hFM
        obtain ⟨Av, cv, rfl, hcv, _⟩ := Kd.R_reads HN.out.d
        have HCV := Aside0.mk hcv
        clear hcv
        go_upto_region 12 with fail
        have HNd := Aside0.mk (HN.out.below (below_drew (Below.refl wc.heap.size wc)))
        have HYd := Aside0.mk (HAW.out.below HNd.out.bel)
        clear HN
        have b0 : wc.drew.cell? ⟨(ad.add (i * 5)).block, (ad.add (i * 5)).off + 3, none⟩ = some (.int .i64 y0) := by rw [← HAI.out]; exact HYd.out.y0
        have b1 : wc.drew.cell? ⟨(ad.add (i * 5)).block, (ad.add (i * 5)).off + 4, none⟩ = some (.int .i64 y1) := by rw [← HAI.out]; exact HYd.out.y1
        have HAL := Aside0.mk (fun (W : World) (h : Below wc.drew.heap.size wc.drew W) => all_set (HNd.out.p.below h) (by have := HFM.out.len; omega))
        have HGP := Aside0.mk (fun (W : World) (h : Below wc.drew.heap.size wc.drew W) => gaps_set (HNd.out.p.below h) (by have := HFM.out.len; omega) y0 y1)
        clear HYd
        refine start_ (n := 22) (S := fun w' => w'.cell? ⟨(ad.add (i * 5)).block, (ad.add (i * 5)).off + 3, none⟩ = some (.int .i64 y0) ∧ w'.cell? ⟨(ad.add (i * 5)).block, (ad.add (i * 5)).off + 4, none⟩ = some (.int .i64 y1)) (ds := []) #[false, false, false, false, false, false, false, false, false, false, false, false, false, false, false, false, false, false, false, false, false, false] (by kernel_rfl) rfl rfl ⟨b0, b1⟩ (fun hHeld => ?_)
        generalize wc.drew = wd at HNd HAL HGP b0 b1 hHeld ⊢
        refine pure_ (i := 0) (N := some 63) (v := ?_) (a' := ?_) #[true, false, false, false, false, false, false, false, false, false, false, false, false, false, false, false, false, false, false, false, false, false] rfl rfl (by kernel_rfl) (fun _ _ _ h => h) (Or.inl ⟨by rfl, ?_⟩) ?_ ?_
        rotate_left
        · intro w'
          go_simp
          with_reducible rfl
        rotate_left
        · simp only [Act.put, List.setIfInBounds_toArray, List.set_cons_zero, List.set_cons_succ, i64_w, i32_w]
          rfl
        refine pure_ (i := 2) (N := some 65) (v := ?_) (a' := ?_) #[true, false, true, false, false, false, false, false, false, false, false, false, false, false, false, false, false, false, false, false, false, false] rfl rfl (by kernel_rfl) (fun _ _ _ h => h) (Or.inl ⟨by rfl, ?_⟩) ?_ ?_
        rotate_left
        · intro w'
          go_simp
          with_reducible rfl
        rotate_left
        · simp only [Act.put, List.setIfInBounds_toArray, List.set_cons_zero, List.set_cons_succ, i64_w, i32_w]
          rfl
        refine pure_ (i := 4) (N := some 67) (v := ?_) (a' := ?_) #[true, false, true, false, true, false, false, false, false, false, false, false, false, false, false, false, false, false, false, false, false, false] rfl rfl (by kernel_rfl) (fun _ _ _ h => h) (Or.inl ⟨by rfl, ?_⟩) ?_ ?_
        rotate_left
        · intro w'
          go_simp
          with_reducible rfl
        rotate_left
        · simp only [Act.put, List.setIfInBounds_toArray, List.set_cons_zero, List.set_cons_succ, i64_w, i32_w]
          rfl
        refine pure_ (i := 5) (N := some 68) (v := ?_) (a' := ?_) #[true, false, true, false, true, true, false, false, false, false, false, false, false, false, false, false, false, false, false, false, false, false] rfl rfl (by kernel_rfl) (fun _ _ _ h => h) (Or.inl ⟨by rfl, ?_⟩) ?_ ?_
        rotate_left
        · intro w'
          go_simp
          with_reducible rfl
        rotate_left
        · simp only [Act.put, List.setIfInBounds_toArray, List.set_cons_zero, List.set_cons_succ, i64_w, i32_w]
          rfl
        refine pure_ (i := 6) (N := some 69) (v := ?_) (a' := ?_) #[true, false, true, false, true, true, true, false, false, false, false, false, false, false, false, false, false, false, false, false, false, false] rfl rfl (by kernel_rfl) (fun _ _ _ h => h) (Or.inl ⟨by rfl, ?_⟩) ?_ ?_
        rotate_left
        · intro w'
          go_simp
          with_reducible rfl
        rotate_left
        · simp only [Act.put, List.setIfInBounds_toArray, List.set_cons_zero, List.set_cons_succ, i64_w, i32_w]
          rfl
        refine pure_ (i := 7) (N := some 70) (v := ?_) (a' := ?_) #[true, false, true, false, true, true, true, true, false, false, false, false, false, false, false, false, false, false, false, false, false, false] rfl rfl (by kernel_rfl) (fun _ _ _ h => h) (Or.inl ⟨by rfl, ?_⟩) ?_ ?_
        rotate_left
        · intro w'
          go_simp
          with_reducible rfl
        rotate_left
        · simp only [Act.put, List.setIfInBounds_toArray, List.set_cons_zero, List.set_cons_succ, i64_w, i32_w]
          rfl
        refine pure_ (i := 8) (N := some 71) (v := ?_) (a' := ?_) #[true, false, true, false, true, true, true, true, true, false, false, false, false, false, false, false, false, false, false, false, false, false] rfl rfl (by kernel_rfl) (fun _ _ _ h => h) (Or.inl ⟨by rfl, ?_⟩) ?_ ?_
        rotate_left
        · intro w'
          go_simp
          with_reducible rfl
        rotate_left
        · simp only [Act.put, List.setIfInBounds_toArray, List.set_cons_zero, List.set_cons_succ, i64_w, i32_w]
          rfl
        refine pure_ (i := 11) (N := some 74) (v := ?_) (a' := ?_) #[true, false, true, false, true, true, true, true, true, false, false, true, false, false, false, false, false, false, false, false, false, false] rfl rfl (by kernel_rfl) (fun _ _ _ h => h) (Or.inl ⟨by rfl, ?_⟩) ?_ ?_
        rotate_left
        · intro w'
          go_simp
          with_reducible rfl
        rotate_left
        · simp only [Act.put, List.setIfInBounds_toArray, List.set_cons_zero, List.set_cons_succ, i64_w, i32_w]
          rfl
        refine pure_ (i := 12) (N := some 75) (v := ?_) (a' := ?_) #[true, false, true, false, true, true, true, true, true, false, false, true, true, false, false, false, false, false, false, false, false, false] rfl rfl (by kernel_rfl) (fun _ _ _ h => h) (Or.inl ⟨by rfl, ?_⟩) ?_ ?_
        rotate_left
        · intro w'
          go_simp
          with_reducible rfl
        rotate_left
        · simp only [Act.put, List.setIfInBounds_toArray, List.set_cons_zero, List.set_cons_succ, i64_w, i32_w]
          rfl
        refine pure_ (i := 13) (N := some 76) (v := ?_) (a' := ?_) #[true, false, true, false, true, true, true, true, true, false, false, true, true, true, false, false, false, false, false, false, false, false] rfl rfl (by kernel_rfl) (fun _ _ _ h => h) (Or.inl ⟨by rfl, ?_⟩) ?_ ?_
        rotate_left
        · intro w'
          go_simp
          with_reducible rfl
        rotate_left
        · simp only [Act.put, List.setIfInBounds_toArray, List.set_cons_zero, List.set_cons_succ, i64_w, i32_w]
          rfl
        refine pure_ (i := 14) (N := some 77) (v := ?_) (a' := ?_) #[true, false, true, false, true, true, true, true, true, false, false, true, true, true, true, false, false, false, false, false, false, false] rfl rfl (by kernel_rfl) (fun _ _ _ h => h) (Or.inl ⟨by rfl, ?_⟩) ?_ ?_
        rotate_left
        · intro w'
          go_simp
          with_reducible rfl
        rotate_left
        · simp only [Act.put, List.setIfInBounds_toArray, List.set_cons_zero, List.set_cons_succ, i64_w, i32_w]
          rfl
        refine pure_ (i := 15) (N := some 78) (v := ?_) (a' := ?_) #[true, false, true, false, true, true, true, true, true, false, false, true, true, true, true, true, false, false, false, false, false, false] rfl rfl (by kernel_rfl) (fun _ _ _ h => h) (Or.inl ⟨by rfl, ?_⟩) ?_ ?_
        rotate_left
        · intro w'
          go_simp
          with_reducible rfl
        rotate_left
        · simp only [Act.put, List.setIfInBounds_toArray, List.set_cons_zero, List.set_cons_succ, i64_w, i32_w]
          rfl
        refine take_ (i := 9) (N := some 72) (v := ?_) (a' := ?_) #[true, false, true, false, true, true, true, true, true, true, false, true, true, true, true, true, false, false, false, false, false, false] rfl rfl (by kernel_rfl) (fun _ _ _ h => h) (Or.inl ⟨by rfl, ?_⟩) hHeld ?_ ?_
        rotate_left
        · rintro w' ⟨s0, s1⟩
          go_simp
          with_reducible rfl
        rotate_left
        · simp only [Act.put, List.setIfInBounds_toArray, List.set_cons_zero, List.set_cons_succ, i64_w, i32_w]
          rfl
        refine take_ (i := 16) (N := some 79) (v := ?_) (a' := ?_) #[true, false, true, false, true, true, true, true, true, true, false, true, true, true, true, true, true, false, false, false, false, false] rfl rfl (by kernel_rfl) (fun _ _ _ h => h) (Or.inl ⟨by rfl, ?_⟩) hHeld ?_ ?_
        rotate_left
        · rintro w' ⟨s0, s1⟩
          go_simp
          with_reducible rfl
        rotate_left
        · simp only [Act.put, List.setIfInBounds_toArray, List.set_cons_zero, List.set_cons_succ, i64_w, i32_w]
          rfl
        refine one_ (i := 1) (N := some 64) #[true, true, true, false, true, true, true, true, true, true, false, true, true, true, true, true, true, false, false, false, false, false] rfl rfl (by kernel_rfl) (by decide) (fun K hK => ?_)
        refine goes_ Try.func32 (by kernel_rfl) rfl #[.pointer (some ⟨gp, 0, none⟩)] (by rfl) rfl rfl (by simp only [List.map_toArray, List.map_cons, List.map_nil]; rfl) ?_
        with_reducible refine ((HAL.out wd (Below.refl _ _))).mono ?_
        rintro e w1 ⟨v1, rfl, ho1, hb1⟩
        refine ⟨_, rfl, ?_⟩
        have HO1 := Aside0.mk ho1
        have HB1 := Aside0.mk hb1
        refine hK.out _ _ ⟨pw_cell_below HB1.out b0, pw_cell_below HB1.out b1⟩ (fun hHeld => ?_)
        clear hK K
        refine norm_ (a' := ?_) ?_ ?_
        rotate_left
        · show Act.put _ (some 64) _ = _
          simp only [Act.put, List.setIfInBounds_toArray, List.set_cons_zero, List.set_cons_succ, i64_w, i32_w]
          rfl
        refine one_ (i := 3) (N := some 66) #[true, true, true, true, true, true, true, true, true, true, false, true, true, true, true, true, true, false, false, false, false, false] rfl rfl (by kernel_rfl) (by decide) (fun K hK => ?_)
        refine goes_ Try.func32 (by kernel_rfl) rfl #[.pointer (some ⟨gp, 0, none⟩)] (by rfl) rfl rfl (by simp only [List.map_toArray, List.map_cons, List.map_nil]; rfl) ?_
        with_reducible refine ((HAL.out w1 HB1.out)).mono ?_
        rintro e w2 ⟨v2, rfl, ho2, hb2⟩
        refine ⟨_, rfl, ?_⟩
        have HO2 := Aside0.mk ho2
        have HB12 := Aside0.mk hb2; have HB2 := Aside0.mk (below_step HB1.out hb2)
        refine hK.out _ _ ⟨pw_cell_below HB2.out b0, pw_cell_below HB2.out b1⟩ (fun hHeld => ?_)
        clear hK K
        refine norm_ (a' := ?_) ?_ ?_
        rotate_left
        · show Act.put _ (some 66) _ = _
          simp only [Act.put, List.setIfInBounds_toArray, List.set_cons_zero, List.set_cons_succ, i64_w, i32_w]
          rfl
        refine one_ (i := 10) (N := some 73) #[true, true, true, true, true, true, true, true, true, true, true, true, true, true, true, true, true, false, false, false, false, false] rfl rfl (by kernel_rfl) (by decide) (fun K hK => ?_)
        refine goes_ Try.func33 (by kernel_rfl) rfl #[.pointer (some ⟨gp, 0, none⟩), .agg #[.int .i64 y0, .int .i64 y1]] (by rfl) rfl rfl (by simp only [List.map_toArray, List.map_cons, List.map_nil]; rfl) ?_
        with_reducible refine ((HGP.out w2 HB2.out)).mono ?_
        rintro e w3 ⟨v3, rfl, ho3, hb3⟩
        refine ⟨_, rfl, ?_⟩
        have HO3 := Aside0.mk ho3
        have HB23 := Aside0.mk hb3; have HB3 := Aside0.mk (below_step HB2.out hb3)
        refine hK.out _ _ ⟨pw_cell_below HB3.out b0, pw_cell_below HB3.out b1⟩ (fun hHeld => ?_)
        clear hK K
        refine norm_ (a' := ?_) ?_ ?_
        rotate_left
        · show Act.put _ (some 73) _ = _
          simp only [Act.put, List.setIfInBounds_toArray, List.set_cons_zero, List.set_cons_succ, i64_w, i32_w]
          rfl
        refine one_ (i := 17) (N := some 80) #[true, true, true, true, true, true, true, true, true, true, true, true, true, true, true, true, true, true, false, false, false, false] rfl rfl (by kernel_rfl) (by decide) (fun K hK => ?_)
        refine goes_ Try.func33 (by kernel_rfl) rfl #[.pointer (some ⟨gp, 0, none⟩), .agg #[.int .i64 y0, .int .i64 y1]] (by rfl) rfl rfl (by simp only [List.map_toArray, List.map_cons, List.map_nil]; rfl) ?_
        with_reducible refine ((HGP.out w3 HB3.out)).mono ?_
        rintro e w4 ⟨v4, rfl, ho4, hb4⟩
        refine ⟨_, rfl, ?_⟩
        have HO4 := Aside0.mk ho4
        have HB34 := Aside0.mk hb4; have HB4 := Aside0.mk (below_step HB3.out hb4)
        refine hK.out _ _ ⟨pw_cell_below HB4.out b0, pw_cell_below HB4.out b1⟩ (fun hHeld => ?_)
        clear hK K
        refine norm_ (a' := ?_) ?_ ?_
        rotate_left
        · show Act.put _ (some 80) _ = _
          simp only [Act.put, List.setIfInBounds_toArray, List.set_cons_zero, List.set_cons_succ, i64_w, i32_w]
          rfl
        refine pure_ (i := 18) (N := some 8) (v := ?_) (a' := ?_) #[true, true, true, true, true, true, true, true, true, true, true, true, true, true, true, true, true, true, true, false, false, false] rfl rfl (by kernel_rfl) (fun _ _ _ h => h) (Or.inl ⟨by rfl, ?_⟩) ?_ ?_
        rotate_left
        · intro w'
          go_simp
          with_reducible rfl
        rotate_left
        · simp only [Act.put, List.setIfInBounds_toArray, List.set_cons_zero, List.set_cons_succ, i64_w, i32_w]
          rfl
        refine pure_ (i := 19) (N := some 9) (v := ?_) (a' := ?_) #[true, true, true, true, true, true, true, true, true, true, true, true, true, true, true, true, true, true, true, true, false, false] rfl rfl (by kernel_rfl) (fun _ _ _ h => h) (Or.inl ⟨by rfl, ?_⟩) ?_ ?_
        rotate_left
        · intro w'
          go_simp
          with_reducible rfl
        rotate_left
        · simp only [Act.put, List.setIfInBounds_toArray, List.set_cons_zero, List.set_cons_succ, i64_w, i32_w]
          rfl
        refine pure_ (i := 20) (N := some 10) (v := ?_) (a' := ?_) #[true, true, true, true, true, true, true, true, true, true, true, true, true, true, true, true, true, true, true, true, true, false] rfl rfl (by kernel_rfl) (fun _ _ _ h => h) (Or.inl ⟨by rfl, ?_⟩) ?_ ?_
        rotate_left
        · intro w'
          go_simp
          with_reducible rfl
        rotate_left
        · simp only [Act.put, List.setIfInBounds_toArray, List.set_cons_zero, List.set_cons_succ, i64_w, i32_w]
          rfl
        refine pure_ (i := 21) (N := some 11) (v := ?_) (a' := ?_) #[true, true, true, true, true, true, true, true, true, true, true, true, true, true, true, true, true, true, true, true, true, true] rfl rfl (by kernel_rfl) (fun _ _ _ h => h) (Or.inl ⟨by rfl, ?_⟩) ?_ ?_
        rotate_left
        · intro w'
          go_simp
          with_reducible rfl
        rotate_left
        · simp only [Act.put, List.setIfInBounds_toArray, List.set_cons_zero, List.set_cons_succ, i64_w, i32_w]
          rfl
        refine done_ (by kernel_rfl) ?_
        obtain ⟨G, hG⟩ : ∃ G, G = gapsR M y0 y1 := ⟨_, rfl⟩
        have HGE := Aside0.mk hG
        rw [← hG] at HO3 HO4
        clear hG HAL HGP
        have hGl : G.length ≤ 1000000 := by
          rw [HGE.out]
          by_cases hc : canB y0 y1 = true
          · have := (gapsR_facts HFM.out y0 y1 hc).2.2; omega
          · unfold gapsR; rw [if_neg hc]; simp
        have HGL := Aside0.mk hGl
        clear hGl
        obtain ⟨A1, c1, rfl, hc1, _⟩ := Kd.R_reads HO1.out
        obtain ⟨A2, c2, rfl, hc2, _⟩ := Kd.R_reads HO2.out
        obtain ⟨A3, c3, rfl, hc3, _⟩ := Kd.R_reads HO3.out
        obtain ⟨A4, c4, rfl, hc4, _⟩ := Kd.R_reads HO4.out
        have HCS := Aside0.mk (show M.length ≤ c1 ∧ M.length ≤ c2 ∧ G.length ≤ c3 ∧ G.length ≤ c4 from ⟨hc1, hc2, hc3, hc4⟩)
        clear hc1 hc2 hc3 hc4
        have y0_ : w4.cell? ⟨(ad.add (i * 5)).block, (ad.add (i * 5)).off + 3, none⟩ = some (.int .i64 y0) := pw_cell_below HB4.out b0
        have y1_ : w4.cell? ⟨(ad.add (i * 5)).block, (ad.add (i * 5)).off + 4, none⟩ = some (.int .i64 y1) := pw_cell_below HB4.out b1
        have HRG := Aside0.mk (satchelref01_Gaps.calls (10 * M.length + 101) Av cv M y0 y1 G w4 (Kd.R_reads' (Kd.R_below HNd.out.d HB4.out)).2.2 HCV.out (by rw [HGE.out]; exact rgaps_f _ M HFM.out (by omega) y0 y1))
        go_upto_region 14 with (go_at_call 34; refine HRG.out.mono ?_; rintro e w5 ⟨v5, rfl, ho5, hb5⟩; have HO5 := Aside0.mk ho5; have HB5 := Aside0.mk hb5; clear ho5 hb5)
        have HRT := Aside0.mk (Rest.mk' HNd.out HB1.out HB12.out HB23.out HB34.out HB5.out HO2.out HO4.out HO5.out)
        have HRA := Aside0.mk (show Kd.R k67 67 w5 w.heap.size (fun k => wd.heap.size ≤ k ∧ k < w1.heap.size) (.slice A1 M.length c1) M from Kd.R_lower (Kd.R_below (Kd.R_mono (Kd.R_bound HO1.out) (fun k hk => ⟨hk.2.1, hk.2.2.1⟩)) (below_step (below_step (below_step HB12.out HB23.out) HB34.out) HB5.out)) HNd.out.bel.size)
        have HRGG := Aside0.mk (show Kd.R k67 67 w5 w.heap.size (fun k => w2.heap.size ≤ k ∧ k < w3.heap.size) (.slice A3 G.length c3) G from Kd.R_lower (Kd.R_below (Kd.R_mono (Kd.R_bound HO3.out) (fun k hk => ⟨hk.2.1, hk.2.2.1⟩)) (below_step HB34.out HB5.out)) (Nat.le_trans HNd.out.bel.size (Nat.le_trans HB1.out.size HB12.out.size)))
        have HLE := Aside0.mk (show wd.heap.size ≤ w1.heap.size ∧ w1.heap.size ≤ w2.heap.size ∧ w2.heap.size ≤ w3.heap.size from ⟨HB1.out.size, HB12.out.size, HB23.out.size⟩)
        have HYw := Aside0.mk (show w5.cell? ⟨(ad.add (i * 5)).block, (ad.add (i * 5)).off + 3, none⟩ = some (.int .i64 y0) ∧ w5.cell? ⟨(ad.add (i * 5)).block, (ad.add (i * 5)).off + 4, none⟩ = some (.int .i64 y1) from ⟨pw_cell_below HB5.out y0_, pw_cell_below HB5.out y1_⟩)
        obtain ⟨A5, c5, rfl, hc5, _⟩ := Kd.R_reads HO5.out
        have HC5 := Aside0.mk hc5
        clear hc5 y0_ y1_ b0 b1 HRG HNd HO1 HO2 HO3 HO4 HO5 HB12 HB23 HB34 HB4 HB5
        (try clear HB2 HB3)
        generalize wd.heap.size = s0 at HRT HRA HLE HB1
        generalize w1.heap.size = s1 at HRT HRA HLE HB1
        clear HB1
        generalize w2.heap.size = s2 at HRT HRGG HLE
        generalize w3.heap.size = s3 at HRT HRGG HLE
        have HS1 := Aside0.mk (fun (W : World) (h : Below w5.heap.size w5 W) => satchellaw01_same.calls (M.length + 1) A1 c1 M Av cv M true W (Kd.R_reads' (Kd.R_below HRA.out h)).2.2 HCS.out.1 (Kd.R_reads' (Kd.R_below HRT.out.d h)).2.2 HCV.out (same_f1 M (by have := HFM.out.len; omega)))
        have HS2 := Aside0.mk (fun (W : World) (h : Below w5.heap.size w5 W) => satchellaw01_same.calls (M.length + 1) A2 c2 M Av cv M true W (Kd.R_reads' (Kd.R_below HRT.out.b h)).2.2 HCS.out.2.1 (Kd.R_reads' (Kd.R_below HRT.out.d h)).2.2 HCV.out (same_f1 M (by have := HFM.out.len; omega)))
        have HS3 := Aside0.mk (fun (W : World) (h : Below w5.heap.size w5 W) => satchellaw01_same.calls (G.length + 1) A3 c3 G A5 c5 G true W (Kd.R_reads' (Kd.R_below HRGG.out h)).2.2 HCS.out.2.2.1 (Kd.R_reads' (Kd.R_below HRT.out.g h)).2.2 HC5.out (same_f1 G HGL.out))
        have HS4 := Aside0.mk (fun (W : World) (h : Below w5.heap.size w5 W) => satchellaw01_same.calls (G.length + 1) A4 c4 G A5 c5 G true W (Kd.R_reads' (Kd.R_below HRT.out.h h)).2.2 HCS.out.2.2.2 (Kd.R_reads' (Kd.R_below HRT.out.g h)).2.2 HC5.out (same_f1 G HGL.out))
        have HTP := Aside0.mk (fun (W : World) (h : Below w5.heap.size w5 W) => tot_set (HRT.out.set.below h) (by have := HFM.out.len; omega))
        have HTD := Aside0.mk (fun (W : World) (h : Below w5.heap.size w5 W) => satchelref01_Total.calls (M.length + 1) Av cv M (wrap64 (totL M)) W (Kd.R_reads' (Kd.R_below HRT.out.d h)).2.2 HCV.out (rtot_f _ M (by have := HFM.out.len; omega) (by omega)))
        have HB := Aside0.mk (Below.refl w5.heap.size w5)
        go_upto_region 16 with (first | (go_at_call 35; (with_reducible refine (HS1.out _ (by repeat (first | (with_reducible first | exact HB.out | apply pw_below_drewN | apply below_drew1)))).mono ?_); rintro e wq ⟨rfl, ⟨m6, rfl⟩⟩) | (go_at_call 35; (with_reducible refine (HS2.out _ (by repeat (first | (with_reducible first | exact HB.out | apply pw_below_drewN | apply below_drew1)))).mono ?_); rintro e wq ⟨rfl, ⟨m7, rfl⟩⟩) | (go_at_call 35; (with_reducible refine (HS3.out _ (by repeat (first | (with_reducible first | exact HB.out | apply pw_below_drewN | apply below_drew1)))).mono ?_); rintro e wq ⟨rfl, ⟨m8, rfl⟩⟩) | (go_at_call 35; (with_reducible refine (HS4.out _ (by repeat (first | (with_reducible first | exact HB.out | apply pw_below_drewN | apply below_drew1)))).mono ?_); rintro e wq ⟨rfl, ⟨m9, rfl⟩⟩) | (go_at_call 36; (with_reducible refine (HTP.out _ (by repeat (first | (with_reducible first | exact HB.out | apply pw_below_drewN | apply below_drew1)))).mono ?_); rintro e w10 ⟨rfl, hb⟩; have n0 := Aside0.mk (below_step (by repeat (first | (with_reducible first | exact HB.out | apply pw_below_drewN | apply below_drew1))) hb); clear HB; have HB := n0; clear n0 hb) | (go_at_call 37; (with_reducible refine (HTD.out _ (by repeat (first | (with_reducible first | exact HB.out | apply pw_below_drewN | apply below_drew1)))).mono ?_); rintro e wq ⟨rfl, ⟨m11, rfl⟩⟩))
        have HB16 := Aside0.mk (show Below w5.heap.size w5 (w10.drewN m11) from pw_below_drewN HB.out m11)
        clear HS1 HS2 HS3 HS4 HTP HTD HB
        generalize w10.drewN m11 = w11 at HB16 ⊢
        have HRT6 := Aside0.mk (HRT.out.below HB16.out)
        have HRA6 := Aside0.mk (Kd.R_below HRA.out HB16.out)
        have HRG6 := Aside0.mk (Kd.R_below HRGG.out HB16.out)
        have HY6 := Aside0.mk (show w11.cell? ⟨(ad.add (i * 5)).block, (ad.add (i * 5)).off + 3, none⟩ = some (.int .i64 y0) ∧ w11.cell? ⟨(ad.add (i * 5)).block, (ad.add (i * 5)).off + 4, none⟩ = some (.int .i64 y1) from ⟨pw_cell_below HB16.out HYw.out.1, pw_cell_below HB16.out HYw.out.2⟩)
        clear HRT HRA HRGG HYw HB16
        go_cut [140] (fun v140 wd => v140 = .bool false ∧ Aside0 (Below w11.heap.size w11 wd))
        case first =>
          have HBd := Aside0.mk (below_drew (Below.refl w11.heap.size w11))
          have b0 : w11.drew.cell? ⟨(ad.add (i * 5)).block, (ad.add (i * 5)).off + 3, none⟩ = some (.int .i64 y0) := pw_cell_below HBd.out HY6.out.1
          have b1 : w11.drew.cell? ⟨(ad.add (i * 5)).block, (ad.add (i * 5)).off + 4, none⟩ = some (.int .i64 y1) := pw_cell_below HBd.out HY6.out.2
          have hHS := has_set (HRT6.out.set.below HBd.out) (by have := HFM.out.len; omega) y0 y1
          have HCN := Aside0.mk (rcan_f y0 y1)
          by_cases hcan : canB y0 y1 = true
          · rw [hcan] at HCN
            by_cases hg0 : G.length = 0
            · have hz : ((G.length : Int) == 0) = true := by rw [hg0]; rfl
              have hh : hasR M y0 y1 = true := by unfold hasR; rw [hcan, ← HGE.out, decide_eq_true hg0]; rfl
              rw [hh] at hHS
              have HH := Aside0.mk hHS
              clear hHS hh hg0 hcan
              refine start_ (n := 19) (S := fun w' => w'.cell? ⟨(ad.add (i * 5)).block, (ad.add (i * 5)).off + 3, none⟩ = some (.int .i64 y0) ∧ w'.cell? ⟨(ad.add (i * 5)).block, (ad.add (i * 5)).off + 4, none⟩ = some (.int .i64 y1)) (ds := []) #[false, false, false, false, false, false, false, false, false, false, false, false, false, false, false, false, false, false, false] (by kernel_rfl) rfl rfl ⟨b0, b1⟩ (fun hHeld => ?_)
              refine pure_ (i := 0) (N := some 122) (v := ?_) (a' := ?_) #[true, false, false, false, false, false, false, false, false, false, false, false, false, false, false, false, false, false, false] rfl rfl (by kernel_rfl) (fun _ _ _ h => h) (Or.inl ⟨by rfl, ?_⟩) ?_ ?_
              rotate_left
              · intro w'
                go_simp
                with_reducible rfl
              rotate_left
              · simp only [Act.put, List.setIfInBounds_toArray, List.set_cons_zero, List.set_cons_succ, i64_w, i32_w]
                rfl
              refine pure_ (i := 1) (N := some 123) (v := ?_) (a' := ?_) #[true, true, false, false, false, false, false, false, false, false, false, false, false, false, false, false, false, false, false] rfl rfl (by kernel_rfl) (fun _ _ _ h => h) (Or.inl ⟨by rfl, ?_⟩) ?_ ?_
              rotate_left
              · intro w'
                go_simp
                with_reducible rfl
              rotate_left
              · simp only [Act.put, List.setIfInBounds_toArray, List.set_cons_zero, List.set_cons_succ, i64_w, i32_w]
                rfl
              refine pure_ (i := 2) (N := some 124) (v := ?_) (a' := ?_) #[true, true, true, false, false, false, false, false, false, false, false, false, false, false, false, false, false, false, false] rfl rfl (by kernel_rfl) (fun _ _ _ h => h) (Or.inl ⟨by rfl, ?_⟩) ?_ ?_
              rotate_left
              · intro w'
                go_simp
                with_reducible rfl
              rotate_left
              · simp only [Act.put, List.setIfInBounds_toArray, List.set_cons_zero, List.set_cons_succ, i64_w, i32_w]
                rfl
              refine pure_ (i := 3) (N := some 125) (v := ?_) (a' := ?_) #[true, true, true, true, false, false, false, false, false, false, false, false, false, false, false, false, false, false, false] rfl rfl (by kernel_rfl) (fun _ _ _ h => h) (Or.inl ⟨by rfl, ?_⟩) ?_ ?_
              rotate_left
              · intro w'
                go_simp
                with_reducible rfl
              rotate_left
              · simp only [Act.put, List.setIfInBounds_toArray, List.set_cons_zero, List.set_cons_succ, i64_w, i32_w]
                rfl
              refine pure_ (i := 4) (N := some 126) (v := ?_) (a' := ?_) #[true, true, true, true, true, false, false, false, false, false, false, false, false, false, false, false, false, false, false] rfl rfl (by kernel_rfl) (fun _ _ _ h => h) (Or.inl ⟨by rfl, ?_⟩) ?_ ?_
              rotate_left
              · intro w'
                go_simp
                with_reducible rfl
              rotate_left
              · simp only [Act.put, List.setIfInBounds_toArray, List.set_cons_zero, List.set_cons_succ, i64_w, i32_w]
                rfl
              refine pure_ (i := 7) (N := some 129) (v := ?_) (a' := ?_) #[true, true, true, true, true, false, false, true, false, false, false, false, false, false, false, false, false, false, false] rfl rfl (by kernel_rfl) (fun _ _ _ h => h) (Or.inl ⟨by rfl, ?_⟩) ?_ ?_
              rotate_left
              · intro w'
                go_simp
                with_reducible rfl
              rotate_left
              · simp only [Act.put, List.setIfInBounds_toArray, List.set_cons_zero, List.set_cons_succ, i64_w, i32_w]
                rfl
              refine pure_ (i := 8) (N := some 130) (v := ?_) (a' := ?_) #[true, true, true, true, true, false, false, true, true, false, false, false, false, false, false, false, false, false, false] rfl rfl (by kernel_rfl) (fun _ _ _ h => h) (Or.inl ⟨by rfl, ?_⟩) ?_ ?_
              rotate_left
              · intro w'
                go_simp
                with_reducible rfl
              rotate_left
              · simp only [Act.put, List.setIfInBounds_toArray, List.set_cons_zero, List.set_cons_succ, i64_w, i32_w]
                rfl
              refine pure_ (i := 9) (N := some 131) (v := ?_) (a' := ?_) #[true, true, true, true, true, false, false, true, true, true, false, false, false, false, false, false, false, false, false] rfl rfl (by kernel_rfl) (fun _ _ _ h => h) (Or.inl ⟨by rfl, ?_⟩) ?_ ?_
              rotate_left
              · intro w'
                go_simp
                with_reducible rfl
              rotate_left
              · simp only [Act.put, List.setIfInBounds_toArray, List.set_cons_zero, List.set_cons_succ, i64_w, i32_w]
                rfl
              refine pure_ (i := 10) (N := some 132) (v := ?_) (a' := ?_) #[true, true, true, true, true, false, false, true, true, true, true, false, false, false, false, false, false, false, false] rfl rfl (by kernel_rfl) (fun _ _ _ h => h) (Or.inl ⟨by rfl, ?_⟩) ?_ ?_
              rotate_left
              · intro w'
                go_simp
                with_reducible rfl
              rotate_left
              · simp only [Act.put, List.setIfInBounds_toArray, List.set_cons_zero, List.set_cons_succ, i64_w, i32_w]
                rfl
              refine take_ (i := 5) (N := some 127) (v := ?_) (a' := ?_) #[true, true, true, true, true, true, false, true, true, true, true, false, false, false, false, false, false, false, false] rfl rfl (by kernel_rfl) (fun _ _ _ h => h) (Or.inl ⟨by rfl, ?_⟩) hHeld ?_ ?_
              rotate_left
              · rintro w' ⟨s0, s1⟩
                go_simp
                with_reducible rfl
              rotate_left
              · simp only [Act.put, List.setIfInBounds_toArray, List.set_cons_zero, List.set_cons_succ, i64_w, i32_w]
                rfl
              refine take_ (i := 11) (N := some 133) (v := ?_) (a' := ?_) #[true, true, true, true, true, true, false, true, true, true, true, true, false, false, false, false, false, false, false] rfl rfl (by kernel_rfl) (fun _ _ _ h => h) (Or.inl ⟨by rfl, ?_⟩) hHeld ?_ ?_
              rotate_left
              · rintro w' ⟨s0, s1⟩
                go_simp
                with_reducible rfl
              rotate_left
              · simp only [Act.put, List.setIfInBounds_toArray, List.set_cons_zero, List.set_cons_succ, i64_w, i32_w]
                rfl
              refine one_ (i := 6) (N := some 128) #[true, true, true, true, true, true, true, true, true, true, true, true, false, false, false, false, false, false, false] rfl rfl (by kernel_rfl) (by decide) (fun K hK => ?_)
              refine goes_ Try.func38 (by kernel_rfl) rfl #[.pointer (some ⟨gp, 0, none⟩), .agg #[.int .i64 y0, .int .i64 y1]] (by rfl) rfl rfl (by simp only [List.map_toArray, List.map_cons, List.map_nil]; rfl) ?_
              with_reducible refine (HH.out).mono ?_
              rintro e w16 ⟨rfl, hb16⟩
              refine ⟨_, rfl, ?_⟩
              have HB16 := Aside0.mk hb16
              refine hK.out _ _ ⟨pw_cell_below HB16.out b0, pw_cell_below HB16.out b1⟩ (fun hHeld => ?_)
              clear hK K
              refine norm_ (a' := ?_) ?_ ?_
              rotate_left
              · show Act.put _ (some 128) _ = _
                simp only [Act.put, List.setIfInBounds_toArray, List.set_cons_zero, List.set_cons_succ, i64_w, i32_w]
                rfl
              refine one_ (i := 12) (N := some 134) #[true, true, true, true, true, true, true, true, true, true, true, true, true, false, false, false, false, false, false] rfl rfl (by kernel_rfl) (by decide) (fun K hK => ?_)
              refine goes_ Try.func39 (by kernel_rfl) rfl #[.agg #[.int .i64 y0, .int .i64 y1]] (by rfl) rfl rfl (by simp only [List.map_toArray, List.map_cons, List.map_nil]; rfl) ?_
              with_reducible refine ((satchelref01_Can.calls y0 y1 true w16 HCN.out)).mono ?_
              rintro e w17 ⟨rfl, hb17⟩
              refine ⟨_, rfl, ?_⟩
              have HB17 := Aside0.mk (below_step HB16.out hb17)
              refine hK.out _ _ ⟨pw_cell_below HB17.out b0, pw_cell_below HB17.out b1⟩ (fun hHeld => ?_)
              clear hK K
              refine norm_ (a' := ?_) ?_ ?_
              rotate_left
              · show Act.put _ (some 134) _ = _
                simp only [Act.put, List.setIfInBounds_toArray, List.set_cons_zero, List.set_cons_succ, i64_w, i32_w]
                rfl
              refine pure_ (i := 13) (N := some 135) (v := ?_) (a' := ?_) #[true, true, true, true, true, true, true, true, true, true, true, true, true, true, false, false, false, false, false] rfl rfl (by kernel_rfl) (fun _ _ _ h => h) (Or.inl ⟨by rfl, ?_⟩) ?_ ?_
              rotate_left
              · intro w'
                go_simp
                with_reducible rfl
              rotate_left
              · simp only [Act.put, List.setIfInBounds_toArray, List.set_cons_zero, List.set_cons_succ, i64_w, i32_w]
                rfl
              refine pure_ (i := 14) (N := some 136) (v := ?_) (a' := ?_) #[true, true, true, true, true, true, true, true, true, true, true, true, true, true, true, false, false, false, false] rfl rfl (by kernel_rfl) (fun _ _ _ h => h) (Or.inl ⟨by rfl, ?_⟩) ?_ ?_
              rotate_left
              · intro w'
                go_simp
                with_reducible rfl
              rotate_left
              · simp only [Act.put, List.setIfInBounds_toArray, List.set_cons_zero, List.set_cons_succ, i64_w, i32_w]
                rfl
              refine pure_ (i := 15) (N := some 137) (v := ?_) (a' := ?_) #[true, true, true, true, true, true, true, true, true, true, true, true, true, true, true, true, false, false, false] rfl rfl (by kernel_rfl) (fun _ _ _ h => h) (Or.inl ⟨by rfl, ?_⟩) ?_ ?_
              rotate_left
              · intro w'
                go_simp
                with_reducible rfl
              rotate_left
              · simp only [Act.put, List.setIfInBounds_toArray, List.set_cons_zero, List.set_cons_succ, i64_w, i32_w]
                rfl
              refine pure_ (i := 16) (N := some 138) (v := ?_) (a' := ?_) #[true, true, true, true, true, true, true, true, true, true, true, true, true, true, true, true, true, false, false] rfl rfl (by kernel_rfl) (fun _ _ _ h => h) (Or.inl ⟨by rfl, ?_⟩) ?_ ?_
              rotate_left
              · intro w'
                go_simp
                with_reducible rfl
              rotate_left
              · simp only [Act.put, List.setIfInBounds_toArray, List.set_cons_zero, List.set_cons_succ, i64_w, i32_w]
                rfl
              refine pure_ (i := 17) (N := some 139) (v := ?_) (a' := ?_) #[true, true, true, true, true, true, true, true, true, true, true, true, true, true, true, true, true, true, false] rfl rfl (by kernel_rfl) (fun _ _ _ h => h) (Or.inl ⟨by rfl, ?_⟩) ?_ ?_
              rotate_left
              · intro w'
                go_simp
                with_reducible rfl
              rotate_left
              · simp only [Act.put, List.setIfInBounds_toArray, List.set_cons_zero, List.set_cons_succ, i64_w, i32_w]
                rfl
              refine pure_ (i := 18) (N := some 140) (v := ?_) (a' := ?_) #[true, true, true, true, true, true, true, true, true, true, true, true, true, true, true, true, true, true, true] rfl rfl (by kernel_rfl) (fun _ _ _ h => h) (Or.inl ⟨by rfl, ?_⟩) ?_ ?_
              rotate_left
              · intro w'
                go_simp
                with_reducible rfl
              rotate_left
              · simp only [Act.put, List.setIfInBounds_toArray, List.set_cons_zero, List.set_cons_succ, i64_w, i32_w]
                rfl
              refine done_ (by kernel_rfl) ?_
              (try go_wp2_with fail)
              go_meet
              case rel => exact ⟨rfl, ⟨below_step HBd.out HB17.out⟩⟩
            · have hz : ((G.length : Int) == 0) = false := by rw [beq_eq_false_iff_ne]; omega
              have hh : hasR M y0 y1 = false := by unfold hasR; rw [hcan, ← HGE.out, decide_eq_false hg0]; rfl
              rw [hh] at hHS
              have HH := Aside0.mk hHS
              clear hHS hh hg0 hcan
              refine start_ (n := 19) (S := fun w' => w'.cell? ⟨(ad.add (i * 5)).block, (ad.add (i * 5)).off + 3, none⟩ = some (.int .i64 y0) ∧ w'.cell? ⟨(ad.add (i * 5)).block, (ad.add (i * 5)).off + 4, none⟩ = some (.int .i64 y1)) (ds := []) #[false, false, false, false, false, false, false, false, false, false, false, false, false, false, false, false, false, false, false] (by kernel_rfl) rfl rfl ⟨b0, b1⟩ (fun hHeld => ?_)
              refine pure_ (i := 0) (N := some 122) (v := ?_) (a' := ?_) #[true, false, false, false, false, false, false, false, false, false, false, false, false, false, false, false, false, false, false] rfl rfl (by kernel_rfl) (fun _ _ _ h => h) (Or.inl ⟨by rfl, ?_⟩) ?_ ?_
              rotate_left
              · intro w'
                go_simp
                with_reducible rfl
              rotate_left
              · simp only [Act.put, List.setIfInBounds_toArray, List.set_cons_zero, List.set_cons_succ, i64_w, i32_w]
                rfl
              refine pure_ (i := 1) (N := some 123) (v := ?_) (a' := ?_) #[true, true, false, false, false, false, false, false, false, false, false, false, false, false, false, false, false, false, false] rfl rfl (by kernel_rfl) (fun _ _ _ h => h) (Or.inl ⟨by rfl, ?_⟩) ?_ ?_
              rotate_left
              · intro w'
                go_simp
                with_reducible rfl
              rotate_left
              · simp only [Act.put, List.setIfInBounds_toArray, List.set_cons_zero, List.set_cons_succ, i64_w, i32_w]
                rfl
              refine pure_ (i := 2) (N := some 124) (v := ?_) (a' := ?_) #[true, true, true, false, false, false, false, false, false, false, false, false, false, false, false, false, false, false, false] rfl rfl (by kernel_rfl) (fun _ _ _ h => h) (Or.inl ⟨by rfl, ?_⟩) ?_ ?_
              rotate_left
              · intro w'
                go_simp
                with_reducible rfl
              rotate_left
              · simp only [Act.put, List.setIfInBounds_toArray, List.set_cons_zero, List.set_cons_succ, i64_w, i32_w]
                rfl
              refine pure_ (i := 3) (N := some 125) (v := ?_) (a' := ?_) #[true, true, true, true, false, false, false, false, false, false, false, false, false, false, false, false, false, false, false] rfl rfl (by kernel_rfl) (fun _ _ _ h => h) (Or.inl ⟨by rfl, ?_⟩) ?_ ?_
              rotate_left
              · intro w'
                go_simp
                with_reducible rfl
              rotate_left
              · simp only [Act.put, List.setIfInBounds_toArray, List.set_cons_zero, List.set_cons_succ, i64_w, i32_w]
                rfl
              refine pure_ (i := 4) (N := some 126) (v := ?_) (a' := ?_) #[true, true, true, true, true, false, false, false, false, false, false, false, false, false, false, false, false, false, false] rfl rfl (by kernel_rfl) (fun _ _ _ h => h) (Or.inl ⟨by rfl, ?_⟩) ?_ ?_
              rotate_left
              · intro w'
                go_simp
                with_reducible rfl
              rotate_left
              · simp only [Act.put, List.setIfInBounds_toArray, List.set_cons_zero, List.set_cons_succ, i64_w, i32_w]
                rfl
              refine pure_ (i := 7) (N := some 129) (v := ?_) (a' := ?_) #[true, true, true, true, true, false, false, true, false, false, false, false, false, false, false, false, false, false, false] rfl rfl (by kernel_rfl) (fun _ _ _ h => h) (Or.inl ⟨by rfl, ?_⟩) ?_ ?_
              rotate_left
              · intro w'
                go_simp
                with_reducible rfl
              rotate_left
              · simp only [Act.put, List.setIfInBounds_toArray, List.set_cons_zero, List.set_cons_succ, i64_w, i32_w]
                rfl
              refine pure_ (i := 8) (N := some 130) (v := ?_) (a' := ?_) #[true, true, true, true, true, false, false, true, true, false, false, false, false, false, false, false, false, false, false] rfl rfl (by kernel_rfl) (fun _ _ _ h => h) (Or.inl ⟨by rfl, ?_⟩) ?_ ?_
              rotate_left
              · intro w'
                go_simp
                with_reducible rfl
              rotate_left
              · simp only [Act.put, List.setIfInBounds_toArray, List.set_cons_zero, List.set_cons_succ, i64_w, i32_w]
                rfl
              refine pure_ (i := 9) (N := some 131) (v := ?_) (a' := ?_) #[true, true, true, true, true, false, false, true, true, true, false, false, false, false, false, false, false, false, false] rfl rfl (by kernel_rfl) (fun _ _ _ h => h) (Or.inl ⟨by rfl, ?_⟩) ?_ ?_
              rotate_left
              · intro w'
                go_simp
                with_reducible rfl
              rotate_left
              · simp only [Act.put, List.setIfInBounds_toArray, List.set_cons_zero, List.set_cons_succ, i64_w, i32_w]
                rfl
              refine pure_ (i := 10) (N := some 132) (v := ?_) (a' := ?_) #[true, true, true, true, true, false, false, true, true, true, true, false, false, false, false, false, false, false, false] rfl rfl (by kernel_rfl) (fun _ _ _ h => h) (Or.inl ⟨by rfl, ?_⟩) ?_ ?_
              rotate_left
              · intro w'
                go_simp
                with_reducible rfl
              rotate_left
              · simp only [Act.put, List.setIfInBounds_toArray, List.set_cons_zero, List.set_cons_succ, i64_w, i32_w]
                rfl
              refine take_ (i := 5) (N := some 127) (v := ?_) (a' := ?_) #[true, true, true, true, true, true, false, true, true, true, true, false, false, false, false, false, false, false, false] rfl rfl (by kernel_rfl) (fun _ _ _ h => h) (Or.inl ⟨by rfl, ?_⟩) hHeld ?_ ?_
              rotate_left
              · rintro w' ⟨s0, s1⟩
                go_simp
                with_reducible rfl
              rotate_left
              · simp only [Act.put, List.setIfInBounds_toArray, List.set_cons_zero, List.set_cons_succ, i64_w, i32_w]
                rfl
              refine take_ (i := 11) (N := some 133) (v := ?_) (a' := ?_) #[true, true, true, true, true, true, false, true, true, true, true, true, false, false, false, false, false, false, false] rfl rfl (by kernel_rfl) (fun _ _ _ h => h) (Or.inl ⟨by rfl, ?_⟩) hHeld ?_ ?_
              rotate_left
              · rintro w' ⟨s0, s1⟩
                go_simp
                with_reducible rfl
              rotate_left
              · simp only [Act.put, List.setIfInBounds_toArray, List.set_cons_zero, List.set_cons_succ, i64_w, i32_w]
                rfl
              refine one_ (i := 6) (N := some 128) #[true, true, true, true, true, true, true, true, true, true, true, true, false, false, false, false, false, false, false] rfl rfl (by kernel_rfl) (by decide) (fun K hK => ?_)
              refine goes_ Try.func38 (by kernel_rfl) rfl #[.pointer (some ⟨gp, 0, none⟩), .agg #[.int .i64 y0, .int .i64 y1]] (by rfl) rfl rfl (by simp only [List.map_toArray, List.map_cons, List.map_nil]; rfl) ?_
              with_reducible refine (HH.out).mono ?_
              rintro e w16 ⟨rfl, hb16⟩
              refine ⟨_, rfl, ?_⟩
              have HB16 := Aside0.mk hb16
              refine hK.out _ _ ⟨pw_cell_below HB16.out b0, pw_cell_below HB16.out b1⟩ (fun hHeld => ?_)
              clear hK K
              refine norm_ (a' := ?_) ?_ ?_
              rotate_left
              · show Act.put _ (some 128) _ = _
                simp only [Act.put, List.setIfInBounds_toArray, List.set_cons_zero, List.set_cons_succ, i64_w, i32_w]
                rfl
              refine one_ (i := 12) (N := some 134) #[true, true, true, true, true, true, true, true, true, true, true, true, true, false, false, false, false, false, false] rfl rfl (by kernel_rfl) (by decide) (fun K hK => ?_)
              refine goes_ Try.func39 (by kernel_rfl) rfl #[.agg #[.int .i64 y0, .int .i64 y1]] (by rfl) rfl rfl (by simp only [List.map_toArray, List.map_cons, List.map_nil]; rfl) ?_
              with_reducible refine ((satchelref01_Can.calls y0 y1 true w16 HCN.out)).mono ?_
              rintro e w17 ⟨rfl, hb17⟩
              refine ⟨_, rfl, ?_⟩
              have HB17 := Aside0.mk (below_step HB16.out hb17)
              refine hK.out _ _ ⟨pw_cell_below HB17.out b0, pw_cell_below HB17.out b1⟩ (fun hHeld => ?_)
              clear hK K
              refine norm_ (a' := ?_) ?_ ?_
              rotate_left
              · show Act.put _ (some 134) _ = _
                simp only [Act.put, List.setIfInBounds_toArray, List.set_cons_zero, List.set_cons_succ, i64_w, i32_w]
                rfl
              refine pure_ (i := 13) (N := some 135) (v := ?_) (a' := ?_) #[true, true, true, true, true, true, true, true, true, true, true, true, true, true, false, false, false, false, false] rfl rfl (by kernel_rfl) (fun _ _ _ h => h) (Or.inl ⟨by rfl, ?_⟩) ?_ ?_
              rotate_left
              · intro w'
                go_simp
                with_reducible rfl
              rotate_left
              · simp only [Act.put, List.setIfInBounds_toArray, List.set_cons_zero, List.set_cons_succ, i64_w, i32_w]
                rfl
              refine pure_ (i := 14) (N := some 136) (v := ?_) (a' := ?_) #[true, true, true, true, true, true, true, true, true, true, true, true, true, true, true, false, false, false, false] rfl rfl (by kernel_rfl) (fun _ _ _ h => h) (Or.inl ⟨by rfl, ?_⟩) ?_ ?_
              rotate_left
              · intro w'
                go_simp
                with_reducible rfl
              rotate_left
              · simp only [Act.put, List.setIfInBounds_toArray, List.set_cons_zero, List.set_cons_succ, i64_w, i32_w]
                rfl
              refine pure_ (i := 15) (N := some 137) (v := ?_) (a' := ?_) #[true, true, true, true, true, true, true, true, true, true, true, true, true, true, true, true, false, false, false] rfl rfl (by kernel_rfl) (fun _ _ _ h => h) (Or.inl ⟨by rfl, ?_⟩) ?_ ?_
              rotate_left
              · intro w'
                go_simp
                with_reducible rfl
              rotate_left
              · simp only [Act.put, List.setIfInBounds_toArray, List.set_cons_zero, List.set_cons_succ, i64_w, i32_w]
                rfl
              refine pure_ (i := 16) (N := some 138) (v := ?_) (a' := ?_) #[true, true, true, true, true, true, true, true, true, true, true, true, true, true, true, true, true, false, false] rfl rfl (by kernel_rfl) (fun _ _ _ h => h) (Or.inl ⟨by rfl, ?_⟩) ?_ ?_
              rotate_left
              · intro w'
                go_simp
                with_reducible rfl
              rotate_left
              · simp only [Act.put, List.setIfInBounds_toArray, List.set_cons_zero, List.set_cons_succ, i64_w, i32_w]
                rfl
              refine pure_ (i := 17) (N := some 139) (v := ?_) (a' := ?_) #[true, true, true, true, true, true, true, true, true, true, true, true, true, true, true, true, true, true, false] rfl rfl (by kernel_rfl) (fun _ _ _ h => h) (Or.inl ⟨by rfl, ?_⟩) ?_ ?_
              rotate_left
              · intro w'
                go_simp
                with_reducible rfl
              rotate_left
              · simp only [Act.put, List.setIfInBounds_toArray, List.set_cons_zero, List.set_cons_succ, i64_w, i32_w]
                rfl
              refine pure_ (i := 18) (N := some 140) (v := ?_) (a' := ?_) #[true, true, true, true, true, true, true, true, true, true, true, true, true, true, true, true, true, true, true] rfl rfl (by kernel_rfl) (fun _ _ _ h => h) (Or.inl ⟨by rfl, ?_⟩) ?_ ?_
              rotate_left
              · intro w'
                go_simp
                with_reducible rfl
              rotate_left
              · simp only [Act.put, List.setIfInBounds_toArray, List.set_cons_zero, List.set_cons_succ, i64_w, i32_w]
                rfl
              refine done_ (by kernel_rfl) ?_
              (try go_wp2_with fail)
              go_meet
              case rel => exact ⟨rfl, ⟨below_step HBd.out HB17.out⟩⟩
          · have hcf : canB y0 y1 = false := by simpa using hcan
            have hh : hasR M y0 y1 = false := by unfold hasR; rw [hcf]; rfl
            rw [hcf] at HCN
            rw [hh] at hHS
            have HH := Aside0.mk hHS
            clear hHS hh hcan hcf
            refine start_ (n := 19) (S := fun w' => w'.cell? ⟨(ad.add (i * 5)).block, (ad.add (i * 5)).off + 3, none⟩ = some (.int .i64 y0) ∧ w'.cell? ⟨(ad.add (i * 5)).block, (ad.add (i * 5)).off + 4, none⟩ = some (.int .i64 y1)) (ds := []) #[false, false, false, false, false, false, false, false, false, false, false, false, false, false, false, false, false, false, false] (by kernel_rfl) rfl rfl ⟨b0, b1⟩ (fun hHeld => ?_)
            refine pure_ (i := 0) (N := some 122) (v := ?_) (a' := ?_) #[true, false, false, false, false, false, false, false, false, false, false, false, false, false, false, false, false, false, false] rfl rfl (by kernel_rfl) (fun _ _ _ h => h) (Or.inl ⟨by rfl, ?_⟩) ?_ ?_
            rotate_left
            · intro w'
              go_simp
              with_reducible rfl
            rotate_left
            · simp only [Act.put, List.setIfInBounds_toArray, List.set_cons_zero, List.set_cons_succ, i64_w, i32_w]
              rfl
            refine pure_ (i := 1) (N := some 123) (v := ?_) (a' := ?_) #[true, true, false, false, false, false, false, false, false, false, false, false, false, false, false, false, false, false, false] rfl rfl (by kernel_rfl) (fun _ _ _ h => h) (Or.inl ⟨by rfl, ?_⟩) ?_ ?_
            rotate_left
            · intro w'
              go_simp
              with_reducible rfl
            rotate_left
            · simp only [Act.put, List.setIfInBounds_toArray, List.set_cons_zero, List.set_cons_succ, i64_w, i32_w]
              rfl
            refine pure_ (i := 2) (N := some 124) (v := ?_) (a' := ?_) #[true, true, true, false, false, false, false, false, false, false, false, false, false, false, false, false, false, false, false] rfl rfl (by kernel_rfl) (fun _ _ _ h => h) (Or.inl ⟨by rfl, ?_⟩) ?_ ?_
            rotate_left
            · intro w'
              go_simp
              with_reducible rfl
            rotate_left
            · simp only [Act.put, List.setIfInBounds_toArray, List.set_cons_zero, List.set_cons_succ, i64_w, i32_w]
              rfl
            refine pure_ (i := 3) (N := some 125) (v := ?_) (a' := ?_) #[true, true, true, true, false, false, false, false, false, false, false, false, false, false, false, false, false, false, false] rfl rfl (by kernel_rfl) (fun _ _ _ h => h) (Or.inl ⟨by rfl, ?_⟩) ?_ ?_
            rotate_left
            · intro w'
              go_simp
              with_reducible rfl
            rotate_left
            · simp only [Act.put, List.setIfInBounds_toArray, List.set_cons_zero, List.set_cons_succ, i64_w, i32_w]
              rfl
            refine pure_ (i := 4) (N := some 126) (v := ?_) (a' := ?_) #[true, true, true, true, true, false, false, false, false, false, false, false, false, false, false, false, false, false, false] rfl rfl (by kernel_rfl) (fun _ _ _ h => h) (Or.inl ⟨by rfl, ?_⟩) ?_ ?_
            rotate_left
            · intro w'
              go_simp
              with_reducible rfl
            rotate_left
            · simp only [Act.put, List.setIfInBounds_toArray, List.set_cons_zero, List.set_cons_succ, i64_w, i32_w]
              rfl
            refine pure_ (i := 7) (N := some 129) (v := ?_) (a' := ?_) #[true, true, true, true, true, false, false, true, false, false, false, false, false, false, false, false, false, false, false] rfl rfl (by kernel_rfl) (fun _ _ _ h => h) (Or.inl ⟨by rfl, ?_⟩) ?_ ?_
            rotate_left
            · intro w'
              go_simp
              with_reducible rfl
            rotate_left
            · simp only [Act.put, List.setIfInBounds_toArray, List.set_cons_zero, List.set_cons_succ, i64_w, i32_w]
              rfl
            refine pure_ (i := 8) (N := some 130) (v := ?_) (a' := ?_) #[true, true, true, true, true, false, false, true, true, false, false, false, false, false, false, false, false, false, false] rfl rfl (by kernel_rfl) (fun _ _ _ h => h) (Or.inl ⟨by rfl, ?_⟩) ?_ ?_
            rotate_left
            · intro w'
              go_simp
              with_reducible rfl
            rotate_left
            · simp only [Act.put, List.setIfInBounds_toArray, List.set_cons_zero, List.set_cons_succ, i64_w, i32_w]
              rfl
            refine pure_ (i := 9) (N := some 131) (v := ?_) (a' := ?_) #[true, true, true, true, true, false, false, true, true, true, false, false, false, false, false, false, false, false, false] rfl rfl (by kernel_rfl) (fun _ _ _ h => h) (Or.inl ⟨by rfl, ?_⟩) ?_ ?_
            rotate_left
            · intro w'
              go_simp
              with_reducible rfl
            rotate_left
            · simp only [Act.put, List.setIfInBounds_toArray, List.set_cons_zero, List.set_cons_succ, i64_w, i32_w]
              rfl
            refine pure_ (i := 10) (N := some 132) (v := ?_) (a' := ?_) #[true, true, true, true, true, false, false, true, true, true, true, false, false, false, false, false, false, false, false] rfl rfl (by kernel_rfl) (fun _ _ _ h => h) (Or.inl ⟨by rfl, ?_⟩) ?_ ?_
            rotate_left
            · intro w'
              go_simp
              with_reducible rfl
            rotate_left
            · simp only [Act.put, List.setIfInBounds_toArray, List.set_cons_zero, List.set_cons_succ, i64_w, i32_w]
              rfl
            refine take_ (i := 5) (N := some 127) (v := ?_) (a' := ?_) #[true, true, true, true, true, true, false, true, true, true, true, false, false, false, false, false, false, false, false] rfl rfl (by kernel_rfl) (fun _ _ _ h => h) (Or.inl ⟨by rfl, ?_⟩) hHeld ?_ ?_
            rotate_left
            · rintro w' ⟨s0, s1⟩
              go_simp
              with_reducible rfl
            rotate_left
            · simp only [Act.put, List.setIfInBounds_toArray, List.set_cons_zero, List.set_cons_succ, i64_w, i32_w]
              rfl
            refine take_ (i := 11) (N := some 133) (v := ?_) (a' := ?_) #[true, true, true, true, true, true, false, true, true, true, true, true, false, false, false, false, false, false, false] rfl rfl (by kernel_rfl) (fun _ _ _ h => h) (Or.inl ⟨by rfl, ?_⟩) hHeld ?_ ?_
            rotate_left
            · rintro w' ⟨s0, s1⟩
              go_simp
              with_reducible rfl
            rotate_left
            · simp only [Act.put, List.setIfInBounds_toArray, List.set_cons_zero, List.set_cons_succ, i64_w, i32_w]
              rfl
            refine one_ (i := 6) (N := some 128) #[true, true, true, true, true, true, true, true, true, true, true, true, false, false, false, false, false, false, false] rfl rfl (by kernel_rfl) (by decide) (fun K hK => ?_)
            refine goes_ Try.func38 (by kernel_rfl) rfl #[.pointer (some ⟨gp, 0, none⟩), .agg #[.int .i64 y0, .int .i64 y1]] (by rfl) rfl rfl (by simp only [List.map_toArray, List.map_cons, List.map_nil]; rfl) ?_
            with_reducible refine (HH.out).mono ?_
            rintro e w16 ⟨rfl, hb16⟩
            refine ⟨_, rfl, ?_⟩
            have HB16 := Aside0.mk hb16
            refine hK.out _ _ ⟨pw_cell_below HB16.out b0, pw_cell_below HB16.out b1⟩ (fun hHeld => ?_)
            clear hK K
            refine norm_ (a' := ?_) ?_ ?_
            rotate_left
            · show Act.put _ (some 128) _ = _
              simp only [Act.put, List.setIfInBounds_toArray, List.set_cons_zero, List.set_cons_succ, i64_w, i32_w]
              rfl
            refine one_ (i := 12) (N := some 134) #[true, true, true, true, true, true, true, true, true, true, true, true, true, false, false, false, false, false, false] rfl rfl (by kernel_rfl) (by decide) (fun K hK => ?_)
            refine goes_ Try.func39 (by kernel_rfl) rfl #[.agg #[.int .i64 y0, .int .i64 y1]] (by rfl) rfl rfl (by simp only [List.map_toArray, List.map_cons, List.map_nil]; rfl) ?_
            with_reducible refine ((satchelref01_Can.calls y0 y1 false w16 HCN.out)).mono ?_
            rintro e w17 ⟨rfl, hb17⟩
            refine ⟨_, rfl, ?_⟩
            have HB17 := Aside0.mk (below_step HB16.out hb17)
            refine hK.out _ _ ⟨pw_cell_below HB17.out b0, pw_cell_below HB17.out b1⟩ (fun hHeld => ?_)
            clear hK K
            refine norm_ (a' := ?_) ?_ ?_
            rotate_left
            · show Act.put _ (some 134) _ = _
              simp only [Act.put, List.setIfInBounds_toArray, List.set_cons_zero, List.set_cons_succ, i64_w, i32_w]
              rfl
            refine pure_ (i := 13) (N := some 135) (v := ?_) (a' := ?_) #[true, true, true, true, true, true, true, true, true, true, true, true, true, true, false, false, false, false, false] rfl rfl (by kernel_rfl) (fun _ _ _ h => h) (Or.inl ⟨by rfl, ?_⟩) ?_ ?_
            rotate_left
            · intro w'
              go_simp
              with_reducible rfl
            rotate_left
            · simp only [Act.put, List.setIfInBounds_toArray, List.set_cons_zero, List.set_cons_succ, i64_w, i32_w]
              rfl
            refine pure_ (i := 14) (N := some 136) (v := undef) (a' := ?_) #[true, true, true, true, true, true, true, true, true, true, true, true, true, true, true, false, false, false, false] rfl rfl (by kernel_rfl) (fun _ _ _ h => h) (Or.inr ⟨by rfl, rfl⟩) ?_ ?_
            rotate_left
            · simp only [Act.put, List.setIfInBounds_toArray, List.set_cons_zero, List.set_cons_succ, i64_w, i32_w]
              rfl
            refine pure_ (i := 15) (N := some 137) (v := undef) (a' := ?_) #[true, true, true, true, true, true, true, true, true, true, true, true, true, true, true, true, false, false, false] rfl rfl (by kernel_rfl) (fun _ _ _ h => h) (Or.inr ⟨by rfl, rfl⟩) ?_ ?_
            rotate_left
            · simp only [Act.put, List.setIfInBounds_toArray, List.set_cons_zero, List.set_cons_succ, i64_w, i32_w]
              rfl
            refine pure_ (i := 16) (N := some 138) (v := undef) (a' := ?_) #[true, true, true, true, true, true, true, true, true, true, true, true, true, true, true, true, true, false, false] rfl rfl (by kernel_rfl) (fun _ _ _ h => h) (Or.inr ⟨by rfl, rfl⟩) ?_ ?_
            rotate_left
            · simp only [Act.put, List.setIfInBounds_toArray, List.set_cons_zero, List.set_cons_succ, i64_w, i32_w]
              rfl
            refine pure_ (i := 17) (N := some 139) (v := ?_) (a' := ?_) #[true, true, true, true, true, true, true, true, true, true, true, true, true, true, true, true, true, true, false] rfl rfl (by kernel_rfl) (fun _ _ _ h => h) (Or.inl ⟨by rfl, ?_⟩) ?_ ?_
            rotate_left
            · intro w'
              go_simp
              with_reducible rfl
            rotate_left
            · simp only [Act.put, List.setIfInBounds_toArray, List.set_cons_zero, List.set_cons_succ, i64_w, i32_w]
              rfl
            refine pure_ (i := 18) (N := some 140) (v := ?_) (a' := ?_) #[true, true, true, true, true, true, true, true, true, true, true, true, true, true, true, true, true, true, true] rfl rfl (by kernel_rfl) (fun _ _ _ h => h) (Or.inl ⟨by rfl, ?_⟩) ?_ ?_
            rotate_left
            · intro w'
              go_simp
              with_reducible rfl
            rotate_left
            · simp only [Act.put, List.setIfInBounds_toArray, List.set_cons_zero, List.set_cons_succ, i64_w, i32_w]
              rfl
            refine done_ (by kernel_rfl) ?_
            (try go_wp2_with fail)
            go_meet
            case rel => exact ⟨rfl, ⟨below_step HBd.out HB17.out⟩⟩
        case rest =>
          obtain ⟨rfl, HBc⟩ := hcut
          have HRT7 := Aside0.mk (HRT6.out.below HBc.out)
          have HRA7 := Aside0.mk (Kd.R_below HRA6.out HBc.out)
          have HRG7 := Aside0.mk (Kd.R_below HRG6.out HBc.out)
          clear HRT6 HRA6 HRG6 HY6 HBc HGE
          go_upto_block 2 with fail
          go_wp2_with fail
          go_loopg [13] M.length (fun kq v13 wd => ∃ j : Nat, kq + j = M.length ∧ v13 = .int .i64 j ∧ Aside0 (∃ La : List S67, La.length = M.length ∧ Kd.R k67 67 wd w.heap.size (fun k => s0 ≤ k ∧ k < s1) (.slice A1 M.length c1) La) ∧ Aside0 (Fr wc wd (fun i => ¬ (s0 ≤ i ∧ i < s1))))
          case atStart => exact ⟨0, by omega, rfl, ⟨M, rfl, HRA7.out⟩, ⟨Fr.refl _ _⟩⟩
          case round =>
            obtain ⟨j, hkj, rfl, HLA, HFR⟩ := hrel
            cases gk with
            | succ k2 =>
              have e3 : (j : Int) < (M.length : Int) := by omega
              have d3 : decide ((j : Int) < (M.length : Int)) = true := decide_eq_true e3
              have e4 : 0 ≤ (j : Int) := by omega
              have hjm : j < M.length := by omega
              have HW2 := Aside0.mk (wsucc j (by have := HFM.out.len; omega))
              obtain ⟨La, hLa, hRa⟩ := HLA.out
              obtain ⟨ga, rfl, hga, hgl, ⟨u0, u1, x0_, x1_⟩, f0, f1, hR⟩ := row_put hRa j hjm 3 2
              have HN := Aside0.mk (show ∃ La : List S67, La.length = M.length ∧ Kd.R k67 67 ((wr.setCell ⟨ga, j * 2, none⟩ (.int .i64 3)).setCell ⟨ga, j * 2 + 1, none⟩ (.int .i64 2)) w.heap.size (fun k => s0 ≤ k ∧ k < s1) (.slice (some ⟨ga, 0, none⟩) M.length c1) La from ⟨_, by rw [List.length_set]; exact hLa, hR⟩)
              have HF2 := Aside0.mk (show Fr wc ((wr.setCell ⟨ga, j * 2, none⟩ (.int .i64 3)).setCell ⟨ga, j * 2 + 1, none⟩ (.int .i64 2)) (fun i => ¬ (s0 ≤ i ∧ i < s1)) from
                (HFR.out.then' (Fr.set ⟨ga, j * 2, none⟩ _) (fun i _ h => fun e => h (by rw [e]; exact hga))).then' (Fr.set ⟨ga, j * 2 + 1, none⟩ _) (fun i _ h => fun e => h (by rw [e]; exact hga)))
              clear hLa hRa hR HLA HFR hga
              go_wp2_with fail
              go_roundg k2
              case measure => omega
              case rel => exact ⟨j + 1, by omega, by first | rw [HW2.out] | simp [HW2.out], HN, HF2⟩
            | zero =>
              have e3 : ¬ ((j : Int) < (M.length : Int)) := by omega
              have d3 : decide ((j : Int) < (M.length : Int)) = false := decide_eq_false e3
              have HRT8 := Aside0.mk (HRT7.out.fr (HFR.out.mono (fun i _ h => fun q => by have := HLE.out; omega)))
              have HRG8 := Aside0.mk (Kd.R_step HRG7.out (fun k hk hlt => HFR.out.block k hlt (fun q => by have := HLE.out; omega)))
              clear HLA HFR HRT7 HRG7 HRA7 hkj
              go_upto_block 4 with fail
              go_wp2_with fail
              generalize hw8 : wr = w8 at HRT8 HRG8 ⊢
              go_loopg [14] G.length (fun kq v14 wd => ∃ j : Nat, kq + j = G.length ∧ v14 = .int .i64 j ∧ Aside0 (∃ La : List S67, La.length = G.length ∧ Kd.R k67 67 wd w.heap.size (fun k => s2 ≤ k ∧ k < s3) (.slice A3 G.length c3) La) ∧ Aside0 (Fr w8 wd (fun i => ¬ (s2 ≤ i ∧ i < s3))))
              case atStart => exact ⟨0, by omega, rfl, ⟨G, rfl, HRG8.out⟩, ⟨Fr.refl _ _⟩⟩
              case round =>
                obtain ⟨j2, hkj2, rfl, HLA, HFR⟩ := hrel
                cases gk with
                | succ k3 =>
                  have e5 : (j2 : Int) < (G.length : Int) := by omega
                  have d5 : decide ((j2 : Int) < (G.length : Int)) = true := decide_eq_true e5
                  have e6 : 0 ≤ (j2 : Int) := by omega
                  have hjm : j2 < G.length := by omega
                  have HW2 := Aside0.mk (wsucc j2 (by have := HGL.out; omega))
                  obtain ⟨La, hLa, hRa⟩ := HLA.out
                  obtain ⟨ga, rfl, hga, hgl, ⟨u0, u1, x0_, x1_⟩, f0, f1, hR⟩ := row_put hRa j2 hjm 5 1
                  have HN := Aside0.mk (show ∃ La : List S67, La.length = G.length ∧ Kd.R k67 67 ((wr.setCell ⟨ga, j2 * 2, none⟩ (.int .i64 5)).setCell ⟨ga, j2 * 2 + 1, none⟩ (.int .i64 1)) w.heap.size (fun k => s2 ≤ k ∧ k < s3) (.slice (some ⟨ga, 0, none⟩) G.length c3) La from ⟨_, by rw [List.length_set]; exact hLa, hR⟩)
                  have HF2 := Aside0.mk (show Fr w8 ((wr.setCell ⟨ga, j2 * 2, none⟩ (.int .i64 5)).setCell ⟨ga, j2 * 2 + 1, none⟩ (.int .i64 1)) (fun i => ¬ (s2 ≤ i ∧ i < s3)) from
                    (HFR.out.then' (Fr.set ⟨ga, j2 * 2, none⟩ _) (fun i _ h => fun e => h (by rw [e]; exact hga))).then' (Fr.set ⟨ga, j2 * 2 + 1, none⟩ _) (fun i _ h => fun e => h (by rw [e]; exact hga)))
                  clear hLa hRa hR HLA HFR hga
                  go_wp2_with fail
                  go_roundg k3
                  case measure => omega
                  case rel => exact ⟨j2 + 1, by omega, by first | rw [HW2.out] | simp [HW2.out], HN, HF2⟩
                | zero =>
                  have e5 : ¬ ((j2 : Int) < (G.length : Int)) := by omega
                  have d5 : decide ((j2 : Int) < (G.length : Int)) = false := decide_eq_false e5
                  have HRT9 := Aside0.mk (HRT8.out.fr (HFR.out.mono (fun i _ h => fun q => by have := HLE.out; omega)))
                  clear HLA HFR HRT8 HRG8 hkj2
                  have HS2 := Aside0.mk (fun (W : World) (h : Below wr.heap.size wr W) => satchellaw01_same.calls (M.length + 1) A2 c2 M Av cv M true W (Kd.R_reads' (Kd.R_below HRT9.out.b h)).2.2 HCS.out.2.1 (Kd.R_reads' (Kd.R_below HRT9.out.d h)).2.2 HCV.out (same_f1 M (by have := HFM.out.len; omega)))
                  have HS4 := Aside0.mk (fun (W : World) (h : Below wr.heap.size wr W) => satchellaw01_same.calls (G.length + 1) A4 c4 G A5 c5 G true W (Kd.R_reads' (Kd.R_below HRT9.out.h h)).2.2 HCS.out.2.2.2 (Kd.R_reads' (Kd.R_below HRT9.out.g h)).2.2 HC5.out (same_f1 G HGL.out))
                  have HAL := Aside0.mk (fun (W : World) (h : Below wr.heap.size wr W) => all_set (HRT9.out.set.below h) (by have := HFM.out.len; omega))
                  have HB := Aside0.mk (Below.refl wr.heap.size wr)
                  go_wp2_with (first | (go_at_call 35; (with_reducible refine (HS2.out _ (by repeat (first | (with_reducible first | exact HB.out | apply pw_below_drewN | apply below_drew1)))).mono ?_); rintro e wq ⟨rfl, ⟨m7, rfl⟩⟩) | (go_at_call 35; (with_reducible refine (HS4.out _ (by repeat (first | (with_reducible first | exact HB.out | apply pw_below_drewN | apply below_drew1)))).mono ?_); rintro e wq ⟨rfl, ⟨m9, rfl⟩⟩) | (go_at_call 32; (with_reducible refine (HAL.out _ (by repeat (first | (with_reducible first | exact HB.out | apply pw_below_drewN | apply below_drew1)))).mono ?_); rintro e w12 ⟨v12, rfl, ho, hb⟩; have n0 := Aside0.mk (below_step (by repeat (first | (with_reducible first | exact HB.out | apply pw_below_drewN | apply below_drew1))) hb); clear HB; have HB := n0; have HBF := n0; have HO12 := Aside0.mk ho; obtain ⟨A12, c12, rfl, hc12, hC12⟩ := Kd.R_reads ho; have HN12 := Aside0.mk hc12; have HC12 := Aside0.mk hC12; clear n0 hb ho hc12 hC12) | (go_at_call 35; refine (satchellaw01_same.calls (M.length + 1) A12 c12 M Av cv M true _ HC12.out HN12.out (Kd.R_reads' (Kd.R_below HRT9.out.d HBF.out)).2.2 HCV.out (same_f1 M (by have := HFM.out.len; omega))).mono ?_; rintro e wq ⟨rfl, ⟨m13, rfl⟩⟩))
                  go_roundg k1
                  case measure => omega
                  case rel => exact ⟨i + 1, by omega, by first | rw [HW1.out] | simp [HW1.out], ⟨by rw [← HM.out]; exact (HRT9.out.below (pw_below_drewN HBF.out m13)).inv⟩⟩
    | zero =>
      have e1 : ¬ ((i : Int) < (l.length : Int)) := by omega
      have d1 : decide ((i : Int) < (l.length : Int)) = false := decide_eq_false e1
      have hFL := runL_fine l i (by omega)
      have hA := fun (W : World) (h : Below wr.heap.size wr W) => has_set (HS.out.p.below h) (by have := hFL.len; omega) 4 4
      have hB := fun (W : World) (h : Below wr.heap.size wr W) => has_set (HS.out.p.below h) (by have := hFL.len; omega) 4 3
      rw [has44 hFL] at hA
      rw [has43] at hB
      have HA := Aside0.mk hA
      have HBB := Aside0.mk hB
      have HB := Aside0.mk (Below.refl wr.heap.size wr)
      clear hA hB hFL hk
      go_wp2_with (first | (go_at_call 38; (with_reducible refine (HA.out _ HB.out).mono ?_); rintro e w2 ⟨rfl, hb⟩; have n0 := Aside0.mk (below_step HB.out hb); clear HB; have HB := n0; clear n0 hb) | (go_at_call 38; (with_reducible refine (HBB.out _ HB.out).mono ?_); rintro e w3 ⟨rfl, hb⟩; have n0 := Aside0.mk (below_step HB.out hb); clear HB; have HB := n0; clear n0 hb))
      go_ret
      exact ⟨rfl, below_step HS.out.bel HB.out⟩
end Go.Proofs.Ytanbicpkdkcpbaa.Rng
