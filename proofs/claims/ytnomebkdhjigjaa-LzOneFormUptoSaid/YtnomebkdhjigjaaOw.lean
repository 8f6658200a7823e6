/- LzOneForm: the walk. Conditions: lists of fewer than 2^20 parts, bytes are bytes. -/
import Derived.Test.YtnomebkdhjigjaaRa
import Derived.Deep.QuietTactic
import Derived.BigQuiet
import Derived.OwnWalk
import Derived.Lib.SlBytesConst
namespace Go.Proofs.Ytnomebkdhjigjaa.W
open Go.RowKit Go.Proofs.Ytnomebkdhjigjaa.Z Go.Proofs.Ytnomebkdhjigjaa.MLzDecodes Go.Proofs.YtnomebkdhjigjaaW.PrintWords Go.Proofs.YtnomebkdhjigjaaW.PrintLast Go.Proofs.YtnomebkdhjigjaaW.PrintMore
set_option linter.unusedVariables false
set_option linter.unusedSimpArgs false
set_option maxHeartbeats 8000000 in
set_option maxRecDepth 100000 in
theorem oneform_walk (A1 A2 A3 : Option Addr) (c1 c2 c3 : Nat) (b ahead : List Int) (l : List S44) (most : Int) (w : World) (hr1 : ReadsInt w .u8 A1 b.length b) (hc1 : b.length ≤ c1) (hb1 : Byt b) (hbyb : bytesB b = true) (hl1 : b.length ≤ 1048576)
    (hr2 : Kd.C k44 w A2 l.length l) (hc2 : l.length ≤ c2) (hl2 : l.length ≤ 1048576) (hm2 : ∀ i, i < l.length → (l.getD i z44).f0.length ≤ 1048576 ∧ (l.getD i z44).f2 ≤ 9223372036854775807) (hb2 : ∀ s ∈ l, BytM s.f0)
    (hr3 : ReadsInt w .u8 A3 ahead.length ahead) (hc3 : ahead.length ≤ c3) (hl3 : ahead.length ≤ 1048576) :
    Calls Try.prog 12 #[.agg #[.slice A1 b.length c1, .slice A2 l.length c2, .slice A3 ahead.length c3, .int .i64 most]] w fun e w' => e = .returned (.bool true) ∧ Below w.heap.size w w' := by
  have HBY := Aside0.mk hb1
  have HR1 := Aside0.mk (show Kd.C (Kd.int .u8) w A1 b.length b from Kd.C_of_reads (enc := Value.int .u8) (d := (0 : Int)) (h1 := fun _ => rfl) hr1)
  have HR2 := Aside0.mk hr2
  have HR3 := Aside0.mk (show Kd.C (Kd.int .u8) w A3 ahead.length ahead from Kd.C_of_reads (enc := Value.int .u8) (d := (0 : Int)) (h1 := fun _ => rfl) hr3)
  have HBM := Aside0.mk hb2
  have HBYB := Aside0.mk hbyb
  have HM2 := Aside0.mk hm2
  have HC1 := Aside0.mk hc1
  have HC2 := Aside0.mk hc2
  have HC3 := Aside0.mk hc3
  have HL1 := Aside0.mk hl1
  have HL2 := Aside0.mk hl2
  have HL3 := Aside0.mk hl3
  have HPC := Aside0.mk (fun (A : Option Addr) (c : Nat) (W : World) (h : Kd.C (Kd.int .u8) W A b.length b) (h2 : b.length ≤ c) => Parse_calls A c b W (reads_of_C h) h2 hb1 (by omega))
  have HPOK := Aside0.mk (parse_ok b hb1)
  have HPM := Aside0.mk (make_parsed b hb1)
  have HPS := Aside0.mk (parse_short b (by omega))
  have HPB := Aside0.mk (parse_bound b)
  obtain ⟨D, hD⟩ : ∃ D, D = parse b := ⟨_, rfl⟩
  rw [← hD] at HPC HPOK HPM HPS HPB
  clear hbyb hD hr1 hr2 hr3 hb1 hb2 hm2 hc1 hc2 hc3
  go_enter Try.func12, Try.ntmps12
  go_upto_region 1 with fail
  obtain ⟨wz, hwz⟩ : ∃ wz, wz = w.alloc (.cells #[.slice A1 b.length c1, .slice A2 l.length c2, .slice A3 ahead.length c3, .int .i64 most] 65) := ⟨_, rfl⟩
  have hhz : wz.heap[w.heap.size]? = some (.cells #[.slice A1 b.length c1, .slice A2 l.length c2, .slice A3 ahead.length c3, .int .i64 most] 65 (0, 0)) := by rw [hwz]; exact heap_alloc_new w _
  have HWZ := Aside0.mk (show Below w.heap.size w wz by rw [hwz]; exact below_alloc (Below.refl _ _) _)
  have x0 : wz.cell? ⟨w.heap.size, 0, none⟩ = some (.slice A1 b.length c1) := cell_of_row wz _ 0 _ 65 (0, 0) hhz
  have x1 : wz.cell? ⟨w.heap.size, 1, none⟩ = some (.slice A2 l.length c2) := cell_of_row wz _ 1 _ 65 (0, 0) hhz
  have x2 : wz.cell? ⟨w.heap.size, 2, none⟩ = some (.slice A3 ahead.length c3) := cell_of_row wz _ 2 _ 65 (0, 0) hhz
  have x3 : wz.cell? ⟨w.heap.size, 3, none⟩ = some (.int .i64 most) := cell_of_row wz _ 3 _ 65 (0, 0) hhz
  rw [← hwz]
  clear hwz hhz
  go_quiet (fail)
  go_upto_region 2 with fail
  have HWA := Aside0.mk (pw_below_drewN HWZ.out nq)
  generalize wz.drewN nq = wa at HWA ⊢
  clear x0 x1 x2 x3 HWZ
  go_upto_region 3 with (first | ((with_reducible refine gate_dst (N := 33) rfl ?_); (try (refine gate_guard (by rfl) ?_; dsimp only)); refine Kd.R_lit (Kd.int .u8) _ 5 ?hg (N := 33) ?hd (xs := ([] : List Int)) (inner := []) (ok := fun _ => True) (okp := fun _ => True) ?hr ?hp (fun _ hk => hk) trivial (Below.refl _ _) (Nat.le_refl _) (by simp) ?_; (case hd => rfl); (case hg => rfl); (case hr => first | (go_simp; done) | (go_simp; rfl)); (case hp => exact (Reps.none _ _)); intro v33 w33 ho hb hg_ hnew_; clear hg_ hnew_; have HO33 := Aside0.mk ho; have HB33 := Aside0.mk hb; clear ho hb) | ((with_reducible refine gate_builtin (b := .append) (xs := #[.tmp 33, .tmp 34]) rfl ?_); (try (refine gate_guard (by rfl) ?_; dsimp only)); at_builtin; refine Kd.R_append_rows (Kd.int .u8) (w0 := wa) wa.heap.size rfl (.tmp 33) (.tmp 34) 22 5 (.int .u8 0) 1 rfl Try.underlying22 info5 rfl (by decide) (by omega) v33 [] b _ _ _ (fun _ => True) (fun _ => False) rfl rfl ?aO ?aR (fun _ _ h => h) (fun _ h => h.elim) ?aF ?aB ?aS ?aL ?_; (case aR => exact Kd.C_below (Kd.C_below HR1.out HWA.out) HB33.out); (case aB => exact HB33.out); (case aF => exact (fun _ _ => trivial)); (case aO => exact HO33.out); (case aS => exact HB33.out.size); (case aL => exact (by have := HL1.out; simp only [List.length_nil]; omega)); intro v35 w35 ho hb hg hat; have ho' : Kd.R (Kd.int .u8) 5 w35 wa.heap.size (fun _ => True) v35 b := ho; obtain ⟨A35, c35, e35, hc35, hC35⟩ := Kd.R_reads ho'; subst e35; have HC35 := Aside0.mk hC35; have HN35 := Aside0.mk hc35; have HB35 := Aside0.mk hb; clear ho ho' hb hg hat hC35 hc35 HB33 HO33) | (go_at_call 21; refine (HPC.out A35 c35 w35 HC35.out HN35.out).mono ?_; rintro e w36 ⟨v36, L36, rfl, hL36, hS36⟩; have HL36 := Aside0.mk hL36; have HS36 := Aside0.mk hS36; clear hL36 hS36))
  clear HPC
  have HB36 := Aside0.mk (below_step (below_step HWA.out HB35.out) HS36.out.B)
  obtain ⟨Ax, cx, ex, hcx, hCx⟩ := HS36.out.seq (B := w35.heap.size) (v := v36) (L := L36) (fun r hr => hr)
  rw [HL36.out] at ex hcx hCx
  subst ex
  have HX := Aside0.mk hCx
  have HXN := Aside0.mk hcx
  clear hcx hCx HL36 HS36 HB35 HC35 HN35 HWA
  go_upto_if 41 with fail
  go_cut [] (fun (wc : World) => Aside0 (Below w.heap.size w wc))
  case first =>
    by_cases hE : D.2.2 = 0
    · obtain ⟨hpm, hpb, hpf, hpd⟩ := HPOK.out hE
      have HPF := Aside0.mk hpf
      have HPD := Aside0.mk hpd
      have hmk := HPM.out hE
      have hEb : (D.2.2 == 0) = true := by rw [hE]; rfl
      have hbnd := HPB.out
      have hDl : D.1.length ≤ 1048577 := by omega
      have HDL := Aside0.mk hDl
      have HDF := Aside0.mk hbnd.1
      have HMF := Aside0.mk (lzMake_f D.1 (by omega) (fun i hi => by
        have hmem : D.1.getD i z44 ∈ D.1 := by rw [List.getD_eq_getElem?_getD, List.getElem?_eq_getElem hi]; exact List.getElem_mem hi
        have x1 := HDF.out _ hmem
        have x2 := HPF.out _ hmem
        omega))
      obtain ⟨mb, hmb⟩ : ∃ mb, mb = (makeP D.1).1 := ⟨_, rfl⟩
      obtain ⟨mf, hmf⟩ : ∃ mf, mf = (makeP D.1).2 := ⟨_, rfl⟩
      have hmm : (mb = b ∧ mf = 0) ∨ mf = 2 := by
        rcases hmk with h | h
        · rw [h] at hmb hmf; exact .inl ⟨hmb, hmf⟩
        · rw [h] at hmf; exact .inr hmf
      have HMM := Aside0.mk hmm
      have HMC := Aside0.mk (lz_Make.calls (2 * D.1.length + 30000) Ax cx D.1 mb mf w36 HX.out HXN.out (by rw [HMF.out, hmb, hmf]))
      clear hpm hpb hpf hpd hmk hE hbnd hDl hmb hmf hmm HMF
      go_upto_region 5 with (go_at_call 33; refine HMC.out.mono ?_; rintro e w44 ⟨v44, rfl, hR44, hB44⟩; have HR44 := Aside0.mk hR44; have HB44 := Aside0.mk hB44; clear hR44 hB44)
      clear HMC
      obtain ⟨Am, cm, em, hcm, hCm⟩ := Kd.R_reads HR44.out
      subst em
      have HCM := Aside0.mk hCm
      have HCMN := Aside0.mk hcm
      clear hCm hcm HR44
      go_cut [62] (fun v62 wc => v62 = .bool false ∧ Aside0 (Below w36.heap.size w36 wc))
      case first =>
        rcases HMM.out with ⟨h1, h2⟩ | h2
        · subst h1 h2
          have HSM := Aside0.mk (satchellaw03_same.calls (mb.length + 1) Am cm mb A1 c1 mb true w44 HCM.out HCMN.out (Kd.C_below (Kd.C_below HR1.out HB36.out) HB44.out) HC1.out (same_f mb (by have := HL1.out; omega)))
          go_wp2_with (go_at_call 37; refine HSM.out.mono ?_; rintro e w52 ⟨rfl, ⟨m52, rfl⟩⟩)
          go_meet
          case rel => exact ⟨rfl, ⟨pw_below_drewN HB44.out _⟩⟩
        · subst h2
          go_wp2_with fail
          go_meet
          case rel => exact ⟨rfl, ⟨HB44.out⟩⟩
      case rest =>
        obtain ⟨rfl, HBc⟩ := hcut
        clear HCM HCMN HB44 HMM
        obtain ⟨pb, hpb⟩ : ∃ pb, pb = (play D.1 ahead most).1 := ⟨_, rfl⟩
        obtain ⟨pe, hpe⟩ : ∃ pe, pe = (play D.1 ahead most).2 := ⟨_, rfl⟩
        obtain ⟨da, hda⟩ : ∃ da, da = (decode b ahead most).2.1 := ⟨_, rfl⟩
        have hpf : lz_Play.f D.1 ahead most = some (pb, pe) := by
          unfold lz_Play.f
          rw [if_pos ⟨by have := HDL.out; omega, HPS.out, by have := HL3.out; omega⟩, hpb, hpe]
        have hdf : lz_Decode.f b ahead most = some (pb, da, pe) := by
          show decodeF b ahead most = _
          unfold decodeF
          rw [if_pos ⟨by have := HL1.out; omega, by have := HL3.out; omega, HBYB.out⟩, hpb, hpe, hda, (HPD.out ahead most).1, (HPD.out ahead most).2]
        have HPBL := Aside0.mk (show pb.length ≤ 140737488355327 by
          have h := decode_bound b ahead most HBY.out
          rw [hpb, (HPD.out ahead most).2]
          have := HL1.out
          by_cases c : (decode b ahead most).2.2 = 0
          · have := (h.2.2 c).2.2; omega
          · have := h.2.1 c; omega)
        have HPF2 := Aside0.mk hpf
        have HDF2 := Aside0.mk hdf
        clear hpf hdf hpb hpe hda
        go_upto_region 8 with (first | ((with_reducible refine gate_dst (N := 65) rfl ?_); (try (refine gate_guard (by rfl) ?_; dsimp only)); refine Kd.R_lit (Kd.int .u8) _ 5 ?hg (N := 65) ?hd (xs := ([] : List Int)) (inner := []) (ok := fun _ => True) (okp := fun _ => True) ?hr ?hp (fun _ hk => hk) trivial (Below.refl _ _) (Nat.le_refl _) (by simp) ?_; (case hd => rfl); (case hg => rfl); (case hr => first | (go_simp; done) | (go_simp; rfl)); (case hp => exact (Reps.none _ _)); intro v65 w65 ho hb hg_ hnew_; clear hg_ hnew_; have HO65 := Aside0.mk ho; have HB65 := Aside0.mk hb; clear ho hb) | ((with_reducible refine gate_builtin (b := .append) (xs := #[.tmp 65, .tmp 66]) rfl ?_); (try (refine gate_guard (by rfl) ?_; dsimp only)); at_builtin; refine Kd.R_append_rows (Kd.int .u8) (w0 := wc) wc.heap.size rfl (.tmp 65) (.tmp 66) 22 5 (.int .u8 0) 1 rfl Try.underlying22 info5 rfl (by decide) (by omega) v65 [] ahead _ _ _ (fun _ => True) (fun _ => False) rfl rfl ?aO ?aR (fun _ _ h => h) (fun _ h => h.elim) ?aF ?aB ?aS ?aL ?_; (case aR => exact Kd.C_below (Kd.C_below (Kd.C_below HR3.out HB36.out) HBc.out) HB65.out); (case aB => exact HB65.out); (case aF => exact (fun _ _ => trivial)); (case aO => exact HO65.out); (case aS => exact HB65.out.size); (case aL => exact (by have := HL3.out; simp only [List.length_nil]; omega)); intro v67 w67 ho hb hg hat; have ho' : Kd.R (Kd.int .u8) 5 w67 wc.heap.size (fun _ => True) v67 ahead := ho; obtain ⟨A67, c67, e67, hc67, hC67⟩ := Kd.R_reads ho'; subst e67; have HC67 := Aside0.mk hC67; have HN67 := Aside0.mk hc67; have HB67 := Aside0.mk hb; clear ho ho' hb hg hat hC67 hc67 HB65 HO65) | (go_at_call 35; refine (Z.lz_Play.calls Ax cx D.1 A67 c67 ahead most pb pe w67 (Kd.C_below (Kd.C_below HX.out HBc.out) HB67.out) HXN.out HC67.out HN67.out HPF2.out).mono ?_; rintro e w69 ⟨v69, rfl, hR, hB⟩; have HR69 := Aside0.mk hR; have HB69 := Aside0.mk hB; clear hR hB))
        obtain ⟨Ap, cp, ep, hcp, hCp⟩ := Kd.R_reads HR69.out
        subst ep
        have HCP := Aside0.mk hCp
        have HCPN := Aside0.mk hcp
        clear hCp hcp HR69
        go_upto_region 9 with (first | ((with_reducible refine gate_dst (N := 73) rfl ?_); (try (refine gate_guard (by rfl) ?_; dsimp only)); refine Kd.R_lit (Kd.int .u8) _ 5 ?hg (N := 73) ?hd (xs := ([] : List Int)) (inner := []) (ok := fun _ => True) (okp := fun _ => True) ?hr ?hp (fun _ hk => hk) trivial (Below.refl _ _) (Nat.le_refl _) (by simp) ?_; (case hd => rfl); (case hg => rfl); (case hr => first | (go_simp; done) | (go_simp; rfl)); (case hp => exact (Reps.none _ _)); intro v73 w73 ho hb hg_ hnew_; clear hg_ hnew_; have HO73 := Aside0.mk ho; have HB73 := Aside0.mk hb; clear ho hb) | ((with_reducible refine gate_builtin (b := .append) (xs := #[.tmp 73, .tmp 74]) rfl ?_); (try (refine gate_guard (by rfl) ?_; dsimp only)); at_builtin; refine Kd.R_append_rows (Kd.int .u8) (w0 := w69) w69.heap.size rfl (.tmp 73) (.tmp 74) 22 5 (.int .u8 0) 1 rfl Try.underlying22 info5 rfl (by decide) (by omega) v73 [] b _ _ _ (fun _ => True) (fun _ => False) rfl rfl ?aO ?aR (fun _ _ h => h) (fun _ h => h.elim) ?aF ?aB ?aS ?aL ?_; (case aR => exact Kd.C_below (Kd.C_below (Kd.C_below (Kd.C_below (Kd.C_below HR1.out HB36.out) HBc.out) HB67.out) HB69.out) HB73.out); (case aB => exact HB73.out); (case aF => exact (fun _ _ => trivial)); (case aO => exact HO73.out); (case aS => exact HB73.out.size); (case aL => exact (by have := HL1.out; simp only [List.length_nil]; omega)); intro v75 w75 ho hb hg hat; have ho' : Kd.R (Kd.int .u8) 5 w75 w69.heap.size (fun _ => True) v75 b := ho; obtain ⟨A75, c75, e75, hc75, hC75⟩ := Kd.R_reads ho'; subst e75; have HC75 := Aside0.mk hC75; have HN75 := Aside0.mk hc75; have HB75 := Aside0.mk hb; clear ho ho' hb hg hat hC75 hc75 HB73 HO73) | ((with_reducible refine gate_dst (N := 76) rfl ?_); (try (refine gate_guard (by rfl) ?_; dsimp only)); refine Kd.R_lit (Kd.int .u8) _ 5 ?hg (N := 76) ?hd (xs := ([] : List Int)) (inner := []) (ok := fun _ => True) (okp := fun _ => True) ?hr ?hp (fun _ hk => hk) trivial (Below.refl _ _) (Nat.le_refl _) (by simp) ?_; (case hd => rfl); (case hg => rfl); (case hr => first | (go_simp; done) | (go_simp; rfl)); (case hp => exact (Reps.none _ _)); intro v76 w76 ho hb hg_ hnew_; clear hg_ hnew_; have HO76 := Aside0.mk ho; have HB76 := Aside0.mk hb; clear ho hb) | ((with_reducible refine gate_builtin (b := .append) (xs := #[.tmp 76, .tmp 77]) rfl ?_); (try (refine gate_guard (by rfl) ?_; dsimp only)); at_builtin; refine Kd.R_append_rows (Kd.int .u8) (w0 := w75) w75.heap.size rfl (.tmp 76) (.tmp 77) 22 5 (.int .u8 0) 1 rfl Try.underlying22 info5 rfl (by decide) (by omega) v76 [] ahead _ _ _ (fun _ => True) (fun _ => False) rfl rfl ?aO ?aR (fun _ _ h => h) (fun _ h => h.elim) ?aF ?aB ?aS ?aL ?_; (case aR => exact Kd.C_below (Kd.C_below (Kd.C_below (Kd.C_below (Kd.C_below (Kd.C_below HR3.out HB36.out) HBc.out) HB67.out) HB69.out) HB75.out) HB76.out); (case aB => exact HB76.out); (case aF => exact (fun _ _ => trivial)); (case aO => exact HO76.out); (case aS => exact HB76.out.size); (case aL => exact (by have := HL3.out; simp only [List.length_nil]; omega)); intro v78 w78 ho hb hg hat; have ho' : Kd.R (Kd.int .u8) 5 w78 w75.heap.size (fun _ => True) v78 ahead := ho; obtain ⟨A78, c78, e78, hc78, hC78⟩ := Kd.R_reads ho'; subst e78; have HC78 := Aside0.mk hC78; have HN78 := Aside0.mk hc78; have HB78 := Aside0.mk hb; clear ho ho' hb hg hat hC78 hc78 HB76 HO76) | (go_at_call 38; refine (lz_Decode.calls A75 c75 b A78 c78 ahead most pb da pe w78 (Kd.C_below HC75.out HB78.out) HN75.out HC78.out HN78.out HDF2.out).mono ?_; rintro e w80 ⟨v80, rfl, hR, hB⟩; have HR80 := Aside0.mk hR; have HB80 := Aside0.mk hB; clear hR hB))
        obtain ⟨Ad, cd, ed, hcd, hCd⟩ := Kd.R_reads HR80.out
        subst ed
        have HCD := Aside0.mk hCd
        have HCDN := Aside0.mk hcd
        clear hCd hcd HR80
        have HB80' := Aside0.mk (below_step (below_step (below_step (below_step HB36.out HBc.out) HB67.out) HB69.out) (below_step (below_step HB75.out HB78.out) HB80.out))
        have HSM := Aside0.mk (satchellaw03_same.calls (pb.length + 1) Ap cp pb Ad cd pb true w80 (Kd.C_below (Kd.C_below (Kd.C_below HCP.out HB75.out) HB78.out) HB80.out) HCPN.out HCD.out HCDN.out (same_f pb HPBL.out))
        by_cases hpe : pe = 0
        · have hpe1 : (pe == 0) = true := by rw [hpe]; rfl
          clear hpe
          go_wp2_with (go_at_call 37; refine HSM.out.mono ?_; rintro e w92 ⟨rfl, ⟨m92, rfl⟩⟩)
          go_meet
          case rel => exact ⟨pw_below_drewN HB80'.out _⟩
        · have hpe1 : (pe == 0) = false := by simp [hpe]
          clear hpe
          go_wp2_with (go_at_call 37; refine HSM.out.mono ?_; rintro e w92 ⟨rfl, ⟨m92, rfl⟩⟩)
          go_meet
          case rel => exact ⟨pw_below_drewN HB80'.out _⟩
    · have hEb : (D.2.2 == 0) = false := by simp [hE]
      clear hE
      go_wp2_with fail
      go_meet
      case rel => exact ⟨HB36.out⟩
  case rest =>
    have HBc := hcut
    clear hcut HX HXN HB36 HPOK HPM HPS HPB HBY HBYB HR1 HR3 HC1 HC3 HL1 HL3
    have hml : ∀ i, i < l.length → (l.getD i z44).f0.length ≤ 140737488355327 ∧ (l.getD i z44).f2 ≤ 9223372036854775807 := fun i hi => by
      have := HM2.out i hi
      omega
    obtain ⟨mb, hmb⟩ : ∃ mb, mb = (makeP l).1 := ⟨_, rfl⟩
    obtain ⟨mf, hmf⟩ : ∃ mf, mf = (makeP l).2 := ⟨_, rfl⟩
    have HMK := Aside0.mk (show mf = 0 → Byt mb ∧ mb.length ≤ 1099511627776 ∧ parse mb = (l, 0, 0) by
      rw [hmb, hmf]
      exact make_ok l (by have := HL2.out; omega) HBM.out)
    have HMF := Aside0.mk (show lz_Make.f (2 * l.length + 30000) l = some (mb, mf) by rw [lzMake_f l (by have := HL2.out; omega) hml, hmb, hmf])
    have HCF := Aside0.mk (copies_f l (by have := HL2.out; omega) (fun i hi => (hml i hi).1))
    have HSH := Aside0.mk (short_of l (fun i hi => (hml i hi).1))
    clear hml hmb hmf
    go_upto_if 102 with (first | (go_at_call 32; refine (satchellaw03_copies.calls (l.length + 1) A2 c2 l l wc (Kd.C_below HR2.out HBc.out) HC2.out HCF.out).mono ?_; rintro e w97 ⟨v97, rfl, hS, hB⟩; have HB97 := Aside0.mk hB; obtain ⟨A97, c97, e97, hc97, hC97⟩ := Kd.R_reads (Kd.S_R hS); subst e97; have HC97 := Aside0.mk hC97; have HN97 := Aside0.mk hc97; clear hS hB hc97 hC97) | (go_at_call 33; refine (lz_Make.calls (2 * l.length + 30000) A97 c97 l mb mf w97 HC97.out HN97.out HMF.out).mono ?_; rintro e w98 ⟨v98, rfl, hR, hB⟩; have HB98 := Aside0.mk hB; obtain ⟨A98, c98, e98, hc98, hC98⟩ := Kd.R_reads hR; subst e98; have HC98 := Aside0.mk hC98; have HN98 := Aside0.mk hc98; clear hR hB hc98 hC98))
    have HB1 := Aside0.mk (below_step (below_step HBc.out HB97.out) HB98.out)
    go_cut [] (fun (wc : World) => Aside0 (Below w.heap.size w wc))
    case first =>
      by_cases hF : mf = 0
      · obtain ⟨hby, hbl, hpp⟩ := HMK.out hF
        have hF1 : (mf == 0) = true := by rw [hF]; rfl
        have hcall := Parse_calls A98 c98 mb w98 (reads_of_C HC98.out) HN98.out hby (by omega)
        rw [hpp] at hcall
        have HPC := Aside0.mk hcall
        clear hcall hpp hby hbl hF
        go_upto_region 14 with (go_at_call 21; refine HPC.out.mono ?_; rintro e w105 ⟨v105, L105, rfl, hL, hS⟩; have HL105 := Aside0.mk hL; have HS105 := Aside0.mk hS; clear hL hS)
        obtain ⟨Az, cz, ez, hcz, hCz⟩ := HS105.out.seq (B := w98.heap.size) (v := v105) (L := L105) (fun r hr => hr)
        rw [HL105.out] at ez hcz hCz
        have HSQ := Aside0.mk (seqs_yes Az cz l A2 c2 w105 hCz hcz (Kd.C_below (Kd.C_below HR2.out HB1.out) HS105.out.B) HC2.out (by have := HL2.out; omega) HSH.out)
        have ez' : v105 = .slice Az l.length cz := ez
        subst ez'
        have HB2 := Aside0.mk (below_step HB1.out HS105.out.B)
        clear ez hcz hCz HPC HL105 HS105
        go_wp2_with (go_at_call 23; refine HSQ.out.mono ?_; rintro e w114 ⟨rfl, m114, rfl⟩)
        go_meet
        case rel => exact ⟨pw_below_drewN HB2.out _⟩
      · have hF1 : (mf == 0) = false := by simp [hF]
        clear hF
        go_wp2_with fail
        go_meet
        case rel => exact ⟨HB1.out⟩
    case rest =>
      have HBd := hcut
      clear hcut HBc HB1 HB97 HB98 HC97 HC98 HN97 HN98 HMK HMF HCF HSH HM2 HBM HL2 HR2 HC2
      have hmab : lz_Make.f (2 * [(⟨[97, 98], 0, 0⟩ : S44)].length + 30000) [⟨[97, 98], 0, 0⟩] = some ([32, 97, 98], 0) := by
        rw [lzMake_f _ (by decide) (fun i hi => by
          rcases i with _ | i
          · exact ⟨by decide, by decide⟩
          · simp at hi), make_ab]
      have hz := lz_Make.calls _ (some ⟨wc.heap.size + 1, 0, none⟩) 1 [(⟨[97, 98], 0, 0⟩ : S44)] [32, 97, 98] 0 _ (one_reads wc) (Nat.le_refl _) hmab
      rw [show [(⟨[97, 98], 0, 0⟩ : S44)].length = 1 from rfl] at hz
      have HZ := Aside0.mk hz
      clear hz
      clear hmab
      have kc : ∀ W : World, (convert 22 22 (.slice (some ⟨W.heap.size, 0, none⟩) 2 2)).run Try.prog (W.alloc (.cells #[.int .u8 97, .int .u8 98] 5)) = .ok (.slice (some ⟨W.heap.size, 0, none⟩) 2 2) (W.alloc (.cells #[.int .u8 97, .int .u8 98] 5 (2, 3))) := fun W => Lib.run_convert_bytes_const W 22 5 _ 2 2 Try.underlying22 Try.underlying5
      go_wp2_with (go_at_call 33; refine HZ.out.mono ?_; rintro e w122 ⟨v122, rfl, hR, hB⟩; have HB122 := Aside0.mk hB; obtain ⟨A122, c122, e122, _, _⟩ := Kd.R_reads hR; subst e122; clear hR hB)
      go_ret
      exact ⟨rfl, below_step (below_alloc (below_alloc HBd.out _) _) HB122.out⟩
end Go.Proofs.Ytnomebkdhjigjaa.W
