/- LzRound: the walk. Conditions: lists of at most 2^20 bytes. -/
import Derived.Test.YtnomebkdhjigjaaEi
import Derived.Test.YtnomebkdhjigjaaEg
import Derived.Test.YtnomebkdhjigjaaPw
import Derived.Test.YtnomebkdhjigjaaLg
import Derived.Test.YtnomebkdhjigjaaAc
import Derived.OwnWalk
namespace Go.Proofs.Ytnomebkdhjigjaa.W
open Go.RowKit Go.Proofs.Ytnomebkdhjigjaa.Z Go.Proofs.Ytnomebkdhjigjaa.MLzDecodes Go.Proofs.YtnomebkdhjigjaaW.PrintWords Go.Proofs.YtnomebkdhjigjaaW.PrintLast Go.Proofs.YtnomebkdhjigjaaW.PrintMore
set_option linter.unusedVariables false
set_option linter.unusedSimpArgs false
theorem own_reads2 {w : World} {B c : Nat} {A : Option Addr} {l : List Int} (h : w.ownsRow B 5 1 (.slice A l.length c) l.length (nums .u8 l)) : ReadsInt w .u8 A l.length l ∧ l.length ≤ c := by
  obtain ⟨A', c', e, hr, hc⟩ := Go.Proofs.Ytnomebkdhjigjaa.W.own_reads' h
  injection e with e1 e2 e3
  subst e1 e3
  exact ⟨hr, hc⟩
theorem bytM_wf {l : List Int} (h : ∀ x ∈ l, (Lit.int .u8 x).wf = true) : BytM l := fun x hx => by
  have h := h x hx
  simp only [Lit.wf, show IntKind.u8.min = 0 from rfl, show IntKind.u8.max = 255 from rfl, Bool.and_eq_true, decide_eq_true_eq] at h
  omega
set_option maxHeartbeats 8000000 in
set_option maxRecDepth 100000 in
theorem round_walk (A A2 : Option Addr) (c c2 : Nat) (plain ahead : List Int) (w : World) (hr : ReadsInt w .u8 A plain.length plain) (hc : plain.length ≤ c) (hb : BytM plain) (hl : plain.length ≤ 1048576)
    (hr2 : ReadsInt w .u8 A2 ahead.length ahead) (hc2 : ahead.length ≤ c2) (hb2 : BytM ahead) (hl2 : ahead.length ≤ 1048576) (hw1 : WfB plain) (hw2 : WfB ahead) :
    Calls Try.prog 13 #[.slice A plain.length c, .slice A2 ahead.length c2] w fun e w' => e = .returned (.bool true) ∧ Below w.heap.size w w' := by
  have HR := Aside0.mk hr
  have HR2 := Aside0.mk hr2
  have HER := Aside0.mk (enc_round plain ahead (by omega) hb hb2)
  have hen : encode plain ahead = ((encA plain ahead).flatMap putP, 0) := if_neg (by omega)
  have HEN := Aside0.mk (fun (A : Option Addr) (A2 : Option Addr) (c c2 : Nat) (W : World) (h1 : ReadsInt W .u8 A plain.length plain) (h2 : plain.length ≤ c) (h3 : ReadsInt W .u8 A2 ahead.length ahead) (h4 : ahead.length ≤ c2) => Encode_calls A A2 c c2 plain ahead W h1 h2 hw1 (by omega) h3 h4 hw2 (by omega))
  rw [hen] at HEN
  obtain ⟨T, hT⟩ : ∃ T, T = encA plain ahead := ⟨_, rfl⟩
  obtain ⟨b, hbb⟩ : ∃ b, b = T.flatMap putP := ⟨_, rfl⟩
  rw [← hT] at HER HEN
  rw [← hbb] at HER HEN
  obtain ⟨LL, hLL⟩ : ∃ LL, LL = plain ++ marks 32 := ⟨_, rfl⟩
  obtain ⟨L2, hL2⟩ : ∃ L2, L2 = ahead ++ marks 32 := ⟨_, rfl⟩
  have HLC := Aside0.mk (lent_calls A c plain w hr (by omega))
  have HLC2 := Aside0.mk (fun (W : World) (h : ReadsInt W .u8 A2 ahead.length ahead) => lent_calls A2 c2 ahead W h (by omega))
  rw [← hLL] at HLC
  rw [← hL2] at HLC2
  have HK := Aside0.mk (kept_f plain (by omega))
  have HK2 := Aside0.mk (kept_f ahead (by omega))
  rw [← hLL] at HK
  rw [← hL2] at HK2
  have HLL := Aside0.mk hLL
  have HL2 := Aside0.mk hL2
  have HLb := Aside0.mk (show plain.length ≤ LL.length by rw [hLL, List.length_append]; omega)
  have HLb2 := Aside0.mk (show ahead.length ≤ L2.length by rw [hL2, List.length_append]; omega)
  have HTN := Aside0.mk (show T.length ≤ 1099511627776 by
    have h1 := (parse_bound b).2
    rw [HER.out.1] at h1
    have h2 : T.length ≤ b.length + 1 := h1
    have h3 := HER.out.2.2.1
    omega)
  have HT := Aside0.mk hT
  have HBB := Aside0.mk hbb
  clear hLL hL2 hT hbb hr hr2 hw1 hw2 hb hb2 hen
  go_enter Try.func13, Try.ntmps13
  go_upto_region 2 with (go_at_call 20; refine HLC.out.mono ?_; rintro e w1 ⟨g1, cp1, rfl, hg, hcp, ho1, hb1⟩; have HO1 := Aside0.mk ho1; have HB1 := Aside0.mk hb1; have HCP := Aside0.mk hcp; have HS1 := Aside0.mk ((Sep.nil w).push hb1 (Res.row w.heap.size 5 1 LL.length (.slice (some ⟨g1, 0, none⟩) LL.length cp1) (nums .u8 LL)) ho1 (fun i hi => (own_ge ho1 i hi).1)); clear ho1 hb1 hg hcp)
  clear HLC
  have HLC3 := Aside0.mk (HLC2.out w1 (HR2.out.below HB1.out))
  go_upto_region 3 with (go_at_call 20; refine HLC3.out.mono ?_; rintro e w2 ⟨g2, cp2, rfl, hg, hcp, ho1, hb1⟩; have HO2 := Aside0.mk ho1; have HB2 := Aside0.mk hb1; have HCP2 := Aside0.mk hcp; have HS2 := Aside0.mk (HS1.out.join ((Sep.nil w1).push hb1 (Res.row w1.heap.size 5 1 L2.length (.slice (some ⟨g2, 0, none⟩) L2.length cp2) (nums .u8 L2)) ho1 (fun i hi => (own_ge ho1 i hi).1))); clear ho1 hb1 hg hcp)
  clear HLC3 HLC2 HS1
  have HE1 := Aside0.mk (HEN.out _ _ cp1 cp2 w2 ((lent_reads HLL.out HO1.out).1.below HB2.out) (Nat.le_trans HLb.out HCP.out) (lent_reads HL2.out HO2.out).1 (Nat.le_trans HLb2.out HCP2.out))
  go_upto_region 4 with (go_at_call 28; refine HE1.out.mono ?_; rintro e w3 ⟨v3, rfl, ho1, hb1⟩; obtain ⟨A3, c3, e3⟩ := own_slice ho1; subst e3; have HO3 := Aside0.mk ho1; have HB3 := Aside0.mk hb1; have HS3 := Aside0.mk (HS2.out.join ((Sep.nil w2).push hb1 (Res.row w2.heap.size 5 1 b.length (.slice A3 b.length c3) (nums .u8 b)) ho1 (fun i hi => (own_ge ho1 i hi).1))); clear ho1 hb1)
  clear HE1 HS2
  have hsm : ¬ (plain.length : Int) > 4194304 := by omega
  have HPC := Aside0.mk (refParse_calls A3 c3 b w3 (W.own_reads2 HO3.out).1 (W.own_reads2 HO3.out).2 HER.out.2.2.2.2.2.1 (by have := HER.out.2.2.1; omega))
  rw [HER.out.1] at HPC
  go_upto_region 7 with (go_at_call 22; refine HPC.out.mono ?_; rintro e w4 ⟨v4, L4, rfl, hL4, hS4⟩; have HL4 := Aside0.mk hL4; have HS4 := Aside0.mk (HS3.out.join hS4); have HB4 := Aside0.mk hS4.B; clear hL4 hS4)
  clear HPC HS3
  obtain ⟨A4, c4, e4, hc4, hC4⟩ := HS4.out.seq (B := w3.heap.size) (v := v4) (L := L4) (fun r hr => List.mem_append_left _ hr)
  rw [HL4.out] at e4 hc4 hC4
  subst e4
  have hLr := (lent_reads HLL.out (show w4.ownsRow w.heap.size 5 1 (.slice (some ⟨g1, 0, none⟩) LL.length cp1) LL.length (nums .u8 LL) from HS4.out.h _ (List.mem_append_right _ (List.mem_append_right _ (List.mem_append_right _ List.mem_cons_self))))).2
  have hLr2 := (lent_reads HL2.out (show w4.ownsRow w1.heap.size 5 1 (.slice (some ⟨g2, 0, none⟩) L2.length cp2) L2.length (nums .u8 L2) from HS4.out.h _ (List.mem_append_right _ (List.mem_append_right _ (List.mem_append_left _ List.mem_cons_self))))).2
  have HENDS := Aside0.mk (fun (W : World) (h : Below w4.heap.size w4 W) => satchelref03_Ends.calls A4 c4 T true W (Kd.C_below hC4 h) hc4 (ends_f T HER.out.2.1 HTN.out HER.out.2.2.2.2.2.2.2))
  have HKE := Aside0.mk (fun (W : World) (h : Below w4.heap.size w4 W) => satchellaw03_kept.calls (plain.length + 33) (some ⟨g1, 0, none⟩) cp1 LL A c plain true W (Kd.C_of_reads (enc := Value.int .u8) (d := (0 : Int)) (h1 := fun _ => rfl) (hLr.below h)) HCP.out (Kd.C_of_reads (enc := Value.int .u8) (d := (0 : Int)) (h1 := fun _ => rfl) ((HR.out.below HS4.out.B).below h)) hc HK.out)
  have HKE2 := Aside0.mk (fun (W : World) (h : Below w4.heap.size w4 W) => satchellaw03_kept.calls (ahead.length + 33) (some ⟨g2, 0, none⟩) cp2 L2 A2 c2 ahead true W (Kd.C_of_reads (enc := Value.int .u8) (d := (0 : Int)) (h1 := fun _ => rfl) (hLr2.below h)) HCP2.out (Kd.C_of_reads (enc := Value.int .u8) (d := (0 : Int)) (h1 := fun _ => rfl) ((HR2.out.below HS4.out.B).below h)) hc2 HK2.out)
  have HBZ := Aside0.mk (show ∃ z : Int, lz_Bound.f (plain.length : Int) = some z ∧ satchelref03_Bound.f (plain.length : Int) = some z ∧ (b.length : Int) ≤ z by
    refine ⟨(plain.length : Int) + (plain.length : Int) / 255 + 16, ?_, ?_, by have := HER.out.2.2.1; omega⟩
    all_goals
      first | unfold lz_Bound.f | unfold satchelref03_Bound.f
      rw [if_neg (by omega), if_neg (by omega), Int.tdiv_eq_ediv_of_nonneg (by omega), IntWalk.wrap64_in ((plain.length : Int) / 255) (by omega), IntWalk.wrap64_in ((plain.length : Int) + (plain.length : Int) / 255) (by omega), IntWalk.wrap64_in _ (by omega)])
  obtain ⟨z, hz1, hz2, hz3⟩ := HBZ.out
  have HZ1 := Aside0.mk (fun W => lz_Bound.calls (plain.length : Int) z W hz1)
  have HZ2 := Aside0.mk (fun W => satchelref03_Bound.calls (plain.length : Int) z W hz2)
  have HZ3 := HZ2
  have hz4 : ¬ (b.length : Int) > z := by omega
  clear hz1 hz2 hz3 HBZ hC4 hLr hLr2 hc4
  go_upto_region 9 with (first | (go_at_call 44; (with_reducible refine (HENDS.out _ (by repeat (first | (with_reducible first | exact Below.refl _ _ | apply pw_below_drewN | apply below_drew1)))).mono ?_); rintro e w5 ⟨rfl, ⟨m5, rfl⟩⟩) | (go_at_call 27; (with_reducible refine (HZ2.out _).mono ?_); rintro e w5 ⟨rfl, ⟨m6, rfl⟩⟩; clear HZ2) | (go_at_call 27; (with_reducible refine (HZ3.out _).mono ?_); rintro e w5 ⟨rfl, ⟨m10, rfl⟩⟩) | (go_at_call 26; (with_reducible refine (HZ1.out _).mono ?_); rintro e w5 ⟨rfl, ⟨m7, rfl⟩⟩) | (go_at_call 24; (with_reducible refine (HKE.out _ (by repeat (first | (with_reducible first | exact Below.refl _ _ | apply pw_below_drewN | apply below_drew1)))).mono ?_); rintro e w5 ⟨rfl, ⟨m8, rfl⟩⟩) | (go_at_call 24; (with_reducible refine (HKE2.out _ (by repeat (first | (with_reducible first | exact Below.refl _ _ | apply pw_below_drewN | apply below_drew1)))).mono ?_); rintro e w5 ⟨rfl, ⟨m9, rfl⟩⟩))
  have HS5 := Aside0.mk (HS4.out.drewN (m5 + m6 + m7 + m10 + m8 + m9))
  clear HENDS HKE HKE2 HZ1 HZ3
  generalize w4.drewN (m5 + m6 + m7 + m10 + m8 + m9) = w5 at HS5 ⊢
  have hOb := show w5.ownsRow w2.heap.size 5 1 (.slice A3 b.length c3) b.length (nums .u8 b) from HS5.out.h _ (List.mem_append_right _ (List.mem_append_left _ List.mem_cons_self))
  have hRb := W.own_reads2 hOb
  have HCb := Aside0.mk (fun (W : World) (h : Below w5.heap.size w5 W) => Kd.C_below (Kd.C_of_reads (enc := Value.int .u8) (d := (0 : Int)) (h1 := fun _ => rfl) hRb.1) h)
  have HNb := Aside0.mk hRb.2
  have HCp := Aside0.mk (fun (W : World) (h : Below w5.heap.size w5 W) => Kd.C_below (Kd.C_of_reads (enc := Value.int .u8) (d := (0 : Int)) (h1 := fun _ => rfl) (HR.out.below HS5.out.B)) h)
  have HCh := Aside0.mk (fun (W : World) (h : Below w5.heap.size w5 W) => Kd.C_below (Kd.C_of_reads (enc := Value.int .u8) (d := (0 : Int)) (h1 := fun _ => rfl) (HR2.out.below HS5.out.B)) h)
  have hLa := lent_reads HLL.out (show w5.ownsRow w.heap.size 5 1 (.slice (some ⟨g1, 0, none⟩) LL.length cp1) LL.length (nums .u8 LL) from HS5.out.h _ (List.mem_append_right _ (List.mem_append_right _ (List.mem_append_right _ List.mem_cons_self))))
  have hLb := lent_reads HL2.out (show w5.ownsRow w1.heap.size 5 1 (.slice (some ⟨g2, 0, none⟩) L2.length cp2) L2.length (nums .u8 L2) from HS5.out.h _ (List.mem_append_right _ (List.mem_append_right _ (List.mem_append_left _ List.mem_cons_self))))
  have HCa := Aside0.mk (fun (W : World) (h : Below w5.heap.size w5 W) => Kd.C_below (Kd.C_of_reads (enc := Value.int .u8) (d := (0 : Int)) (h1 := fun _ => rfl) hLb.1) h)
  have HRa := Aside0.mk (fun (W : World) (h : Below w5.heap.size w5 W) => And.intro (hLa.1.below h) (hLb.1.below h))
  have HNa := Aside0.mk (Nat.le_trans HLb2.out HCP2.out)
  have HNp := Aside0.mk (Nat.le_trans HLb.out HCP.out)
  have HLB := Aside0.mk (show b.length ≤ 2097152 by have := HER.out.2.2.1; omega)
  have HBYT := Aside0.mk HER.out.2.2.2.2.2.1
  obtain ⟨kd, hkd⟩ := ref_decode b ahead (plain.length : Int) HBYT.out (by have := HLB.out; omega) (by omega)
  obtain ⟨da, hda⟩ : ∃ da, da = (decode b ahead (plain.length : Int)).2.1 := ⟨_, rfl⟩
  have hdd : decode b ahead (plain.length : Int) = (plain, da, 0) := by rw [hda]; exact Prod.ext HER.out.2.2.2.1 (Prod.ext rfl HER.out.2.2.2.2.1)
  rw [hdd] at hkd
  have hdf : lz_Decode.f b ahead (plain.length : Int) = some (plain, da, 0) := by
    show decodeF b ahead (plain.length : Int) = _
    unfold decodeF
    rw [if_pos ⟨by have := HLB.out; omega, by omega, bytesB_of HBYT.out⟩, hdd]
  have HDF := Aside0.mk hdf
  have HD5 := Aside0.mk (satchelref03_Decode.calls kd A3 c3 b A2 c2 ahead (plain.length : Int) plain da 0 w5 (HCb.out _ (Below.refl _ _)) HNb.out (HCh.out _ (Below.refl _ _)) hc2 hkd)
  clear hkd hda hdd hdf hOb hRb hLa hLb
  go_upto_region 10 with (go_at_call 39; refine HD5.out.mono ?_; rintro e w6 ⟨v6, rfl, hQ, hB⟩; obtain ⟨A6, c6, e6, _⟩ := Kd.Q_slice hQ; subst e6; have HC6 := Aside0.mk (Kd.Q_reads' hQ).2.2; have HN6 := Aside0.mk (Kd.Q_reads' hQ).2.1; have HB6 := Aside0.mk hB; clear hQ hB)
  clear HD5
  go_upto_region 11 with (first | ((with_reducible refine gate_dst (N := 105) rfl ?_); (try (refine gate_guard (by rfl) ?_; dsimp only)); refine Kd.R_lit (Kd.int .u8) _ 5 ?hg (N := 105) ?hd (xs := ([] : List Int)) (inner := []) (ok := fun _ => True) (okp := fun _ => True) ?hr ?hp (fun _ hk => hk) trivial (Below.refl _ _) (Nat.le_refl _) (by simp) ?_; (case hd => rfl); (case hg => rfl); (case hr => first | (go_simp; done) | (go_simp; rfl)); (case hp => exact (Reps.none _ _)); intro v105 w105 ho hb hg_ hnew_; clear hg_ hnew_; have HO105 := Aside0.mk ho; have HB105 := Aside0.mk hb; clear ho hb) | ((with_reducible refine gate_builtin (b := .append) (xs := #[.tmp 105, .tmp 106]) rfl ?_); (try (refine gate_guard (by rfl) ?_; dsimp only)); at_builtin; refine Kd.R_append_rows (Kd.int .u8) (w0 := w6) w6.heap.size rfl (.tmp 105) (.tmp 106) 22 5 (.int .u8 0) 1 rfl Try.underlying22 info5 rfl (by decide) (by omega) v105 [] b _ _ _ (fun _ => True) (fun _ => False) rfl rfl ?aO ?aR (fun _ _ h => h) (fun _ h => h.elim) ?aF ?aB ?aS ?aL ?_; (case aR => exact Kd.C_below (HCb.out _ HB6.out) HB105.out); (case aB => exact HB105.out); (case aF => exact (fun _ _ => trivial)); (case aO => exact HO105.out); (case aS => exact HB105.out.size); (case aL => exact (by have := HLB.out; simp only [List.length_nil]; omega)); intro v107 w107 ho hb hg hat; have ho' : Kd.R (Kd.int .u8) 5 w107 w6.heap.size (fun _ => True) v107 b := ho; obtain ⟨A107, c107, e107, hc107, hC107⟩ := Kd.R_reads ho'; subst e107; have HC107 := Aside0.mk hC107; have HN107 := Aside0.mk hc107; have HB107 := Aside0.mk hb; clear ho ho' hb hg hat hC107 hc107 HB105 HO105) | (go_at_call 38; refine (lz_Decode.calls A107 c107 b (some ⟨g2, 0, none⟩) cp2 ahead (plain.length : Int) plain da 0 w107 HC107.out HN107.out (HCa.out _ (below_step HB6.out HB107.out)) HNa.out HDF.out).mono ?_; rintro e w7 ⟨v7, rfl, hR, hB⟩; obtain ⟨A7, c7, e7, hc7, hC7⟩ := Kd.R_reads hR; subst e7; have HC7 := Aside0.mk hC7; have HN7 := Aside0.mk hc7; have HB7in := Aside0.mk (below_step HB107.out hB); have HB7 := Aside0.mk (below_step (below_step HB6.out HB107.out) hB); clear hR hB hc7 hC7))
  have HX6 := Aside0.mk (fun (W : World) (h : Below w7.heap.size w7 W) => satchellaw03_same.calls (plain.length + 1) A6 c6 plain A c plain true W (Kd.C_below HC6.out ((below_step (HB7in.out) h))) HN6.out (HCp.out _ (below_step HB7.out h)) hc (same_f plain (by omega)))
  have HX7 := Aside0.mk (fun (W : World) (h : Below w7.heap.size w7 W) => satchellaw03_same.calls (plain.length + 1) A7 c7 plain A c plain true W (Kd.C_below HC7.out h) HN7.out (HCp.out _ (below_step HB7.out h)) hc (same_f plain (by omega)))
  go_upto_region 13 with (first | (go_at_call 37; (with_reducible refine (HX6.out _ (by repeat (first | (with_reducible first | exact Below.refl _ _ | apply pw_below_drewN | apply below_drew1)))).mono ?_); rintro e wq ⟨rfl, ⟨m11, rfl⟩⟩) | (go_at_call 37; (with_reducible refine (HX7.out _ (by repeat (first | (with_reducible first | exact Below.refl _ _ | apply pw_below_drewN | apply below_drew1)))).mono ?_); rintro e wq ⟨rfl, ⟨m12, rfl⟩⟩))
  have HB8 := Aside0.mk (pw_below_drewN HB7.out (m11 + m12))
  clear HX6 HX7 HC6 HC7 HN6 HN7 HB6 HB107 HC107 HN107 HDF HB7in
  generalize w7.drewN (m11 + m12) = w8 at HB8 ⊢
  have HS8 := Aside0.mk ((HS5.out.keep HB8.out).sub (List.sublist_append_right _ _))
  have HE1 := Aside0.mk (HEN.out _ _ cp1 cp2 w8 (HRa.out _ HB8.out).1 HNp.out (HRa.out _ HB8.out).2 HNa.out)
  go_upto_region 14 with (go_at_call 28; refine HE1.out.mono ?_; rintro e w9 ⟨v9, rfl, ho1, hb1⟩; obtain ⟨A9, c9, e9⟩ := own_slice ho1; subst e9; have HB9 := Aside0.mk hb1; have HS9 := Aside0.mk (HS8.out.push hb1 (Res.row w8.heap.size 5 1 b.length (.slice A9 b.length c9) (nums .u8 b)) ho1 (fun i hi => (own_ge ho1 i hi).1)); clear ho1 hb1)
  clear HE1
  go_upto_region 15 with (first | ((with_reducible refine gate_dst (N := 139) rfl ?_); (try (refine gate_guard (by rfl) ?_; dsimp only)); refine Kd.R_lit (Kd.int .u8) _ 5 ?hg (N := 139) ?hd (xs := ([] : List Int)) (inner := []) (ok := fun _ => True) (okp := fun _ => True) ?hr ?hp (fun _ hk => hk) trivial (Below.refl _ _) (Nat.le_refl _) (by simp) ?_; (case hd => rfl); (case hg => rfl); (case hr => first | (go_simp; done) | (go_simp; rfl)); (case hp => exact (Reps.none _ _)); intro v139 w139 ho hb hg_ hnew_; clear hg_ hnew_; have HO139 := Aside0.mk ho; have HB139 := Aside0.mk hb; clear ho hb) | ((with_reducible refine gate_builtin (b := .append) (xs := #[.tmp 139, .tmp 140]) rfl ?_); (try (refine gate_guard (by rfl) ?_; dsimp only)); at_builtin; refine Kd.R_append_rows (Kd.int .u8) (w0 := w9) w9.heap.size rfl (.tmp 139) (.tmp 140) 22 5 (.int .u8 0) 1 rfl Try.underlying22 info5 rfl (by decide) (by omega) v139 [] b _ _ _ (fun _ => True) (fun _ => False) rfl rfl ?aO ?aR (fun _ _ h => h) (fun _ h => h.elim) ?aF ?aB ?aS ?aL ?_; (case aR => exact Kd.C_below (HCb.out _ (below_step HB8.out HB9.out)) HB139.out); (case aB => exact HB139.out); (case aF => exact (fun _ _ => trivial)); (case aO => exact HO139.out); (case aS => exact HB139.out.size); (case aL => exact (by have := HLB.out; simp only [List.length_nil]; omega)); intro v141 w141 ho hb hg hat; have ho' : Kd.R (Kd.int .u8) 5 w141 w9.heap.size (fun _ => True) v141 b := ho; have hob' : Kd.R (Kd.int .u8) 5 w141 w9.heap.size (fun k => w9.heap.size ≤ k) v141 b := ⟨fun k hk => Kd.R_base ho' k hk, ho'.2⟩; obtain ⟨A141, c141, e141, hc141, hC141⟩ := Kd.R_reads ho'; subst e141; have HR141 := Aside0.mk hob'; have HC141 := Aside0.mk hC141; have HN141 := Aside0.mk hc141; have HB141 := Aside0.mk hb; clear ho ho' hob' hb hg hat hC141 hc141 HB139 HO139))
  have HS10 := Aside0.mk ((HS9.out.keep HB141.out).perm (List.Perm.swap _ _ _))
  have hob := show w141.ownsRow w2.heap.size 5 1 (.slice A3 b.length c3) b.length (nums .u8 b) from HS10.out.h _ List.mem_cons_self
  have hne : ∀ k, w9.heap.size ≤ k → ¬ some k = (.slice A3 b.length c3 : Value).ownBlock := fun k hk he => by
    have h := (own_ge (show w8.ownsRow w2.heap.size 5 1 (.slice A3 b.length c3) b.length (nums .u8 b) from HS8.out.h _ List.mem_cons_self) k he).2
    have := HB9.out.size
    omega
  have HF := Aside0.mk (satchellaw03_full.calls (b.length + 92) (fun k => some k = (.slice A3 b.length c3 : Value).ownBlock) (.slice A3 b.length c3) b 6 w w141 HS10.out.B (Kd.R_of_own (own_lower hob (Nat.le_trans HB1.out.size HB2.out.size)) (fun k hk => hk.symm)) (full_f b 6 (by have := HLB.out; omega)))
  have HSp := Aside0.mk (fun (w' : World) (h1 : Below w.heap.size w w') (h2 : Kept w141 w' (fun k => some k = (.slice A3 b.length c3 : Value).ownBlock)) => HS10.out.spend (fr_kept h2 HS10.out.B h1))
  have HRp := Aside0.mk (fun (w' : World) (h2 : Kept w141 w' (fun k => some k = (.slice A3 b.length c3 : Value).ownBlock)) => Kd.R_reads' (Kd.R_keptB HR141.out h2 hne))
  clear hob hne HS10 HS9 HR141 HS8 HCb HNb HCa HRa
  go_upto_region 16 with (go_at_call 25; refine HF.out.mono ?_; rintro e w10 ⟨rfl, hb8, hk8⟩; have HS11 := Aside0.mk (HSp.out w10 hb8 hk8); have HR11 := Aside0.mk (HRp.out w10 hk8); clear hb8 hk8)
  clear HF HSp HRp
  have h9 := W.own_reads2 (show w10.ownsRow w8.heap.size 5 1 (.slice A9 b.length c9) b.length (nums .u8 b) from HS11.out.h _ List.mem_cons_self)
  have hLa := (lent_reads HLL.out (show w10.ownsRow w.heap.size 5 1 (.slice (some ⟨g1, 0, none⟩) LL.length cp1) LL.length (nums .u8 LL) from HS11.out.h _ (List.mem_cons_of_mem _ (List.mem_cons_of_mem _ List.mem_cons_self)))).2
  have hLb := (lent_reads HL2.out (show w10.ownsRow w1.heap.size 5 1 (.slice (some ⟨g2, 0, none⟩) L2.length cp2) L2.length (nums .u8 L2) from HS11.out.h _ (List.mem_cons_of_mem _ List.mem_cons_self))).2
  have HX := Aside0.mk (satchellaw03_same.calls (b.length + 1) A9 c9 b A141 c141 b true w10 (Kd.C_of_reads (enc := Value.int .u8) (d := (0 : Int)) (h1 := fun _ => rfl) h9.1) h9.2 HR11.out.2.2 HR11.out.2.1 (same_f b (by have := HLB.out; omega)))
  have HKE := Aside0.mk (fun (W : World) (h : Below w10.heap.size w10 W) => satchellaw03_kept.calls (plain.length + 33) (some ⟨g1, 0, none⟩) cp1 LL A c plain true W (Kd.C_of_reads (enc := Value.int .u8) (d := (0 : Int)) (h1 := fun _ => rfl) (hLa.below h)) HCP.out (Kd.C_of_reads (enc := Value.int .u8) (d := (0 : Int)) (h1 := fun _ => rfl) ((HR.out.below HS11.out.B).below h)) hc HK.out)
  have HKE2 := Aside0.mk (fun (W : World) (h : Below w10.heap.size w10 W) => satchellaw03_kept.calls (ahead.length + 33) (some ⟨g2, 0, none⟩) cp2 L2 A2 c2 ahead true W (Kd.C_of_reads (enc := Value.int .u8) (d := (0 : Int)) (h1 := fun _ => rfl) (hLb.below h)) HCP2.out (Kd.C_of_reads (enc := Value.int .u8) (d := (0 : Int)) (h1 := fun _ => rfl) ((HR2.out.below HS11.out.B).below h)) hc2 HK2.out)
  have HBe := Aside0.mk HS11.out.B
  clear h9 hLa hLb HR11 HS11
  go_wp2_with (first | (go_at_call 37; (with_reducible refine HX.out.mono ?_); rintro e wq ⟨rfl, ⟨m13, rfl⟩⟩) | (go_at_call 24; (with_reducible refine (HKE.out _ (by repeat (first | (with_reducible first | exact Below.refl _ _ | apply pw_below_drewN | apply below_drew1)))).mono ?_); rintro e wq ⟨rfl, ⟨m14, rfl⟩⟩) | (go_at_call 24; (with_reducible refine (HKE2.out _ (by repeat (first | (with_reducible first | exact Below.refl _ _ | apply pw_below_drewN | apply below_drew1)))).mono ?_); rintro e wq ⟨rfl, ⟨m15, rfl⟩⟩))
  go_ret
  exact ⟨rfl, by repeat (first | (with_reducible first | exact HBe.out | apply pw_below_drewN | apply below_drew1))⟩
end Go.Proofs.Ytnomebkdhjigjaa.W
