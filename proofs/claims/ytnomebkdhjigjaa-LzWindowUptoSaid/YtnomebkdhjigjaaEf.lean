/- Contract of lz.Encode: its block and the error, as a plain function. Conditions: bytes are bytes, fewer than 2^40. -/
import Derived.Test.YtnomebkdhjigjaaAe
import Derived.Deep.QuietTactic
import Derived.BigQuiet
import Derived.OwnWalk
namespace Go.Proofs.Ytnomebkdhjigjaa.W
open Go.RowKit Go.Proofs.Ytnomebkdhjigjaa.Z Go.Maps Go.Proofs.YtnomebkdhjigjaaW.PrintWords Go.Proofs.YtnomebkdhjigjaaW.PrintLast Go.Proofs.YtnomebkdhjigjaaW.PrintMore
set_option linter.unusedVariables false
set_option linter.unusedSimpArgs false
set_option maxHeartbeats 8000000 in
set_option maxRecDepth 100000 in
theorem Encode_calls (A A2 : Option Addr) (c c2 : Nat) (plain ahead : List Int) (w : World) (hr : ReadsInt w .u8 A plain.length plain) (hc : plain.length ≤ c) (hb : WfB plain) (hl : plain.length ≤ 1099511627776) (hr2 : ReadsInt w .u8 A2 ahead.length ahead) (hc2 : ahead.length ≤ c2) (hb2 : WfB ahead) (hl2 : ahead.length ≤ 1099511627776) :
    Calls Try.prog 28 #[.slice A plain.length c, .slice A2 ahead.length c2] w fun e w' => ∃ v, e = .returned (.tuple #[v, .int .i64 (encode plain ahead).2]) ∧
      w'.ownsRow w.heap.size 5 1 v (encode plain ahead).1.length (nums .u8 (encode plain ahead).1) ∧ Below w.heap.size w w' := by
  by_cases hm : plain.length > 4194304
  · have e1 : encode plain ahead = ([], 2) := if_pos hm
    rw [e1]
    have hm2 : (plain.length : Int) > 4194304 := by omega
    clear hr hr2
    go_enter Try.func28, Try.ntmps28
    go_wp2
    go_ret2
    exact ⟨_, rfl, own_nil _ _ _ _, Below.refl _ _⟩
  · have e1 : encode plain ahead = ((encA plain ahead).flatMap putP, 0) := if_neg hm
    have hm2 : ¬ (plain.length : Int) > 4194304 := by omega
    rw [e1]
    clear e1
    obtain ⟨TT, hTT⟩ : ∃ TT, TT = (encA plain ahead).flatMap putP := ⟨_, rfl⟩
    rw [← hTT]
    have HTT := Aside0.mk hTT
    clear hTT
    obtain ⟨wd, hwd⟩ : ∃ wd, wd = window ahead := ⟨_, rfl⟩
    have hwl := (window_len ahead).1
    rw [← hwd] at hwl
    have HWD := Aside0.mk hwd
    have hwb : WfB wd := fun x hx => by
      rw [hwd] at hx
      unfold window at hx
      split at hx
      · exact hb2 x (List.mem_of_mem_drop hx)
      · exact hb2 x hx
    have HR := Aside0.mk hr
    have HR2 := Aside0.mk hr2
    have HWF := Aside0.mk (And.intro hb hwb)
    have HLEN := Aside0.mk (And.intro hl hl2)
    clear hr hr2 hb hb2 hwb hwd
    go_enter Try.func28, Try.ntmps28
    go_upto_if 22 with fail
    go_cut [1] (fun v1 wc => w = wc ∧ ∃ A3 c3, v1 = .slice A3 wd.length c3 ∧ wd.length ≤ c3 ∧ Aside0 (ReadsInt w .u8 A3 wd.length wd))
    case first =>
      by_cases h : 65536 ≤ ahead.length
      · obtain ⟨i05, hi05, _, hsz5, _⟩ := info_parts info5
        obtain ⟨A1, hcut, hA1⟩ := print_cut (P := Try.prog) 22 5 .i64 Try.underlying22 hi05 hsz5 A2 ahead.length c2 (ahead.length - 65535) (by omega)
        have hr1 := hA1 w .u8 ahead hc2 HR2.out
        have ew : wd = ahead.drop (ahead.length - 65535) := by rw [HWD.out]; exact if_pos h
        have eL : ahead.length - (ahead.length - 65535) = wd.length := by rw [ew, List.length_drop]
        rw [← ew, eL] at hr1
        rw [eL] at hcut
        obtain ⟨q, hq⟩ : ∃ q : Nat, q = ahead.length - 65535 := ⟨_, rfl⟩
        rw [← hq] at hcut
        have e1 : (ahead.length : Int) - 65536 + 1 = (q : Int) := by omega
        have hge : (ahead.length : Int) ≥ 65536 := by omega
        have hcut' : ∀ W : World, (Instr.slice 22 (.slice A2 ahead.length c2) (some (.int .i64 (q : Int))) none none).run Try.prog W = .ok (.slice A1 wd.length (c2 - q)) W := hcut
        have hcq : wd.length ≤ c2 - q := by omega
        have hgb : decide ((65536 : Int) ≤ (ahead.length : Int)) = true := decide_eq_true hge
        have HR1 := Aside0.mk hr1
        clear hA1 hi05 hsz5 hr1 ew eL hq hcut h
        rw [hgb]
        clear hgb
        go_wp2_with fail
        go_meet
        case rel => exact ⟨rfl, A1, c2 - q, rfl, hcq, HR1⟩
      · have hge : ¬ (ahead.length : Int) ≥ 65536 := by omega
        have ew : wd = ahead := by rw [HWD.out]; exact if_neg h
        have HEW := Aside0.mk ew
        have hgb : decide ((65536 : Int) ≤ (ahead.length : Int)) = false := decide_eq_false hge
        clear ew h
        rw [hgb]
        clear hgb
        go_wp2_with fail
        go_meet
        case rel => exact ⟨rfl, A2, c2, by rw [HEW.out], by rw [HEW.out]; exact hc2, ⟨by rw [HEW.out]; exact HR2.out⟩⟩
    case rest =>
      obtain ⟨hw1, A3, c3, rfl, hc3, HR3⟩ := hcut
      subst hw1
      clear HR2
      have HG := Aside0.mk hc3
      clear hc2 hc3
      obtain ⟨all, hall⟩ : ∃ all, all = wd ++ plain := ⟨_, rfl⟩
      have hal : all.length = wd.length + plain.length := by rw [hall, List.length_append]
      have HALL := Aside0.mk hall
      have HAL := Aside0.mk hal
      clear hal
      have hq1 : (w.alloc (.cells #[.slice A3 wd.length c3, .slice A plain.length c] 22)).cell? ⟨w.heap.size, 0, none⟩ = some (.slice A3 wd.length c3) := cell_of_row _ _ 0 _ 22 (0, 0) (heap_alloc_new w _)
      have hq2 : (w.alloc (.cells #[.slice A3 wd.length c3, .slice A plain.length c] 22)).cell? ⟨w.heap.size, 1, none⟩ = some (.slice A plain.length c) := cell_of_row _ _ 1 _ 22 (0, 0) (heap_alloc_new w _)
      have hba := below_alloc (Below.refl w.heap.size w) (.cells #[.slice A3 wd.length c3, .slice A plain.length c] 22)
      have hcc := Concat_calls w.heap.size 2 A3 A c3 c wd plain _ hq1 hq2 (HR3.out.below hba) (HR.out.below hba) (by omega) hl
      rw [← hall] at hcc
      have HCC := Aside0.mk hcc
      have HBA := Aside0.mk hba
      clear hcc hba hq1 hq2 hall
      have hmm := @run_makeMap Try.prog
      go_upto_region 8 with (go_at_call 57; refine HCC.out.mono ?_; rintro e w1 ⟨va, rfl, ho1, hb1⟩; obtain ⟨Aa, ca, ea⟩ := own_slice ho1; subst ea; have HO1 := Aside0.mk ho1; have HB1 := Aside0.mk hb1; clear ho1 hb1)
      clear HCC hmm
      obtain ⟨va, hva⟩ : ∃ va, va = Value.slice Aa all.length ca := ⟨_, rfl⟩
      have HE := Aside0.mk (show EInv w (((w1.alloc (.cells #[.slice Aa all.length ca] 22)).alloc (.map #[] 0)).alloc (.cells #[.map (some (w1.heap.size + 1))] 90)) w1.heap.size (w1.heap.size + 1 + 1) (w1.heap.size + 1) va all 0 0 from by
        have hb01 := below_step HBA.out HB1.out
        have f2 := (Fr.alloc (w := w1.alloc (.cells #[.slice Aa all.length ca] 22)) (.map #[] 0) (fun _ => True))
        have f3 := (Fr.alloc (w := (w1.alloc (.cells #[.slice Aa all.length ca] 22)).alloc (.map #[] 0)) (.cells #[.map (some (w1.heap.size + 1))] 90) (fun _ => True))
        have hs1 : (w1.alloc (.cells #[.slice Aa all.length ca] 22)).heap.size = w1.heap.size + 1 := by simp
        have hs2 : ((w1.alloc (.cells #[.slice Aa all.length ca] 22)).alloc (.map #[] 0)).heap.size = w1.heap.size + 1 + 1 := by simp
        have hsz := hb01.size
        refine ⟨below_alloc (below_alloc (below_alloc hb01 _) _) _, hsz, by omega, by omega, ?_, ?_, ?_, ?_, ?_⟩
        · rw [hva]
          exact f3.heap (f2.heap (heap_alloc_new w1 _) trivial) trivial
        · have h := heap_alloc_new ((w1.alloc (.cells #[.slice Aa all.length ca] 22)).alloc (.map #[] 0)) (.cells #[.map (some (w1.heap.size + 1))] 90)
          rw [hs2] at h
          exact h
        · have h := World.ownsMap_made (H := Unit) (w1.alloc (.cells #[.slice Aa all.length ca] 22)) Try.prog 91 (plainElem Try.prog 3)
          rw [hs1] at h
          exact ⟨_, h.alloc _, Learned.zero all⟩
        · rw [hva]
          exact own_fr ((Fr.alloc (w := w1) (.cells #[.slice Aa all.length ca] 22) (fun _ => True)).then (f2.then f3)) (own_lower HO1.out HBA.out.size) (fun _ _ => trivial)
        · rw [HALL.out]
          intro x hx
          rcases List.mem_append.1 hx with hx | hx
          · exact HWF.out.2 x hx
          · exact HWF.out.1 x hx)
      clear HO1 HB1 HBA
      generalize ((w1.alloc (.cells #[.slice Aa all.length ca] 22)).alloc (.map #[] 0)).alloc (.cells #[.map (some (w1.heap.size + 1))] 90) = w2 at HE ⊢
      generalize w1.heap.size + 1 + 1 = gm at HE ⊢
      generalize w1.heap.size + 1 = B at HE ⊢
      generalize w1.heap.size = ga at HE ⊢
      have HVA := Aside0.mk hva
      clear hva
      go_wp2_with fail
      go_loopg [9, 37] wd.length (fun kq v9 v37 wc => ∃ i : Nat, kq + i = wd.length ∧ v37 = .int .i64 (i : Int) ∧ Aside0 (EInv w wc ga gm B va all i i))
      case atStart => exact ⟨0, by omega, rfl, HE⟩
      case round =>
        clear HE
        obtain ⟨i, hk, rfl, HE⟩ := hrel
        cases gk with
        | succ kq =>
          have hi0 : (i : Int) < (wd.length : Int) := by omega
          have HK := Aside0.mk hk
          have HLC := Aside0.mk (learn_calls w ga gm B va all i i wr HE.out (by omega) (by have := HAL.out; have := HLEN.out.1; omega) (by omega))
          clear hk
          go_wp2_with (go_at_call 58; refine HLC.out.mono ?_; rintro e w3 ⟨rfl, he3, hf3⟩; have HE3 := Aside0.mk he3; clear he3 hf3)
          go_roundg kq
          case measure => omega
          case rel => exact ⟨i + 1, by have := HK.out; omega, by simp, HE3⟩
        | zero =>
          have hi0 : ¬ (i : Int) < (wd.length : Int) := by omega
          have hiw : i = wd.length := by omega
          subst hiw
          clear hk
          have hT0 : (encL all (all.length + 1) wd.length wd.length).flatMap putP = TT := by
            rw [HTT.out]
            unfold encA
            rw [← HWD.out, ← HALL.out]
          have hTL : (TT.length : Int) ≤ 1099520020000 := by
            have h := (encL_facts all 0 1099511627776000 (by have := HAL.out; have := HLEN.out.1; omega) (all.length + 1) wd.length wd.length (Nat.le_refl _) (by have := HAL.out; omega)).2.2.1
            rw [hT0] at h
            have := HAL.out
            have := HLEN.out.1
            omega
          have HT0 := Aside0.mk hT0
          have HTL := Aside0.mk hTL
          clear hT0 hTL HTT
          have hwdl := HAL.out
          have hpl := HLEN.out.1
          have hwal : wd.length ≤ all.length := by omega
          have hall : all.length ≤ 4259839 := by omega
          clear hwdl hi0
          go_wp2_with fail
          go_loopg [10, 11, 12, 13, 14, 15, 16] (all.length + 1) (fun kq v10 v11 v12 v13 v14 v15 v16 wc => ∃ (fr i : Nat) (lb : List Int), v11 = .int .i64 (fr : Int) ∧ v12 = .int .i64 (i : Int) ∧ Aside0 (wd.length ≤ fr ∧ fr ≤ i ∧ i ≤ all.length ∧ all.length < kq + i) ∧ Aside0 (LInv w wc ga gm B va all i i v10 lb) ∧ Aside0 (lb ++ (encL all kq fr i).flatMap putP = TT))
          case atStart => exact ⟨wd.length, wd.length, [], rfl, rfl, ⟨Nat.le_refl _, Nat.le_refl _, hwal, by omega⟩, ⟨HE.out, own_nil _ _ _ _, fun i hi e => by cases e⟩, HT0⟩
          case round =>
            clear HE HT0
            obtain ⟨fr, i, lb, rfl, rfl, HX, HL, HT⟩ := hrel
            obtain ⟨Ab, cb, eb⟩ := own_slice HL.out.b
            subst eb
            have xa : wr.cell? ⟨ga, 0, none⟩ = some (.slice Aa all.length ca) := by rw [← HVA.out]; exact cell_of_one HL.out.e.a
            obtain ⟨hx1, hx2, hx3, hx4⟩ := HX.out
            by_cases hle : i + 12 ≤ all.length
            · have hi12 : (i : Int) + 12 ≤ (all.length : Int) := by omega
              have hrow := HL.out.e.r
              rw [HVA.out] at hrow
              obtain ⟨g, c', ec, hcap⟩ := own_slice2 hrow (by omega)
              injection ec with ec1 ec2 ec3
              subst ec1 ec3
              have hw : ∀ j, j < all.length → (Lit.int .u8 (all.getD j 0)).wf = true := fun j hj => HL.out.e.wf _ (by rw [List.getD_eq_getElem?_getD, List.getElem?_eq_getElem hj]; exact List.getElem_mem hj)
              have hkey := keyOf4 (hw i (by omega)) (hw (i + 1) (by omega)) (hw (i + 2) (by omega)) (hw (i + 3) (by omega))
              rw [← key4_list (show i + 4 ≤ all.length by omega)] at hkey
              obtain ⟨D, hD, hLn⟩ := HL.out.e.o
              obtain ⟨cc, hlk, hcc⟩ := look4 hD hLn (key4_len (by omega)) (key4_wf HL.out.e.wf i) hkey
              have b0 := row_byte hrow i (by omega)
              have b1 := row_byte hrow (i + 1) (by omega)
              have b2 := row_byte hrow (i + 2) (by omega)
              have b3 := row_byte hrow (i + 3) (by omega)
              have hat := fun W => run_arrayAt W (some ⟨g, i, none⟩) (all.length - i) (ca - i) (by omega)
              have h5 : (i : Int) ≤ (all.length : Int) := by omega
              have h6 : (all.length : Int) ≤ (ca : Int) := by omega
              have h7 : (0 : Int) ≤ (i : Int) := by omega
              have h8 : ¬ ca = i := by omega
              generalize all.getD i 0 = y0 at b0 hlk
              generalize all.getD (i + 1) 0 = y1 at b1 hlk
              generalize all.getD (i + 2) 0 = y2 at b2 hlk
              generalize all.getD (i + 3) 0 = y3 at b3 hlk
              have HW := Aside0.mk hw
              have HCC := Aside0.mk hcc
              clear hw hkey hD hLn hrow hcc
              cases gk with
              | zero => exfalso; omega
              | succ f =>
                have ht := HT.out
                rw [encL, if_pos hle] at ht
                cases hF : find4 all i (key4 all i) with
                | none =>
                  rw [hF] at ht hlk
                  simp only [Option.isSome_none] at hlk
                  have HT2 := Aside0.mk ht
                  clear ht HT hF HCC HX
                  have HLK := Aside0.mk hlk
                  have xm : wr.cell? ⟨gm, 0, none⟩ = some (.map (some B)) := cell_of_one HL.out.e.m
                  go_upto_region 16 with fail
                  go_quiet (fail)
                  have HL3 := Aside0.mk (HL.out.keep (Fr.drewN nq _))
                  generalize wr.drewN nq = w3 at HL3 ⊢
                  have HLC := Aside0.mk (learn_calls w ga gm B va all i i w3 HL3.out.e (by omega) (by omega) (by omega))
                  clear HL HLK hlk xm xa b0 b1 b2 b3 hat
                  go_upto_region 18 with (go_at_call 58; refine HLC.out.mono ?_; rintro e w4 ⟨rfl, he4, hf4⟩; have HL4 := Aside0.mk (HL3.out.learn he4 hf4); clear he4 hf4)
                  clear HL3 HLC
                  go_wp2_with fail
                  go_roundg f
                  case measure => omega
                  case rel => exact ⟨fr, i + 1, lb, rfl, by simp, ⟨hx1, by omega, by omega, by omega⟩, HL4, HT2⟩
                | some k =>
                  have hcv := HCC.out k hF
                  subst hcv
                  have hfk := find4_some hF
                  rw [hF] at ht hlk
                  simp only [Option.isSome_some] at hlk ht
                  have hki : (k : Int) < (i : Int) := by omega
                  by_cases hfar : 65536 ≤ i - k
                  · rw [if_pos hfar] at ht
                    have hfi : (65536 : Int) ≤ (i : Int) - (k : Int) := by omega
                    have HT2 := Aside0.mk ht
                    clear ht HT hF HCC HX hfk hfar
                    have HLK := Aside0.mk hlk
                    have xm : wr.cell? ⟨gm, 0, none⟩ = some (.map (some B)) := cell_of_one HL.out.e.m
                    go_upto_region 16 with fail
                    go_quiet (fail)
                    have HL3 := Aside0.mk (HL.out.keep (Fr.drewN nq _))
                    generalize wr.drewN nq = w3 at HL3 ⊢
                    have HLC := Aside0.mk (learn_calls w ga gm B va all i i w3 HL3.out.e (by omega) (by omega) (by omega))
                    clear HL HLK hlk xm xa b0 b1 b2 b3 hat
                    go_upto_region 18 with (go_at_call 58; refine HLC.out.mono ?_; rintro e w4 ⟨rfl, he4, hf4⟩; have HL4 := Aside0.mk (HL3.out.learn he4 hf4); clear he4 hf4)
                    clear HL3 HLC
                    go_wp2_with fail
                    go_roundg f
                    case measure => omega
                    case rel => exact ⟨fr, i + 1, lb, rfl, by simp, ⟨hx1, by omega, by omega, by omega⟩, HL4, HT2⟩
                  · rw [if_neg hfar] at ht
                    have hfi : ¬ (65536 : Int) ≤ (i : Int) - (k : Int) := by omega
                    have HT2 := Aside0.mk ht
                    have HFK := Aside0.mk hfk
                    clear ht HT hF HCC HX hfar hfk
                    have HLK := Aside0.mk hlk
                    have xm : wr.cell? ⟨gm, 0, none⟩ = some (.map (some B)) := cell_of_one HL.out.e.m
                    go_upto_region 16 with fail
                    go_quiet (fail)
                    have HL3 := Aside0.mk (HL.out.keep (Fr.drewN nq _))
                    generalize wr.drewN nq = w3 at HL3 ⊢
                    have HLC := Aside0.mk (learn_calls w ga gm B va all i i w3 HL3.out.e (by omega) (by omega) (by omega))
                    clear HL HLK hlk xm xa b0 b1 b2 b3 hat
                    go_upto_region 18 with (go_at_call 58; refine HLC.out.mono ?_; rintro e w4 ⟨rfl, he4, hf4⟩; have HL4 := Aside0.mk (HL3.out.learn he4 hf4); clear he4 hf4)
                    clear HL3 HLC
                    go_wp2_with fail
                    obtain ⟨M, hM⟩ : ∃ M, M = mlen all k i all.length 4 := ⟨_, rfl⟩
                    have HT3 := HT2.out
                    rw [← hM] at HT3
                    have HT2 := Aside0.mk HT3
                    have HM := Aside0.mk hM
                    clear HT3 hM
                    go_loopg [15] all.length (fun kq v15 wc => ∃ n : Nat, v15 = .int .i64 (n : Int) ∧ Aside0 (4 ≤ n ∧ mlen all k i kq n = M ∧ all.length + 4 ≤ kq + n ∧ i + n + 5 ≤ all.length) ∧ Aside0 (LInv w wc ga gm B va all (i + 1) (i + 1) (.slice Ab lb.length cb) lb))
                    case atStart => exact ⟨4, rfl, ⟨Nat.le_refl _, HM.out.symm, Nat.le_refl _, by omega⟩, HL4⟩
                    case round =>
                      clear HL4
                      obtain ⟨n, rfl, HN, HL⟩ := hrel
                      obtain ⟨n1, n2, n3, n4⟩ := HN.out
                      have hrow := HL.out.e.r
                      rw [HVA.out] at hrow
                      have xa : wr.cell? ⟨ga, 0, none⟩ = some (.slice (some ⟨g, 0, none⟩) all.length ca) := by rw [← HVA.out]; exact cell_of_one HL.out.e.a
                      have hn0 : (0 : Int) ≤ (n : Int) := by omega
                      have hk0 : (0 : Int) ≤ (k : Int) := by omega
                      clear HN
                      go_upto_region 21 with fail
                      go_cut [97] (fun v97 wc => v97 = .bool (decide (i + n + 5 < all.length ∧ all.getD (i + n) 0 = all.getD (k + n) 0)) ∧ Aside0 (LInv w wc ga gm B va all (i + 1) (i + 1) (.slice Ab lb.length cb) lb))
                      case first =>
                        by_cases hlt : i + n + 5 < all.length
                        · have hlt' : (i : Int) + (n : Int) < (all.length : Int) - 5 := by omega
                          have hin : (i : Int) + (n : Int) < (all.length : Int) := by omega
                          have hkn : (k : Int) + (n : Int) < (all.length : Int) := by omega
                          have z0 := row_byte hrow (i + n) (by omega)
                          have z1 := row_byte hrow (k + n) (by omega)
                          by_cases hpp : all.getD (i + n) 0 = all.getD (k + n) 0
                          · have HREL := Aside0.mk (decide_eq_true (show i + n + 5 < all.length ∧ all.getD (i + n) 0 = all.getD (k + n) 0 from ⟨hlt, hpp⟩))
                            have hpb : (all.getD (i + n) 0 == all.getD (k + n) 0) = true := by rw [hpp]; exact beq_self_eq_true _
                            generalize all.getD (i + n) 0 = p0 at z0 hpb
                            generalize all.getD (k + n) 0 = p1 at z1 hpb
                            clear hpp hrow
                            go_quiet (fail)
                            go_wp2_with fail
                            go_meet
                            case rel => exact ⟨by rw [HREL.out], ⟨HL.out.keep (Fr.drewN _ _)⟩⟩
                          · have HREL := Aside0.mk (decide_eq_false (show ¬ (i + n + 5 < all.length ∧ all.getD (i + n) 0 = all.getD (k + n) 0) from fun hc => hpp hc.2))
                            have hpb : (all.getD (i + n) 0 == all.getD (k + n) 0) = false := by simp only [beq_eq_false_iff_ne, ne_eq]; exact hpp
                            generalize all.getD (i + n) 0 = p0 at z0 hpb
                            generalize all.getD (k + n) 0 = p1 at z1 hpb
                            clear hpp hrow
                            go_quiet (fail)
                            go_wp2_with fail
                            go_meet
                            case rel => exact ⟨by rw [HREL.out], ⟨HL.out.keep (Fr.drewN _ _)⟩⟩
                        · have HREL := Aside0.mk (decide_eq_false (show ¬ (i + n + 5 < all.length ∧ all.getD (i + n) 0 = all.getD (k + n) 0) from fun hc => hlt hc.1))
                          have hlt' : ¬ (i : Int) + (n : Int) < (all.length : Int) - 5 := by omega
                          clear hrow
                          go_quiet (fail)
                          go_wp2_with fail
                          go_meet
                          case rel => exact ⟨by rw [HREL.out], ⟨HL.out.keep (Fr.drewN _ _)⟩⟩
                      case rest =>
                        obtain ⟨hv97, HL'⟩ := hcut
                        subst hv97
                        clear HL hrow xa
                        by_cases hcc : i + n + 5 < all.length ∧ all.getD (i + n) 0 = all.getD (k + n) 0
                        · rw [decide_eq_true hcc]
                          cases gk with
                          | zero => exfalso; omega
                          | succ f2 =>
                            rw [mlen, if_pos hcc] at n2
                            have HN2 := Aside0.mk n2
                            have hcl := hcc.1
                            clear n2 hcc
                            go_wp2_with fail
                            go_roundg f2
                            case measure => omega
                            case rel => exact ⟨n + 1, by simp, ⟨by omega, HN2.out, by omega, by omega⟩, HL'⟩
                        · rw [decide_eq_false hcc]
                          have hnM : n = M := by
                            cases gk with
                            | zero => exact n2
                            | succ f2 => rw [mlen, if_neg hcc] at n2; exact n2
                          subst hnM
                          clear n2 hcc
                          have hcaf : ¬ ca = fr := by omega
                          have hfi0 : (fr : Int) ≤ (i : Int) := by omega
                          have hfr0 : (0 : Int) ≤ (fr : Int) := by omega
                          have hrow := HL'.out.e.r
                          rw [HVA.out] at hrow
                          have xa : wc.cell? ⟨ga, 0, none⟩ = some (.slice (some ⟨g, 0, none⟩) all.length ca) := by rw [← HVA.out]; exact cell_of_one HL'.out.e.a
                          clear hrow
                          have hxl : ((all.take i).drop fr).length = i - fr := by rw [List.length_drop, List.length_take]; omega
                          have hik : ((i - k : Nat) : Int) = (i : Int) - (k : Int) := by omega
                          have hwdl := HAL.out
                          obtain ⟨SS, hSS⟩ : ∃ SS : S44, SS = ⟨(all.take i).drop fr, ((i - k : Nat) : Int), (n : Int)⟩ := ⟨_, rfl⟩
                          have ht := HT2.out
                          rw [← hSS, List.flatMap_cons, ← List.append_assoc] at ht
                          obtain ⟨lb5, hlb5⟩ : ∃ lb5, lb5 = lb ++ putP SS := ⟨_, rfl⟩
                          rw [← hlb5] at ht
                          have hlbl : lb.length < 137000000000000 := by
                            have h := congrArg List.length ht
                            have h5 := congrArg List.length hlb5
                            rw [List.length_append] at h h5
                            have := HTL.out
                            omega
                          have hput : Calls Try.prog 59 #[.slice Ab lb.length cb, .agg #[.slice (some ⟨g, fr, none⟩) (i - fr) (ca - fr), .int .i64 ((i : Int) - (k : Int)), .int .i64 (n : Int)]] wc fun e w' => ∃ vb', e = .returned vb' ∧ LInv w w' ga gm B va all (i + 1) (i + 1) vb' lb5 := by
                            rw [hlb5, ← hik, ← hxl, hSS]
                            exact put_calls w ga gm B (i + 1) (i + 1) va (.slice Ab lb.length cb) all lb wc HL'.out (some ⟨g, fr, none⟩) (ca - fr) ⟨(all.take i).drop fr, ((i - k : Nat) : Int), (n : Int)⟩ (.inr ⟨by show (1 : Int) ≤ ((i - k : Nat) : Int); omega, by show ((i - k : Nat) : Int) < 65536; omega, by show (4 : Int) ≤ (n : Int); omega⟩) (by show ((all.take i).drop fr).length ≤ _; omega) (by show (n : Int) ≤ _; omega) (by omega)
                              (fun W _ hW => by
                                rw [HVA.out] at hW
                                exact cut_C hW fr i (by omega) (by omega) (by omega) _ (fun _ => rfl)) (by show ((all.take i).drop fr).length ≤ ca - fr; omega)
                          have HPUT := Aside0.mk hput
                          have HT5 := Aside0.mk ht
                          have hic : (i : Int) ≤ (ca : Int) := by omega
                          clear hput ht hlb5 hSS hxl hik hlbl hwdl HT2 HL'
                          go_upto_region 24 with (go_at_call 59; refine HPUT.out.mono ?_; rintro e w5 ⟨vb5, rfl, hL5⟩; obtain ⟨A5, c5, e5⟩ := own_slice hL5.b; subst e5; have HL5 := Aside0.mk hL5; clear hL5)
                          clear HPUT xa
                          go_wp2_with fail
                          go_loopg [16] (n - 1) (fun kq v16 wc => ∃ j : Nat, v16 = .int .i64 (j : Int) ∧ Aside0 (kq + j = i + n ∧ i + 1 ≤ j) ∧ Aside0 (LInv w wc ga gm B va all j j (.slice A5 lb5.length c5) lb5))
                          case atStart => exact ⟨i + 1, by simp, ⟨by omega, by omega⟩, HL5⟩
                          case round =>
                            clear HL5
                            obtain ⟨j, rfl, HJ, HLj⟩ := hrel
                            obtain ⟨j1, j2⟩ := HJ.out
                            cases gk with
                            | succ q =>
                              have hlt : (j : Int) < (i : Int) + (n : Int) := by omega
                              have HLC := Aside0.mk (learn_calls w ga gm B va all j j wr HLj.out.e (by omega) (by omega) (by omega))
                              clear j1
                              go_wp2_with (go_at_call 58; refine HLC.out.mono ?_; rintro e w6 ⟨rfl, he6, hf6⟩; have HL6 := Aside0.mk (HLj.out.learn he6 hf6); clear he6 hf6)
                              go_roundg q
                              case measure => omega
                              case rel => exact ⟨j + 1, by simp, ⟨by have := HJ.out.1; omega, by omega⟩, HL6⟩
                            | zero =>
                              have hlt : ¬ (j : Int) < (i : Int) + (n : Int) := by omega
                              have hj : j = i + n := by omega
                              subst hj
                              clear j1
                              go_wp2_with fail
                              go_roundg f
                              case measure => omega
                              case rel => exact ⟨i + n, i + n, lb5, by simp, by simp, ⟨by omega, by omega, by omega, by omega⟩, HLj, HT5⟩
            · have hle' : ¬ (i : Int) + 12 ≤ (all.length : Int) := by omega
              have henc : encL all gk fr i = [⟨all.drop fr, 0, 0⟩] := by
                cases gk with
                | zero => rfl
                | succ f => rw [encL, if_neg hle]
              have hlb : lb ++ putP ⟨all.drop fr, 0, 0⟩ = TT := by
                have h := HT.out
                rw [henc] at h
                simpa using h
              have hlbl : lb.length < 137000000000000 := by
                have h := congrArg List.length hlb
                rw [List.length_append] at h
                have := HTL.out
                omega
              obtain ⟨i05, hi05, _, hsz5, _⟩ := info_parts info5
              obtain ⟨A1, hcut, hA1⟩ := print_cut (P := Try.prog) 22 5 .i64 Try.underlying22 hi05 hsz5 Aa all.length ca fr (by omega)
              have hrow := HL.out.e.r
              rw [HVA.out] at hrow
              obtain ⟨A', c', ec, hrd, hcap⟩ := W.own_reads' hrow
              injection ec with ec1 ec2 ec3
              subst ec1 ec3
              have hcut' : ∀ W : World, (Instr.slice 22 (.slice Aa all.length ca) (some (.int .i64 (fr : Int))) none none).run Try.prog W = .ok (.slice A1 (all.length - fr) (ca - fr)) W := hcut
              have hdl : (all.drop fr).length = all.length - fr := List.length_drop
              have hput := put_calls w ga gm B i i va (.slice Ab lb.length cb) all lb wr HL.out A1 (ca - fr) ⟨all.drop fr, 0, 0⟩ (.inl ⟨rfl, rfl⟩) (by show (all.drop fr).length ≤ _; have := HAL.out; omega) (by show (0 : Int) ≤ _; omega) (by omega) (fun W _ hW => by
                rw [HVA.out] at hW
                show Kd.C (Kd.int .u8) W A1 (all.drop fr).length (all.drop fr)
                rw [hdl]
                exact Kd.C_of_reads (enc := Value.int .u8) (d := (0 : Int)) (h1 := fun _ => rfl) (hA1 W .u8 all hcap (Go.Proofs.YtnomebkdhjigjaaW.PrintWords.own_reads' hW))) (by show (all.drop fr).length ≤ _; omega)
              rw [hlb] at hput
              rw [show (⟨all.drop fr, 0, 0⟩ : S44).f0.length = all.length - fr from hdl] at hput
              have HPUT := Aside0.mk hput
              clear hput hrow hrd hA1 hcut henc hdl hi05 hsz5 hlb HT HX
              go_wp2_with (go_at_call 59; refine HPUT.out.mono ?_; rintro e w9 ⟨vb', rfl, hL9⟩; have HL9 := Aside0.mk hL9; clear hL9)
              go_ret2
              exact ⟨_, rfl, HL9.out.b, HL9.out.e.B0⟩
end Go.Proofs.Ytnomebkdhjigjaa.W
