/- VolumesCuts: the walk. Conditions: at most 2^20 bytes. -/
import Derived.Test.YtnkcbkfccbfjpaaVr
import Derived.Test.YtnkcbkfccbfjpaaVt
import Derived.Deep.QuietTactic
import Derived.BigQuiet
import Derived.OwnWalk
import Derived.Lib.SlBytesConst
namespace Go.Proofs.Ytnkcbkfccbfjpaa.XxhW
open Go.RowKit Go.Proofs.Ytnkcbkfccbfjpaa.QVolumesCuts Go.Proofs.YtnkcbkfccbfjpaaW.PrintWords Go.Proofs.YtnkcbkfccbfjpaaW.PrintLast Go.Proofs.YtnkcbkfccbfjpaaW.PrintMore
set_option linter.unusedVariables false
set_option linter.unusedSimpArgs false
theorem cutR_rows (l : List Int) (most set : Int) (sp : Bool) : (∀ r ∈ (cutR l most set sp).1, r.length ≤ 64 + l.length) ∧ (cutR l most set sp).1.length ≤ 1001 := by
  unfold cutR
  split
  · exact ⟨fun r h => by simp at h, by simp⟩
  split
  · exact ⟨fun r h => by simp at h, by simp⟩
  split
  · exact ⟨fun r h => by simp at h, by simp⟩
  rename_i hn
  generalize countOf l (most - 64).toNat = n at hn ⊢
  generalize stepOf l (most - 64).toNat = s
  dsimp only
  unfold cutP
  refine ⟨fun r h => ?_, ?_⟩
  · rcases List.mem_append.1 h with h | h
    · obtain ⟨i, hi, rfl⟩ := List.mem_map.1 h
      rw [volP_len, piece_len]
      omega
    · split at h
      · rw [List.mem_singleton.1 h, volP_len, overL_len]
        omega
      · simp at h
  · rw [List.length_append, outL_len]
    split <;> simp <;> omega
theorem cut_two : ∃ Z : List (List Int), cutR [97, 98] 65 1 true = (Z, 0) ∧ Z.length = 3 := by
  have h1 : stepOf [97, 98] 1 = 1 := by decide
  have h2 : countOf [97, 98] 1 = 2 := by decide
  refine ⟨cutP [97, 98] 1 true 1 2, ?_, ?_⟩
  · unfold cutR
    rw [if_neg (by decide), if_neg (by decide), show ((65 : Int) - 64).toNat = 1 from rfl, h1, h2, if_neg (by decide)]
  · unfold cutP
    rw [if_pos rfl, List.length_append, outL_len]
    rfl
theorem lists_l0 (R : List (List Int)) (M : Nat) (hM : M ≤ 1000000000) (hR : ∀ r ∈ R, r.length ≤ M) (hn : R.length ≤ 1000000) : ∀ (j k i : Nat), i + j = R.length → j + M + 1 < k → satchellaw27_lists.l0 k R R (i : Int) = some true := by
  intro j
  induction j with
  | zero =>
    intro k i hi hk
    obtain ⟨k, rfl⟩ : ∃ q, k = q + 1 := ⟨k - 1, by omega⟩
    rw [satchellaw27_lists.l0, if_neg (by omega)]
  | succ j ih =>
    intro k i hi hk
    obtain ⟨k, rfl⟩ : ∃ q, k = q + 1 := ⟨k - 1, by omega⟩
    have hmem : R.getD i [] ∈ R := by rw [List.getD_eq_getElem?_getD, List.getElem?_eq_getElem (show i < R.length by omega), Option.getD_some]; exact List.getElem_mem _
    have hl := hR _ hmem
    have hs : satchellaw27_same.f k (R.getD i []) (R.getD i []) = some true := by
      unfold satchellaw27_same.f
      rw [if_pos rfl]
      exact same_l0 _ (by omega) (R.getD i []).length k 0 (by omega) (by omega)
    rw [satchellaw27_lists.l0, if_pos (by omega), if_pos (by omega), if_pos (by omega), rdL_at, hs, Option.bind_some, if_pos rfl, wrap_succ _ (by omega)]
    exact ih k (i + 1) (by omega) (by omega)
theorem lists_f (R : List (List Int)) (M : Nat) (hM : M ≤ 1000000000) (hR : ∀ r ∈ R, r.length ≤ M) (hn : R.length ≤ 1000000) : satchellaw27_lists.f (R.length + M + 2) R R = some true := by
  unfold satchellaw27_lists.f
  rw [if_pos rfl]
  exact lists_l0 R M hM hR hn R.length _ 0 (by omega) (by omega)
theorem perm_rows (B I Z : List Res) (r : Res) : (B ++ ((I ++ [r]) ++ Z)).Perm (I ++ (r :: (B ++ Z))) := by
  have h := List.perm_append_comm_assoc B (I ++ [r]) Z
  rwa [List.append_assoc I [r] (B ++ Z)] at h
theorem snd_at {L : List (Value × List Int)} {R : List (List Int)} (h : L.map (·.2) = R) {i : Nat} {p : Value × List Int} (hp : L[i]? = some p) : R[i]? = some p.2 := by
  rw [← h, List.getElem?_map, hp]
  rfl
set_option maxHeartbeats 8000000 in
set_option maxRecDepth 100000 in
theorem cuts_walk (A : Option Addr) (c : Nat) (b : List Int) (most set : Int) (sp : Bool) (w : World) (hr : ReadsInt w .u8 A b.length b) (hc : b.length ≤ c) (hl : b.length ≤ 1048576) (hset : W64u set) (hm : most ≤ 9223372036854775807) (hm0 : -9223372036854775808 ≤ most) :
    Calls Try.prog 3 #[.agg #[.slice A b.length c, .int .i64 most, .int .u64 set, .bool sp]] w fun e w' => e = .returned (.bool true) ∧ Below w.heap.size w w' := by
  have HR := Aside0.mk hr
  obtain ⟨K, hK⟩ : ∃ K, 6500000000 ≤ K := ⟨_, Nat.le_refl _⟩
  have hrows := cutR_rows b most set sp
  have hcut := cut_f K hK b most set sp hset hm hm0
  obtain ⟨R, E, hcr⟩ : ∃ R E, cutR b most set sp = (R, E) := ⟨_, _, rfl⟩
  rw [hcr] at hrows hcut
  have HCV := Aside0.mk hcut.1
  have HCR := Aside0.mk hcut.2
  have HRL := Aside0.mk (show (∀ r ∈ R, r.length ≤ 1048640) ∧ R.length ≤ 1001 from ⟨fun r h => Nat.le_trans (hrows.1 r h) (by omega), hrows.2⟩)
  have HLI := Aside0.mk (lists_f R 1048640 (by omega) HRL.out.1 (by have := HRL.out.2; omega))
  obtain ⟨Z, hz, hzl⟩ := cut_two
  have hcz := (cut_f K hK [97, 98] 65 1 true ⟨by decide, by decide⟩ (by decide) (by decide)).1
  rw [hz] at hcz
  have HCZ := Aside0.mk hcz
  have HZL := Aside0.mk hzl
  obtain ⟨LL, hLL⟩ : ∃ LL, LL = b ++ marks 32 := ⟨_, rfl⟩
  have HK := Aside0.mk (kept_f b (by omega))
  rw [← hLL] at HK
  have HLB := Aside0.mk (show b.length ≤ LL.length by rw [hLL, List.length_append]; omega)
  have HLL := Aside0.mk hLL
  have hRn : R.length ≤ 1001 := HRL.out.2
  clear hrows hcut hcr hK hcz hz hzl hr hset hm hm0 hLL
  go_enter Try.func3, Try.ntmps3
  go_upto_region 1 with fail
  have HSZ := Aside0.mk ((Sep.nil w).push (below_alloc (Below.refl _ _) (.cells #[.slice A b.length c, .int .i64 most, .int .u64 set, .bool sp] 25)) (Res.blk w.heap.size #[.slice A b.length c, .int .i64 most, .int .u64 set, .bool sp] 25) (heap_alloc_new w _) (fun i hi => by have : i = w.heap.size := hi; omega))
  obtain ⟨wz, hwz⟩ : ∃ wz, wz = w.alloc (.cells #[.slice A b.length c, .int .i64 most, .int .u64 set, .bool sp] 25) := ⟨_, rfl⟩
  rw [← hwz] at HSZ ⊢
  clear hwz
  have x0 : wz.cell? ⟨w.heap.size, 0, none⟩ = some (.slice A b.length c) := cell_of_row wz _ 0 _ 25 (0, 0) (HSZ.out.h _ List.mem_cons_self)
  have x1 : wz.cell? ⟨w.heap.size, 1, none⟩ = some (.int .i64 most) := cell_of_row wz _ 1 _ 25 (0, 0) (HSZ.out.h _ List.mem_cons_self)
  have x2 : wz.cell? ⟨w.heap.size, 2, none⟩ = some (.int .u64 set) := cell_of_row wz _ 2 _ 25 (0, 0) (HSZ.out.h _ List.mem_cons_self)
  have x3 : wz.cell? ⟨w.heap.size, 3, none⟩ = some (.bool sp) := cell_of_row wz _ 3 _ 25 (0, 0) (HSZ.out.h _ List.mem_cons_self)
  have HLC := Aside0.mk (lent_calls A c b wz (HR.out.below HSZ.out.B) (by omega))
  rw [← HLL.out] at HLC
  go_upto_region 2 with (go_at_call 14; refine HLC.out.mono ?_; rintro e w1 ⟨g1, cp1, rfl, hg, hcp, ho1, hb1⟩; have HO1 := Aside0.mk ho1; have HCP := Aside0.mk hcp; have HS1 := Aside0.mk (HSZ.out.push hb1 (Res.row wz.heap.size 5 1 LL.length (.slice (some ⟨g1, 0, none⟩) LL.length cp1) (nums .u8 LL)) ho1 (fun i hi => (own_ge ho1 i hi).1)); clear ho1 hb1 hg hcp)
  clear HLC x0 x1 x2 x3
  have x0 : w1.cell? ⟨w.heap.size, 0, none⟩ = some (.slice A b.length c) := cell_of_row w1 _ 0 _ 25 (0, 0) (HS1.out.h _ (List.mem_cons_of_mem _ List.mem_cons_self))
  have x1 : w1.cell? ⟨w.heap.size, 1, none⟩ = some (.int .i64 most) := cell_of_row w1 _ 1 _ 25 (0, 0) (HS1.out.h _ (List.mem_cons_of_mem _ List.mem_cons_self))
  have x2 : w1.cell? ⟨w.heap.size, 2, none⟩ = some (.int .u64 set) := cell_of_row w1 _ 2 _ 25 (0, 0) (HS1.out.h _ (List.mem_cons_of_mem _ List.mem_cons_self))
  have x3 : w1.cell? ⟨w.heap.size, 3, none⟩ = some (.bool sp) := cell_of_row w1 _ 3 _ 25 (0, 0) (HS1.out.h _ (List.mem_cons_of_mem _ List.mem_cons_self))
  have HVC := Aside0.mk (volumes_Cut.calls (K + 1) (some ⟨g1, 0, none⟩) cp1 b most set sp R E w1 (Kd.C_of_reads (enc := Value.int .u8) (d := (0 : Int)) (h1 := fun _ => rfl) (lent_reads HLL.out HO1.out).1) (Nat.le_trans HLB.out HCP.out) HCV.out)
  go_upto_region 3 with (go_at_call 15; refine HVC.out.mono ?_; rintro e w2 ⟨v2, rfl, hS2, hb2⟩; have HA2 := Aside0.mk hS2; have HB2 := Aside0.mk hb2; clear hS2 hb2)
  have HW1 := Aside0.mk HS1.out.B.size
  obtain ⟨La, hLa, hSa⟩ := S_rows HA2.out HB2.out
  obtain ⟨Aa, ca, ea, hca, hCa⟩ := Kd.R_reads (Kd.S_R HA2.out)
  subst ea
  have HLa := Aside0.mk hLa
  have HS2 := Aside0.mk (HS1.out.join hSa)
  have HCa := Aside0.mk hCa
  have HNa := Aside0.mk hca
  clear HVC x0 x1 x2 x3 HA2 hLa hSa hCa hca HO1 HS1
  have x0 : w2.cell? ⟨w.heap.size, 0, none⟩ = some (.slice A b.length c) := cell_of_row w2 _ 0 _ 25 (0, 0) (HS2.out.h _ (List.mem_append_right _ (List.mem_cons_of_mem _ List.mem_cons_self)))
  have x1 : w2.cell? ⟨w.heap.size, 1, none⟩ = some (.int .i64 most) := cell_of_row w2 _ 1 _ 25 (0, 0) (HS2.out.h _ (List.mem_append_right _ (List.mem_cons_of_mem _ List.mem_cons_self)))
  have x2 : w2.cell? ⟨w.heap.size, 2, none⟩ = some (.int .u64 set) := cell_of_row w2 _ 2 _ 25 (0, 0) (HS2.out.h _ (List.mem_append_right _ (List.mem_cons_of_mem _ List.mem_cons_self)))
  have x3 : w2.cell? ⟨w.heap.size, 3, none⟩ = some (.bool sp) := cell_of_row w2 _ 3 _ 25 (0, 0) (HS2.out.h _ (List.mem_append_right _ (List.mem_cons_of_mem _ List.mem_cons_self)))
  have HVC := Aside0.mk (satchelref27_Cut.calls (K + 1) A c b most set sp R E w2 (Kd.C_of_reads (enc := Value.int .u8) (d := (0 : Int)) (h1 := fun _ => rfl) (HR.out.below HS2.out.B)) hc HCR.out)
  go_upto_region 4 with (go_at_call 16; refine HVC.out.mono ?_; rintro e w3 ⟨v3, rfl, hS3, hb3⟩; have HA3 := Aside0.mk hS3; have HB3 := Aside0.mk hb3; clear hS3 hb3)
  obtain ⟨Lb, hLb, hSb⟩ := S_rows HA3.out HB3.out
  obtain ⟨Ab, cb, eb, hcb, hCb⟩ := Kd.R_reads (Kd.S_R HA3.out)
  subst eb
  have HLb := Aside0.mk hLb
  have HS3 := Aside0.mk (HS2.out.join hSb)
  have HXL := Aside0.mk (fun (W : World) (h : Below w3.heap.size w3 W) => satchellaw27_lists.calls (R.length + 1048640 + 2) Aa ca R Ab cb R true W (Kd.C_below (Kd.C_below HCa.out HB3.out) h) HNa.out (Kd.C_below hCb h) hcb HLI.out)
  have hLr := (lent_reads HLL.out (show w3.ownsRow wz.heap.size 5 1 (.slice (some ⟨g1, 0, none⟩) LL.length cp1) LL.length (nums .u8 LL) from HS3.out.h _ (List.mem_append_right _ (List.mem_append_right _ List.mem_cons_self)))).2
  have HKE := Aside0.mk (fun (W : World) (h : Below w3.heap.size w3 W) => satchellaw27_kept.calls (b.length + 33) (some ⟨g1, 0, none⟩) cp1 LL A c b true W (Kd.C_of_reads (enc := Value.int .u8) (d := (0 : Int)) (h1 := fun _ => rfl) (hLr.below h)) HCP.out (Kd.C_of_reads (enc := Value.int .u8) (d := (0 : Int)) (h1 := fun _ => rfl) ((HR.out.below HS3.out.B).below h)) hc HK.out)
  clear HVC x0 x1 x2 x3 HA3 hLb hSb hCb hcb hLr HS2 HB2 HB3 HCa HNa
  have x0 : w3.cell? ⟨w.heap.size, 0, none⟩ = some (.slice A b.length c) := cell_of_row w3 _ 0 _ 25 (0, 0) (HS3.out.h _ (List.mem_append_right _ (List.mem_append_right _ (List.mem_cons_of_mem _ List.mem_cons_self))))
  have x1 : w3.cell? ⟨w.heap.size, 1, none⟩ = some (.int .i64 most) := cell_of_row w3 _ 1 _ 25 (0, 0) (HS3.out.h _ (List.mem_append_right _ (List.mem_append_right _ (List.mem_cons_of_mem _ List.mem_cons_self))))
  have x2 : w3.cell? ⟨w.heap.size, 2, none⟩ = some (.int .u64 set) := cell_of_row w3 _ 2 _ 25 (0, 0) (HS3.out.h _ (List.mem_append_right _ (List.mem_append_right _ (List.mem_cons_of_mem _ List.mem_cons_self))))
  have x3 : w3.cell? ⟨w.heap.size, 3, none⟩ = some (.bool sp) := cell_of_row w3 _ 3 _ 25 (0, 0) (HS3.out.h _ (List.mem_append_right _ (List.mem_append_right _ (List.mem_cons_of_mem _ List.mem_cons_self))))
  go_upto_region 6 with (first | (go_at_call 17; (with_reducible refine (HXL.out _ (by repeat (first | (with_reducible first | exact Below.refl _ _ | apply pw_below_drewN | apply below_drew1)))).mono ?_); rintro e wq ⟨rfl, ⟨m1, rfl⟩⟩) | (go_at_call 18; (with_reducible refine (HKE.out _ (by repeat (first | (with_reducible first | exact Below.refl _ _ | apply pw_below_drewN | apply below_drew1)))).mono ?_); rintro e wq ⟨rfl, ⟨m2, rfl⟩⟩))
  have hB1 : w.heap.size ≤ w1.heap.size := HW1.out
  obtain ⟨R0, hR0⟩ : ∃ R0, R0 = rowsL w2.heap.size (.slice Ab R.length cb) Lb ++ [Res.row wz.heap.size 5 1 LL.length (.slice (some ⟨g1, 0, none⟩) LL.length cp1) (nums .u8 LL), Res.blk w.heap.size #[.slice A b.length c, .int .i64 most, .int .u64 set, .bool sp] 25] := ⟨_, rfl⟩
  have HR0 := Aside0.mk hR0
  have HS5 := Aside0.mk (show Sep w (w3.drewN (m1 + m2)) ((La.drop 0).map (innerL w1.heap.size) ++ (Res.row w1.heap.size 22 1 La.length (.slice Aa R.length ca) (La.map (·.1)) :: R0)) by
    rw [hR0]
    exact (HS3.out.drewN _).perm (perm_rows _ _ _ _))
  clear HXL HKE HS3 hR0 x0 x1 x2 x3
  generalize w3.drewN (m1 + m2) = w5 at HS5 ⊢
  have HNA := Aside0.mk (show La.length = R.length by rw [← HLa.out, List.length_map])
  have HNB := Aside0.mk (show Lb.length = R.length by rw [← HLb.out, List.length_map])
  go_wp2_with fail
  go_loopg [9] R.length (fun kq v9 wc => ∃ i : Nat, kq + i = R.length ∧ v9 = .int .i64 i ∧ Aside0 (Sep w wc ((La.drop i).map (innerL w1.heap.size) ++ (Res.row w1.heap.size 22 1 La.length (.slice Aa R.length ca) (La.map (·.1)) :: R0))))
  case atStart => exact ⟨0, by omega, rfl, HS5⟩
  case round =>
    clear HS5
    obtain ⟨i, hk, rfl, HS⟩ := hrel
    cases gk with
    | succ k1 =>
      have hin : i < La.length := by have := HNA.out; omega
      have hilt : (i : Int) < (R.length : Int) := by omega
      have hi0 : (0 : Int) ≤ (i : Int) := by omega
      obtain ⟨p, hp⟩ : ∃ p, La[i]? = some p := ⟨_, List.getElem?_eq_getElem hin⟩
      have hd : La.drop i = p :: La.drop (i + 1) := by
        rw [List.getElem?_eq_getElem hin] at hp
        injection hp with hp
        rw [← hp]
        exact List.drop_eq_getElem_cons hin
      rw [hd, List.map_cons, List.cons_append] at HS
      have hrow : wr.ownsRow w1.heap.size 22 1 (.slice Aa R.length ca) La.length (La.map (·.1)) := HS.out.h _ (List.mem_cons_of_mem _ (List.mem_append_right _ List.mem_cons_self))
      rw [HNA.out] at hrow
      obtain ⟨ga, rfl⟩ := own_some' hrow (by omega)
      have hx : wr.cell? ⟨ga, i, none⟩ = some p.1 := by
        rw [World.ownsRow.cellAt hrow i (by omega), List.getElem?_map, hp]
        rfl
      have hpo : wr.ownsRow w1.heap.size 5 1 p.1 p.2.length (nums .u8 p.2) := HS.out.h _ List.mem_cons_self
      have hpm : p.2.length ≤ 1048640 := HRL.out.1 p.2 (List.mem_of_getElem? (snd_at HLa.out hp))
      have HF := Aside0.mk (satchellaw27_full.calls (p.2.length + 92) (fun k => some k = p.1.ownBlock) p.1 p.2 3 w wr HS.out.B (Kd.R_of_own (own_lower hpo hB1) (fun k hk => hk.symm)) (full_f p.2 3 (by omega)))
      have HSp := Aside0.mk (fun (w' : World) (h1 : Below w.heap.size w w') (h2 : Kept wr w' (fun k => some k = p.1.ownBlock)) => HS.out.spend (fr_kept h2 HS.out.B h1))
      obtain ⟨Ap, cpp, hpe⟩ := own_slice hpo
      rw [hpe] at HF hx
      obtain ⟨n2, hn2⟩ : ∃ n2 : Nat, n2 + (i + 1) = R.length := ⟨R.length - (i + 1), by omega⟩
      have hw1 : wrap64 ((i : Int) + 1) = ((i + 1 : Nat) : Int) := wrap_succ _ (by omega)
      clear hd hrow hpo hpm hp
      go_wp2_with (go_at_call 19; refine HF.out.mono ?_; rintro e w8 ⟨rfl, hb8, hk8⟩; have HS8 := Aside0.mk (HSp.out w8 hb8 (by rw [hpe]; exact hk8)); clear hb8 hk8)
      clear HF HSp HS hx hpe
      go_loopg [10] n2 (fun kq v10 wc => ∃ k : Nat, kq + k = R.length ∧ i + 1 ≤ k ∧ v10 = .int .i64 k ∧ Aside0 (Sep w wc ((La.drop (i + 1)).map (innerL w1.heap.size) ++ (Res.row w1.heap.size 22 1 La.length (.slice (some ⟨ga, 0, none⟩) R.length ca) (La.map (·.1)) :: R0))))
      case atStart => exact ⟨i + 1, by omega, Nat.le_refl _, by simp, HS8⟩
      case round =>
        clear HS8
        obtain ⟨k, hkk, hik, rfl, HS⟩ := hrel
        cases gk with
        | succ k2 =>
          have hin2 : k < La.length := by have := HNA.out; omega
          have hin3 : k < Lb.length := by have := HNB.out; omega
          have hklt : (k : Int) < (R.length : Int) := by omega
          have hk0 : (0 : Int) ≤ (k : Int) := by omega
          obtain ⟨q, hq⟩ : ∃ q, La[k]? = some q := ⟨_, List.getElem?_eq_getElem hin2⟩
          obtain ⟨q2, hq2⟩ : ∃ q, Lb[k]? = some q := ⟨_, List.getElem?_eq_getElem hin3⟩
          have hrow : wr.ownsRow w1.heap.size 22 1 (.slice (some ⟨ga, 0, none⟩) R.length ca) La.length (La.map (·.1)) := HS.out.h _ (List.mem_append_right _ List.mem_cons_self)
          rw [HNA.out] at hrow
          have hrow2 : wr.ownsRow w2.heap.size 22 1 (.slice Ab R.length cb) Lb.length (Lb.map (·.1)) := HS.out.h _ (List.mem_append_right _ (List.mem_cons_of_mem _ (by rw [HR0.out]; exact List.mem_append_left _ (List.mem_append_right _ List.mem_cons_self))))
          rw [HNB.out] at hrow2
          obtain ⟨gb, rfl⟩ := own_some' hrow2 (by omega)
          have hx : wr.cell? ⟨ga, k, none⟩ = some q.1 := by
            rw [World.ownsRow.cellAt hrow k (by omega), List.getElem?_map, hq]
            rfl
          have hy : wr.cell? ⟨gb, k, none⟩ = some q2.1 := by
            rw [World.ownsRow.cellAt hrow2 k (by omega), List.getElem?_map, hq2]
            rfl
          have hqo : wr.ownsRow w1.heap.size 5 1 q.1 q.2.length (nums .u8 q.2) := HS.out.h (innerL w1.heap.size q) (List.mem_append_left _ (List.mem_map.2 ⟨q, List.mem_of_getElem? (i := k - (i + 1)) (by rw [List.getElem?_drop, show i + 1 + (k - (i + 1)) = k by omega]; exact hq), rfl⟩))
          have hqo2 : wr.ownsRow w2.heap.size 5 1 q2.1 q2.2.length (nums .u8 q2.2) := HS.out.h (innerL w2.heap.size q2) (List.mem_append_right _ (List.mem_cons_of_mem _ (by rw [HR0.out]; exact List.mem_append_left _ (List.mem_append_left _ (List.mem_map.2 ⟨q2, List.mem_of_getElem? hq2, rfl⟩)))))
          have he2 : q2.2 = q.2 := by
            have h1 := snd_at HLa.out hq
            rw [snd_at HLb.out hq2] at h1
            exact Option.some.inj h1
          have hqm : q.2.length ≤ 1048640 := HRL.out.1 q.2 (List.mem_of_getElem? (snd_at HLa.out hq))
          rw [he2] at hqo2
          obtain ⟨Aq, cq, hqe⟩ := own_slice hqo
          obtain ⟨Aq2, cq2, hqe2⟩ := own_slice hqo2
          rw [hqe] at hx hqo
          rw [hqe2] at hy hqo2
          obtain ⟨rq, hrq⟩ : ∃ rq, rq = q.2 := ⟨_, rfl⟩
          rw [← hrq] at hx hqo hy hqo2 hqm
          have h1 := own_reads2 hqo
          have h2 := own_reads2 hqo2
          have HX := Aside0.mk (fun (W : World) (h : Below wr.heap.size wr W) => satchellaw27_same.calls (rq.length + 1) Aq cq rq Aq2 cq2 rq true W (Kd.C_of_reads (enc := Value.int .u8) (d := (0 : Int)) (h1 := fun _ => rfl) (h1.1.below h)) h1.2 (Kd.C_of_reads (enc := Value.int .u8) (d := (0 : Int)) (h1 := fun _ => rfl) (h2.1.below h)) h2.2 (same_f rq (by omega)))
          have x0' : wr.drew.cell? ⟨ga, k, none⟩ = some (.slice Aq rq.length cq) := hx
          have x1' : wr.drew.cell? ⟨gb, k, none⟩ = some (.slice Aq2 rq.length cq2) := hy
          have HXd := Aside0.mk (HX.out wr.drew (below_drew (Below.refl _ _)))
          have HSd := Aside0.mk (HS.out.drew)
          clear hrow hrow2 hqo hqo2 he2 hqm hqe hqe2 hrq h1 h2 HX HS hx hy hq hq2
          go_upto_region 13 with fail
          refine start_ (n := 10) (S := fun w' => w'.cell? ⟨ga, k, none⟩ = some (.slice Aq rq.length cq) ∧ w'.cell? ⟨gb, k, none⟩ = some (.slice Aq2 rq.length cq2)) (ds := [8]) #[false, false, false, false, false, false, false, false, false, false] (by kernel_rfl) rfl rfl ⟨x0', x1'⟩ (fun hHeld => ?_)
          generalize wr.drew = wd at HXd HSd x0' x1' hHeld ⊢
          refine pure_ (i := 0) (N := some 77) (v := ?_) (a' := ?_) #[true, false, false, false, false, false, false, false, false, false] rfl rfl (by kernel_rfl) (fun _ _ _ h => h) (Or.inl ⟨by rfl, ?_⟩) ?_ ?_
          rotate_left
          · intro w'
            go_simp
            with_reducible rfl
          rotate_left
          · simp only [Act.put, List.setIfInBounds_toArray, List.set_cons_zero, List.set_cons_succ, i64_w, i32_w]
            rfl
          refine pure_ (i := 1) (N := some 78) (v := ?_) (a' := ?_) #[true, true, false, false, false, false, false, false, false, false] rfl rfl (by kernel_rfl) (fun _ _ _ h => h) (Or.inl ⟨by rfl, ?_⟩) ?_ ?_
          rotate_left
          · intro w'
            go_simp
            with_reducible rfl
          rotate_left
          · simp only [Act.put, List.setIfInBounds_toArray, List.set_cons_zero, List.set_cons_succ, i64_w, i32_w]
            rfl
          refine pure_ (i := 2) (N := some 79) (v := ?_) (a' := ?_) #[true, true, true, false, false, false, false, false, false, false] rfl rfl (by kernel_rfl) (fun _ _ _ h => h) (Or.inl ⟨by rfl, ?_⟩) ?_ ?_
          rotate_left
          · intro w'
            go_simp
            with_reducible rfl
          rotate_left
          · simp only [Act.put, List.setIfInBounds_toArray, List.set_cons_zero, List.set_cons_succ, i64_w, i32_w]
            rfl
          refine pure_ (i := 4) (N := some 81) (v := ?_) (a' := ?_) #[true, true, true, false, true, false, false, false, false, false] rfl rfl (by kernel_rfl) (fun _ _ _ h => h) (Or.inl ⟨by rfl, ?_⟩) ?_ ?_
          rotate_left
          · intro w'
            go_simp
            with_reducible rfl
          rotate_left
          · simp only [Act.put, List.setIfInBounds_toArray, List.set_cons_zero, List.set_cons_succ, i64_w, i32_w]
            rfl
          refine pure_ (i := 5) (N := some 82) (v := ?_) (a' := ?_) #[true, true, true, false, true, true, false, false, false, false] rfl rfl (by kernel_rfl) (fun _ _ _ h => h) (Or.inl ⟨by rfl, ?_⟩) ?_ ?_
          rotate_left
          · intro w'
            go_simp
            with_reducible rfl
          rotate_left
          · simp only [Act.put, List.setIfInBounds_toArray, List.set_cons_zero, List.set_cons_succ, i64_w, i32_w]
            rfl
          refine pure_ (i := 6) (N := some 83) (v := ?_) (a' := ?_) #[true, true, true, false, true, true, true, false, false, false] rfl rfl (by kernel_rfl) (fun _ _ _ h => h) (Or.inl ⟨by rfl, ?_⟩) ?_ ?_
          rotate_left
          · intro w'
            go_simp
            with_reducible rfl
          rotate_left
          · simp only [Act.put, List.setIfInBounds_toArray, List.set_cons_zero, List.set_cons_succ, i64_w, i32_w]
            rfl
          refine take_ (i := 3) (N := some 80) (v := ?_) (a' := ?_) #[true, true, true, true, true, true, true, false, false, false] rfl rfl (by kernel_rfl) (fun _ _ _ h => h) (Or.inl ⟨by rfl, ?_⟩) hHeld ?_ ?_
          rotate_left
          · rintro w' ⟨s0, s1⟩
            go_simp
            with_reducible rfl
          rotate_left
          · simp only [Act.put, List.setIfInBounds_toArray, List.set_cons_zero, List.set_cons_succ, i64_w, i32_w]
            rfl
          refine take_ (i := 7) (N := some 84) (v := ?_) (a' := ?_) #[true, true, true, true, true, true, true, true, false, false] rfl rfl (by kernel_rfl) (fun _ _ _ h => h) (Or.inl ⟨by rfl, ?_⟩) hHeld ?_ ?_
          rotate_left
          · rintro w' ⟨s0, s1⟩
            go_simp
            with_reducible rfl
          rotate_left
          · simp only [Act.put, List.setIfInBounds_toArray, List.set_cons_zero, List.set_cons_succ, i64_w, i32_w]
            rfl
          refine last_ (i := 8) (N := some 85) #[true, true, true, true, true, true, true, true, true, false] rfl rfl (by kernel_rfl) (by decide) (fun K hK => ?_)
          refine goes_ Try.func20 (by kernel_rfl) rfl #[.slice Aq rq.length cq, .slice Aq2 rq.length cq2] (by rfl) rfl rfl (by simp only [List.map_toArray, List.map_cons, List.map_nil]; rfl) ?_
          with_reducible refine (HXd.out).mono ?_
          rintro e w3 ⟨rfl, ⟨m3, rfl⟩⟩
          refine ⟨_, rfl, ?_⟩
          have HS9 := Aside0.mk (HSd.out.drewN m3)
          refine hK.out _ _ ?_
          clear hK K
          refine norm_ (a' := ?_) ?_ ?_
          rotate_left
          · show Act.put _ (some 85) _ = _
            simp only [Act.put, List.setIfInBounds_toArray, List.set_cons_zero, List.set_cons_succ, i64_w, i32_w]
            rfl
          refine pure_ (i := 9) (N := some 86) (v := ?_) (a' := ?_) #[true, true, true, true, true, true, true, true, true, true] rfl rfl (by kernel_rfl) (fun _ _ _ h => h) (Or.inl ⟨by rfl, ?_⟩) ?_ ?_
          rotate_left
          · intro w'
            go_simp
            with_reducible rfl
          rotate_left
          · simp only [Act.put, List.setIfInBounds_toArray, List.set_cons_zero, List.set_cons_succ, i64_w, i32_w]
            rfl
          refine done_ (by kernel_rfl) ?_
          go_wp2
          go_roundg k2
          case measure => omega
          case rel => exact ⟨k + 1, by omega, by omega, by simp, HS9⟩
        | zero =>
          have hge : ¬ ((k : Int) < (R.length : Int)) := by omega
          go_wp2
          go_roundg k1
          case measure => omega
          case rel => exact ⟨i + 1, by omega, by simp, HS⟩
    | zero =>
      have hin : R.length = i := by omega
      rw [List.drop_of_length_le (by have := HNA.out; omega), List.map_nil, List.nil_append] at HS
      have hge : ¬ ((i : Int) < (R.length : Int)) := by omega
      clear hin hk
      have kc : ∀ W : World, (convert 22 22 (.slice (some ⟨W.heap.size, 0, none⟩) 2 2)).run Try.prog (W.alloc (.cells #[.int .u8 97, .int .u8 98] 5)) = .ok (.slice (some ⟨W.heap.size, 0, none⟩) 2 2) (W.alloc (.cells #[.int .u8 97, .int .u8 98] 5 (2, 3))) := fun W => Lib.run_convert_bytes_const W 22 5 _ 2 2 Try.underlying22 Try.underlying5
      have hr2 : ReadsInt (wr.alloc (.cells #[.int .u8 97, .int .u8 98] 5 (2, 3))) .u8 (some ⟨wr.heap.size, 0, none⟩) ([97, 98] : List Int).length [97, 98] := by
        refine ⟨rfl, by decide, fun _ => ⟨_, rfl, fun j hj => ?_⟩⟩
        rw [Addr.add_lit, Nat.zero_add, cell_of_row (wr.alloc _) _ j _ 5 (2, 3) (heap_alloc_new wr _)]
        rcases j with _ | _ | j
        all_goals first | rfl | (exfalso; simp only [List.length_cons, List.length_nil] at hj; omega)
      have HZ := Aside0.mk (volumes_Cut.calls (K + 1) (some ⟨wr.heap.size, 0, none⟩) 2 [97, 98] 65 1 true Z 0 _ (Kd.C_of_reads (enc := Value.int .u8) (d := (0 : Int)) (h1 := fun _ => rfl) hr2) (Nat.le_refl _) HCZ.out)
      have HS6 := Aside0.mk (HS.out.alloc (.cells #[.int .u8 97, .int .u8 98] 5 (2, 3)))
      clear HS hr2
      go_upto_region 16 with (go_at_call 15; refine HZ.out.mono ?_; rintro e w7 ⟨v7, rfl, hS7, hb7⟩; have HS7 := Aside0.mk (HS6.out.keep hb7); obtain ⟨A7, c7, e7, _, _⟩ := Kd.R_reads (Kd.S_R hS7); rw [HZL.out] at e7; subst e7; clear hS7 hb7)
      clear HZ HS6 kc
      have hLr := (lent_reads HLL.out (show w7.ownsRow wz.heap.size 5 1 (.slice (some ⟨g1, 0, none⟩) LL.length cp1) LL.length (nums .u8 LL) from HS7.out.h _ (List.mem_cons_of_mem _ (by rw [HR0.out]; exact List.mem_append_right _ List.mem_cons_self)))).2
      have HKE := Aside0.mk (fun (W : World) (h : Below w7.heap.size w7 W) => satchellaw27_kept.calls (b.length + 33) (some ⟨g1, 0, none⟩) cp1 LL A c b true W (Kd.C_of_reads (enc := Value.int .u8) (d := (0 : Int)) (h1 := fun _ => rfl) (hLr.below h)) HCP.out (Kd.C_of_reads (enc := Value.int .u8) (d := (0 : Int)) (h1 := fun _ => rfl) ((HR.out.below HS7.out.B).below h)) hc HK.out)
      have x0 : w7.cell? ⟨w.heap.size, 0, none⟩ = some (.slice A b.length c) := cell_of_row w7 _ 0 _ 25 (0, 0) (HS7.out.h _ (List.mem_cons_of_mem _ (by rw [HR0.out]; exact List.mem_append_right _ (List.mem_cons_of_mem _ List.mem_cons_self))))
      have x1 : w7.cell? ⟨w.heap.size, 1, none⟩ = some (.int .i64 most) := cell_of_row w7 _ 1 _ 25 (0, 0) (HS7.out.h _ (List.mem_cons_of_mem _ (by rw [HR0.out]; exact List.mem_append_right _ (List.mem_cons_of_mem _ List.mem_cons_self))))
      have x2 : w7.cell? ⟨w.heap.size, 2, none⟩ = some (.int .u64 set) := cell_of_row w7 _ 2 _ 25 (0, 0) (HS7.out.h _ (List.mem_cons_of_mem _ (by rw [HR0.out]; exact List.mem_append_right _ (List.mem_cons_of_mem _ List.mem_cons_self))))
      have x3 : w7.cell? ⟨w.heap.size, 3, none⟩ = some (.bool sp) := cell_of_row w7 _ 3 _ 25 (0, 0) (HS7.out.h _ (List.mem_cons_of_mem _ (by rw [HR0.out]; exact List.mem_append_right _ (List.mem_cons_of_mem _ List.mem_cons_self))))
      have HBe := Aside0.mk HS7.out.B
      clear hLr HS7
      go_wp2_with (go_at_call 18; (with_reducible refine (HKE.out _ (by repeat (first | (with_reducible first | exact Below.refl _ _ | apply pw_below_drewN | apply below_drew1)))).mono ?_); rintro e wq ⟨rfl, ⟨m3, rfl⟩⟩)
      go_ret
      exact ⟨rfl, by repeat (first | (with_reducible first | exact HBe.out | apply pw_below_drewN | apply below_drew1))⟩
end Go.Proofs.Ytnkcbkfccbfjpaa.XxhW
