/- Contract of the reference's Sum32: the sum of 32 bits as a plain function of the seed and the bytes. Conditions: the seed is a word of 32 bits, bytes are bytes, fewer than 2^47 of them. -/
import Derived.Test.YtnkcbkfccbfjpaaXf
import Derived.Test.YtnkcbkfccbfjpaaXg
namespace Go.Proofs.Ytnkcbkfccbfjpaa.XxhW
open Go.RowKit Go.Proofs.YtnkcbkfccbfjpaaW.PrintWords Go.Proofs.YtnkcbkfccbfjpaaW.PrintLast Go.Proofs.YtnkcbkfccbfjpaaW.PrintMore
set_option linter.unusedVariables false
set_option linter.unusedSimpArgs false
theorem reads_drawn {w : World} {k : IntKind} {A : Option Addr} {n : Nat} {l : List Int} (h : ReadsInt w k A n l) (m : Nat) : ReadsInt (w.drewN m) k A n l := h
/-- Four words in an array at block g. -/
def IsV (w : World) (g : Nat) (v : X.V4) : Prop := w.heap[g]? = some (.cells #[.int .u32 v.a, .int .u32 v.b, .int .u32 v.c, .int .u32 v.d] 94 (0, 0))
theorem IsV.at {w : World} {g : Nat} {v : X.V4} (h : IsV w g v) (i : Nat) (u : Value) (hu : (#[.int .u32 v.a, .int .u32 v.b, .int .u32 v.c, .int .u32 v.d] : Array Value)[i]? = some u) :
    w.cell? ⟨g, i, none⟩ = some u ∧ w.frozen? ⟨g, i, none⟩ = false := ⟨(cell_of_row w g i _ 94 (0, 0) h).trans hu, blk_frozen h i⟩
theorem apart_V {w : World} {ad : Addr} {n g : Nat} {v : X.V4} {l : List Int} (hr : ReadsInt w .u8 (some ad) n l) (h0 : 0 < n) (hd : IsV w g v) : ad.block ≠ g :=
  apart_of_reads hr h0 hd (fun o k z h => by
    rcases o with _ | _ | _ | _ | o <;> simp at h
    all_goals (obtain ⟨rfl, _⟩ := h; decide))
theorem small_rest (l : List Int) (h : l.length < 16) : X.rest 16 l = l := by unfold X.rest; rw [Nat.div_eq_of_lt h]; rfl

set_option maxHeartbeats 16000000 in
set_option maxRecDepth 100000 in
theorem rSum32_calls (A : Option Addr) (c : Nat) (l : List Int) (s : Int) (w : World) (hr : ReadsInt w .u8 A l.length l) (hlc : l.length ≤ c) (hb : Bytes l) (hs : W32 s) (hl : l.length ≤ 140737488355327) :
    Calls Try.prog 23 #[.int .u32 s, .slice A l.length c] w fun e w' => e = .returned (.int .u32 (X.sum32 s l)) ∧ Below w.heap.size w w' := by
  have HR := Aside0.mk hr
  have HB := Aside0.mk hb
  have HS := Aside0.mk hs
  obtain ⟨hs0, hs1⟩ := hs
  clear hr hb
  have hl0 : (0 : Int) ≤ (l.length : Int) := by omega
  have hl1 : (l.length : Int) ≤ 140737488355327 := by omega
  obtain ⟨i05, hi05, _, hsz5, _⟩ := info_parts info5
  go_enter Try.func23, Try.ntmps23
  go_upto_if 14 with (fail)
  go_cut [5, 6] (fun v5 v6 wc => v5 = .int .u32 (head32 l.length s (X.run32 (l.length / 16) (X.init32 s) l)) ∧ ∃ (A' : Option Addr) (c' : Nat), v6 = .slice A' (X.rest 16 l).length c' ∧ Aside0 (ReadsInt wc .u8 A' (X.rest 16 l).length (X.rest 16 l)) ∧ (X.rest 16 l).length ≤ c' ∧ Aside0 (Below w.heap.size w wc))
  case first =>
    by_cases hbig : 16 ≤ l.length
    · have hbig' : (16 : Int) ≤ (l.length : Int) := by omega
      have HH := Aside0.mk (show head32 l.length s (X.run32 (l.length / 16) (X.init32 s) l) = X.merge32 (X.run32 (l.length / 16) (X.init32 s) l) from if_pos hbig)

      go_upto_region 4 with (fail)
      go_cut [6, 7] (fun v6 v7 wc => v6 = .slice A l.length c ∧ v7 = .pointer (some ⟨w.heap.size, 0, none⟩) ∧ Aside0 (IsV wc w.heap.size (X.init32 s)) ∧ Aside0 (Below w.heap.size w wc))
      case first =>
        go_wp2
        go_meet
        case rel =>
          refine ⟨rfl, rfl, ⟨?_⟩, ⟨below_alloc (Below.refl _ _) _⟩⟩
          have := heap_alloc_new w (.cells #[.int .u32 (X.init32 s).a, .int .u32 (X.init32 s).b, .int .u32 (X.init32 s).c, .int .u32 (X.init32 s).d] 94)
          simpa [IsV, X.init32] using this
      case rest =>
      obtain ⟨rfl, rfl, HV0, HB0⟩ := hcut
      go_wp2
      go_loopg [6] (l.length / 16) (fun kq v6 wd => ∃ (j : Nat) (A' : Option Addr) (c' : Nat) (v : X.V4), kq + j = l.length / 16 ∧ v6 = .slice A' (l.length - 16 * j) c' ∧ Aside0 (v = X.run32 j (X.init32 s) l) ∧ Aside0 (IsV wd w.heap.size v) ∧
        Aside0 (ReadsInt wd .u8 A' (l.length - 16 * j) (l.drop (16 * j))) ∧ l.length - 16 * j ≤ c' ∧ Aside0 (Below w.heap.size w wd))
      case atStart => exact ⟨0, A, c, _, by omega, rfl, ⟨rfl⟩, HV0, ⟨HR.out.below HB0.out⟩, by simpa using hlc, HB0⟩
      case round =>
        clear HV0 HB0
        obtain ⟨j, A', c', v, hk, rfl, HE, HD, HA, hnc, HBW⟩ := hrel
        obtain ⟨L, eL⟩ : ∃ L, L = l.drop (16 * j) := ⟨_, rfl⟩
        have eLl : l.length - 16 * j = L.length := by rw [eL]; simp
        rw [eLl] at HA hnc ⊢
        rw [← eL] at HA
        have HeL := Aside0.mk eL
        have HeLl := Aside0.mk eLl
        have Hk := Aside0.mk hk
        have HLb := Aside0.mk (show Bytes L by rw [eL]; exact HB.out.drop _)
        have hLs : L.length ≤ 140737488355327 := by omega
        have HvG := Aside0.mk (show Good v by rw [HE.out]; exact good_run _ _ _ (good_init s HS.out))
        clear eL eLl hk
        cases gk with
        | zero =>
          have hlt : (L.length : Int) < 16 := by have := HeLl.out; have := Hk.out; have := Nat.div_add_mod l.length 16; have := Nat.mod_lt l.length (show 0 < 16 by decide); omega
          have x0 := (IsV.at HD.out 0 (.int .u32 v.a) rfl).1
          have x1 := (IsV.at HD.out 1 (.int .u32 v.b) rfl).1
          have x2 := (IsV.at HD.out 2 (.int .u32 v.c) rfl).1
          have x3 := (IsV.at HD.out 3 (.int .u32 v.d) rfl).1
          go_wp2
          go_quiet (first | (go_at_call 58; exact Calls.quiet_of (rrot32_calls _ _ _ (by decide) (by decide) HvG.out.a.1 HvG.out.a.2)) | (go_at_call 58; exact Calls.quiet_of (rrot32_calls _ _ _ (by decide) (by decide) HvG.out.b.1 HvG.out.b.2)) | (go_at_call 58; exact Calls.quiet_of (rrot32_calls _ _ _ (by decide) (by decide) HvG.out.c.1 HvG.out.c.2)) | (go_at_call 58; exact Calls.quiet_of (rrot32_calls _ _ _ (by decide) (by decide) HvG.out.d.1 HvG.out.d.2)))
          go_wp2
          go_meet
          case rel =>
            have ej : j = l.length / 16 := by have := Hk.out; omega
            have er : X.rest 16 l = L := by rw [X.rest, ← ej]; exact HeL.out.symm
            rw [er]
            refine ⟨congrArg (Value.int .u32) ?_, A', c', rfl, ⟨reads_drawn HA.out _⟩, hnc, ⟨pw_below_drewN HBW.out _⟩⟩
            rw [HH.out, ← ej, ← HE.out]
            unfold X.merge32
            omega
        | succ k1 =>
          have hge : 16 ≤ L.length := by have := HeLl.out; have := Hk.out; have := Nat.div_mul_le_self l.length 16; omega
          have hge' : (16 : Int) ≤ (L.length : Int) := by omega
          obtain ⟨ad, rfl, _⟩ := HA.out.2.2 (by omega)
          have hag : ad.block ≠ w.heap.size := apart_V HA.out (by omega) HD.out
          have hc16 : (16 : Int) ≤ (c' : Int) := by omega
          have n4 : ¬ c' = 4 := by omega
          have n8 : ¬ c' = 8 := by omega
          have n12 : ¬ c' = 12 := by omega
          have z0 : IntKind.i64.wrap 0 = 0 := by decide
          have z4 : IntKind.i64.wrap 4 = 4 := by decide
          have z8 : IntKind.i64.wrap 8 = 8 := by decide
          have z12 : IntKind.i64.wrap 12 = 12 := by decide
          have m4 : (4 : Int) ≤ (L.length : Int) := by omega
          have m8 : (8 : Int) ≤ (L.length : Int) := by omega
          have m12 : (12 : Int) ≤ (L.length : Int) := by omega
          obtain ⟨A1, hcut, hA1⟩ := print_cut (P := Try.prog) 22 5 .i64 Try.underlying22 hi05 hsz5 (some ad) L.length c' 16 hge
          have HA1 := Aside0.mk hA1
          have hcut' : ∀ W : World, (Instr.slice 22 (.slice (some ad) L.length c') (some (.int .i64 16)) none none).run Try.prog W = .ok (.slice A1 (L.length - 16) (c' - 16)) W := hcut
          have HG := Aside0.mk (World.grownBy.refl wr (some w.heap.size))
          have hr0 : Rd wr ad L := rd_of_reads HA.out
          obtain ⟨x0, f0⟩ := IsV.at HD.out 0 _ rfl
          have HDr := HD
          clear hA1 hcut
          go_wp2
          refine wp_loop_rounds 5 ?_
          rw [rounds_succ]
          go_wp2
          refine QTail.wp_region_tail (C := fun w' => ∃ n, w' = wr.drewN n) 14 (by kernel_rfl) (by kernel_rfl) ⟨1, rfl⟩ ?_
          simp only [List.take_succ_cons, List.take_zero, List.drop_succ_cons, List.drop_zero]
          repeat (quiet_step (first | (go_at_call 59; exact Calls.quiet_of (low32_calls ad _ _ L _ (hr0.drewN _) rfl (by first | omega | (simp; omega)) (HLb.out))) | (go_at_call 58; exact Calls.quiet_of (rrot32_calls _ 13 _ (by omega) (by omega) (u32_range _).1 (u32_range _).2))))
          refine wpQuiet_nil ?_
          intro _ hw'
          obtain ⟨nq, hw''⟩ := hw'
          subst hw''
          go_wp2
          obtain ⟨w1, hw1⟩ : ∃ z, z = (wr.drewN nq).setCell ⟨w.heap.size, 0, none⟩ (.int .u32 (X.step32 v.a (X.le32 L))) := ⟨_, rfl⟩
          have P1 := put_world HD.out nq 0 (.int .u32 (X.step32 v.a (X.le32 L)))
          rw [← hw1] at P1
          unfold X.step32 at hw1
          rw [← hw1]
          clear hw1
          obtain ⟨D1, K1, G1⟩ := P1
          have HD1 := Aside0.mk (show IsV w1 w.heap.size ⟨X.step32 v.a (X.le32 L), v.b, v.c, v.d⟩ from D1)
          have HG1 := Aside0.mk (grown_then HG.out G1)
          have r1 := Aside0.mk (Rd.of_cells hr0 (fun p hp => K1 p (by rw [hp]; exact hag)))
          clear x0 f0 D1 K1 G1 HD HG
          have HD := HD1
          have HG := HG1
          have R1 := r1
          clear HD1 HG1 r1 hr0
          obtain ⟨x0, f0⟩ := IsV.at HD.out 1 _ rfl
          have hr1 : Rd w1 ⟨ad.block, ad.off + 4, none⟩ (L.drop 4) := by
            have := R1.out.drop 4
            rwa [add_pos _ _ (by omega)] at this
          rw [rounds_succ]
          go_wp2
          refine QTail.wp_region_tail (C := fun w' => ∃ n, w' = w1.drewN n) 14 (by kernel_rfl) (by kernel_rfl) ⟨1, rfl⟩ ?_
          simp only [List.take_succ_cons, List.take_zero, List.drop_succ_cons, List.drop_zero]
          repeat (quiet_step (first | (go_at_call 59; exact Calls.quiet_of (low32_calls ⟨ad.block, ad.off + 4, none⟩ _ _ (L.drop 4) _ (hr1.drewN _) (by simp) (by first | omega | (simp; omega)) (HLb.out.drop 4))) | (go_at_call 58; exact Calls.quiet_of (rrot32_calls _ 13 _ (by omega) (by omega) (u32_range _).1 (u32_range _).2))))
          refine wpQuiet_nil ?_
          intro _ hw'
          obtain ⟨nq, hw''⟩ := hw'
          subst hw''
          go_wp2
          obtain ⟨w2, hw2⟩ : ∃ z, z = (w1.drewN nq).setCell ⟨w.heap.size, 1, none⟩ (.int .u32 (X.step32 v.b (X.le32 (L.drop 4)))) := ⟨_, rfl⟩
          have P2 := put_world HD.out nq 1 (.int .u32 (X.step32 v.b (X.le32 (L.drop 4))))
          rw [← hw2] at P2
          unfold X.step32 at hw2
          rw [← hw2]
          clear hw2
          obtain ⟨D2, K2, G2⟩ := P2
          have HD2 := Aside0.mk (show IsV w2 w.heap.size ⟨X.step32 v.a (X.le32 L), X.step32 v.b (X.le32 (L.drop 4)), v.c, v.d⟩ from D2)
          have HG2 := Aside0.mk (grown_then HG.out G2)
          have r2 := Aside0.mk (Rd.of_cells R1.out (fun p hp => K2 p (by rw [hp]; exact hag)))
          clear x0 f0 D2 K2 G2 HD HG
          have HD := HD2
          have HG := HG2
          have R2 := r2
          clear HD2 HG2 r2 R1
          obtain ⟨x0, f0⟩ := IsV.at HD.out 2 _ rfl
          have hr2 : Rd w2 ⟨ad.block, ad.off + 8, none⟩ (L.drop 8) := by
            have := R2.out.drop 8
            rwa [add_pos _ _ (by omega)] at this
          rw [rounds_succ]
          go_wp2
          refine QTail.wp_region_tail (C := fun w' => ∃ n, w' = w2.drewN n) 14 (by kernel_rfl) (by kernel_rfl) ⟨1, rfl⟩ ?_
          simp only [List.take_succ_cons, List.take_zero, List.drop_succ_cons, List.drop_zero]
          repeat (quiet_step (first | (go_at_call 59; exact Calls.quiet_of (low32_calls ⟨ad.block, ad.off + 8, none⟩ _ _ (L.drop 8) _ (hr2.drewN _) (by simp) (by first | omega | (simp; omega)) (HLb.out.drop 8))) | (go_at_call 58; exact Calls.quiet_of (rrot32_calls _ 13 _ (by omega) (by omega) (u32_range _).1 (u32_range _).2))))
          refine wpQuiet_nil ?_
          intro _ hw'
          obtain ⟨nq, hw''⟩ := hw'
          subst hw''
          go_wp2
          obtain ⟨w3, hw3⟩ : ∃ z, z = (w2.drewN nq).setCell ⟨w.heap.size, 2, none⟩ (.int .u32 (X.step32 v.c (X.le32 (L.drop 8)))) := ⟨_, rfl⟩
          have P3 := put_world HD.out nq 2 (.int .u32 (X.step32 v.c (X.le32 (L.drop 8))))
          rw [← hw3] at P3
          unfold X.step32 at hw3
          rw [← hw3]
          clear hw3
          obtain ⟨D3, K3, G3⟩ := P3
          have HD3 := Aside0.mk (show IsV w3 w.heap.size ⟨X.step32 v.a (X.le32 L), X.step32 v.b (X.le32 (L.drop 4)), X.step32 v.c (X.le32 (L.drop 8)), v.d⟩ from D3)
          have HG3 := Aside0.mk (grown_then HG.out G3)
          have r3 := Aside0.mk (Rd.of_cells R2.out (fun p hp => K3 p (by rw [hp]; exact hag)))
          clear x0 f0 D3 K3 G3 HD HG
          have HD := HD3
          have HG := HG3
          have R3 := r3
          clear HD3 HG3 r3 R2
          obtain ⟨x0, f0⟩ := IsV.at HD.out 3 _ rfl
          have hr3 : Rd w3 ⟨ad.block, ad.off + 12, none⟩ (L.drop 12) := by
            have := R3.out.drop 12
            rwa [add_pos _ _ (by omega)] at this
          rw [rounds_succ]
          go_wp2
          refine QTail.wp_region_tail (C := fun w' => ∃ n, w' = w3.drewN n) 14 (by kernel_rfl) (by kernel_rfl) ⟨1, rfl⟩ ?_
          simp only [List.take_succ_cons, List.take_zero, List.drop_succ_cons, List.drop_zero]
          repeat (quiet_step (first | (go_at_call 59; exact Calls.quiet_of (low32_calls ⟨ad.block, ad.off + 12, none⟩ _ _ (L.drop 12) _ (hr3.drewN _) (by simp) (by first | omega | (simp; omega)) (HLb.out.drop 12))) | (go_at_call 58; exact Calls.quiet_of (rrot32_calls _ 13 _ (by omega) (by omega) (u32_range _).1 (u32_range _).2))))
          refine wpQuiet_nil ?_
          intro _ hw'
          obtain ⟨nq, hw''⟩ := hw'
          subst hw''
          go_wp2
          obtain ⟨w4, hw4⟩ : ∃ z, z = (w3.drewN nq).setCell ⟨w.heap.size, 3, none⟩ (.int .u32 (X.step32 v.d (X.le32 (L.drop 12)))) := ⟨_, rfl⟩
          have P4 := put_world HD.out nq 3 (.int .u32 (X.step32 v.d (X.le32 (L.drop 12))))
          rw [← hw4] at P4
          unfold X.step32 at hw4
          rw [← hw4]
          clear hw4
          obtain ⟨D4, K4, G4⟩ := P4
          have HD4 := Aside0.mk (show IsV w4 w.heap.size ⟨X.step32 v.a (X.le32 L), X.step32 v.b (X.le32 (L.drop 4)), X.step32 v.c (X.le32 (L.drop 8)), X.step32 v.d (X.le32 (L.drop 12))⟩ from D4)
          have HG4 := Aside0.mk (grown_then HG.out G4)
          have r4 := Aside0.mk (Rd.of_cells R3.out (fun p hp => K4 p (by rw [hp]; exact hag)))
          clear x0 f0 D4 K4 G4 HD HG
          have HD := HD4
          have HG := HG4
          have R4 := r4
          clear HD4 HG4 r4 R3
          rw [rounds_succ]
          go_wp2
          go_roundg k1
          case measure => omega
          case rel =>
            have e1 : l.length - 16 * (j + 1) = L.length - 16 := by have := HeLl.out; omega
            have F4 := Fr.of_grown HG.out
            refine ⟨j + 1, A1, c' - 16, _, by have := Hk.out; omega, by rw [e1], ⟨?_⟩, HD, ⟨?_⟩, by omega, ⟨?_⟩⟩
            · rw [run_snoc, ← HeL.out, ← HE.out]; rfl
            · rw [e1, show l.drop (16 * (j + 1)) = L.drop 16 by rw [HeL.out, List.drop_drop, Nat.mul_succ]]
              have q := HA1.out _ _ _ hnc HA.out
              exact reads_fr F4 q (fun ad' e h0 h => apart_V (e ▸ q) h0 HDr.out (by injection h))
            · exact HBW.out.grown HG.out HBW.out.size (fun k hk => by injection hk with hk; omega)
    · have hbig' : (l.length : Int) < 16 := by omega
      have HH := Aside0.mk (show head32 l.length s (X.run32 (l.length / 16) (X.init32 s) l) = (s + 374761393) % 4294967296 from if_neg hbig)
      have HZ := Aside0.mk (small_rest l (by omega))
      go_wp2
      go_meet
      case rel => exact ⟨by rw [HH.out], A, c, by rw [HZ.out], ⟨by rw [HZ.out]; exact HR.out⟩, by rw [HZ.out]; exact hlc, ⟨Below.refl _ _⟩⟩
  case rest =>
    obtain ⟨rfl, A2, c2, rfl, HR2, hc2, HB2⟩ := hcut
    obtain ⟨r, er⟩ : ∃ r, r = X.rest 16 l := ⟨_, rfl⟩
    rw [← er] at HR2 hc2 ⊢
    have Hr := Aside0.mk er
    have hrl : r.length ≤ 140737488355327 := by rw [er]; exact Nat.le_trans (rest_le _ _) hl
    have Hrb := Aside0.mk (show Bytes r by rw [er]; exact bytes_rest HB.out 16)
    clear er
    obtain ⟨h1, eh1⟩ : ∃ z, z = (head32 l.length s (X.run32 (l.length / 16) (X.init32 s) l) + (l.length : Int) % 4294967296) % 4294967296 := ⟨_, rfl⟩
    have Hh := Aside0.mk eh1
    have Hw := Aside0.mk (show W32 h1 by rw [eh1]; exact w32_mod _)
    clear eh1
    go_upto_region 12 with (fail)
    go_cut [5] (fun v5 wd => v5 = .int .u32 h1 ∧ wd = wc)
    case first =>
      go_wp2
      go_meet
      case rel => exact ⟨congrArg (Value.int .u32) (by rw [Hh.out]), rfl⟩
    case rest =>
    obtain ⟨rfl, rfl⟩ := hcut
    go_wp2
    go_loopg [5, 6] (r.length / 4) (fun kq v5 v6 we => ∃ (j : Nat) (A' : Option Addr) (c' : Nat) (h : Int), kq + j = r.length / 4 ∧ v5 = .int .u32 h ∧ Aside0 (h = X.words32 j h1 r) ∧ v6 = .slice A' (r.length - 4 * j) c' ∧
      Aside0 (ReadsInt wc .u8 A' (r.length - 4 * j) (r.drop (4 * j))) ∧ r.length - 4 * j ≤ c' ∧ ∃ m, we = wc.drewN m)
    case atStart => exact ⟨0, A2, c2, h1, by omega, rfl, ⟨rfl⟩, rfl, HR2, by simpa using hc2, 0, rfl⟩
    case round =>
      obtain ⟨j, A', c', h, hk, rfl, HE, rfl, HA, hnc, m, rfl⟩ := hrel
      obtain ⟨L, eL⟩ : ∃ L, L = r.drop (4 * j) := ⟨_, rfl⟩
      have eLl : r.length - 4 * j = L.length := by rw [eL]; simp
      rw [eLl] at HA hnc ⊢
      rw [← eL] at HA
      have HeL := Aside0.mk eL
      have HeLl := Aside0.mk eLl
      have Hk := Aside0.mk hk
      have HLb := Aside0.mk (show Bytes L by rw [eL]; exact Hrb.out.drop _)
      have hLs : L.length ≤ 140737488355327 := by omega
      have hW := words_range j h1 r Hw.out
      rw [← HE.out] at hW
      obtain ⟨hW0, hW1⟩ := hW
      clear eL eLl hk
      cases gk with
      | zero =>
        have hlt : (L.length : Int) < 4 := by have := HeLl.out; have := Hk.out; have := Nat.div_add_mod r.length 4; have := Nat.mod_lt r.length (show 0 < 4 by decide); omega
        have HF := Aside0.mk (show h = X.words32 (r.length / 4) h1 r ∧ L = X.rest 4 r by
          have := Hk.out
          obtain rfl : j = r.length / 4 := by omega
          exact ⟨HE.out, HeL.out⟩)
        clear HeL HeLl Hk HE
        go_wp2
        go_loopg [5, 6] L.length (fun kq v5 v6 we => ∃ (i : Nat) (A' : Option Addr) (c' : Nat) (q : Int), kq + i = L.length ∧ v5 = .int .u32 q ∧ Aside0 (q = X.bytes32 h (L.take i)) ∧ v6 = .slice A' (L.length - i) c' ∧ Aside0 (ReadsInt wc .u8 A' (L.length - i) (L.drop i)) ∧ L.length - i ≤ c' ∧ ∃ m', we = wc.drewN m')
        case atStart => exact ⟨0, A', c', h, by omega, rfl, ⟨by rw [List.take_zero]; rfl⟩, rfl, HA, by simpa using hnc, _, rfl⟩
        case round =>
          clear HA hnc
          obtain ⟨i, A', c', q, hk, rfl, HQ, rfl, HA, hnc, m', rfl⟩ := hrel
          have hQ := bytes_range (L.take i) h ⟨hW0, hW1⟩
          rw [← HQ.out] at hQ
          obtain ⟨hQ0, hQ1⟩ := hQ
          have Hk := Aside0.mk hk
          clear hk
          cases gk with
          | zero =>
            have hi : i = L.length := by have := Hk.out; omega
            subst hi
            rw [Nat.sub_self]
            go_wp2
            go_ret
            refine ⟨congrArg (fun z => Ending.returned (.int .u32 z)) ?_, pw_below_drewN HB2.out _⟩
            obtain ⟨f1, f2⟩ := HF.out
            have f3 := HQ.out
            rw [List.take_length] at f3
            rw [sum_eq, ← Hh.out, ← Hr.out, X.tail32, ← f1, ← f2, ← f3]
            rfl
          | succ k1 =>
            have hi : i < L.length := by have := Hk.out; omega
            obtain ⟨T, eT⟩ : ∃ T, T = L.drop i := ⟨_, rfl⟩
            have eTl : L.length - i = T.length := by rw [eT]; simp
            rw [eTl] at HA hnc ⊢
            rw [← eT] at HA
            have ht : 0 < T.length := by omega
            have HeT := Aside0.mk eT
            have HeTl := Aside0.mk eTl
            have hts : T.length ≤ 140737488355327 := by omega
            clear eT eTl
            obtain ⟨A1, hcut, hA1⟩ := print_cut (P := Try.prog) 22 5 .i64 Try.underlying22 hi05 hsz5 A' T.length c' 1 ht
            have HA1 := Aside0.mk hA1
            have hcut' : ∀ W : World, (Instr.slice 22 (.slice A' T.length c') (some (.int .i64 1)) none none).run Try.prog W = .ok (.slice A1 (T.length - 1) (c' - 1)) W := hcut
            obtain ⟨ad, rfl, hc⟩ := HA.out.2.2 ht
            have hci : wc.cell? ad = some (.int .u8 (X.at' T 0)) := by have := hc 0 ht; rwa [Addr.add_zero'] at this
            have hTb : X.at' T 0 = X.at' L i := by rw [HeT.out, at_drop]; rfl
            have hb0 : 0 ≤ X.at' T 0 ∧ X.at' T 0 < 256 := by rw [hTb]; exact HLb.out i
            obtain ⟨b0, b1⟩ := hb0
            have HTb := Aside0.mk hTb
            have ht' : (0 : Int) < (T.length : Int) := by omega
            clear hc hA1 hcut hTb
            go_wp2_with (first | (go_at_call 58; refine (rrot32_calls _ 11 _ (by decide) (by decide) (w32_mod _).1 (w32_mod _).2).mono ?_; rintro e w' ⟨rfl, mm, rfl⟩))
            go_roundg k1
            case measure => omega
            case rel =>
              have e1 : L.length - (i + 1) = T.length - 1 := by have := HeTl.out; omega
              refine ⟨i + 1, A1, c' - 1, _, by have := Hk.out; omega, rfl, ⟨?_⟩, by rw [e1], ⟨?_⟩, by omega, _, rfl⟩
              · rw [bytes_snoc _ _ _ hi, ← HQ.out, ← HTb.out]; rfl
              · rw [e1, show L.drop (i + 1) = T.drop 1 by rw [HeT.out, List.drop_drop]]
                exact HA1.out _ _ _ hnc HA.out
      | succ k1 =>
        have hge : 4 ≤ L.length := by have := HeLl.out; have := Hk.out; have := Nat.div_mul_le_self r.length 4; omega
        have hge' : (4 : Int) ≤ (L.length : Int) := by omega
        obtain ⟨ad, rfl, _⟩ := HA.out.2.2 (by omega)
        obtain ⟨A1, hcut, hA1⟩ := print_cut (P := Try.prog) 22 5 .i64 Try.underlying22 hi05 hsz5 (some ad) L.length c' 4 hge
        have HA1 := Aside0.mk hA1
        have hcut' : ∀ W : World, (Instr.slice 22 (.slice (some ad) L.length c') (some (.int .i64 4)) none none).run Try.prog W = .ok (.slice A1 (L.length - 4) (c' - 4)) W := hcut
        clear hA1 hcut
        go_wp2_with (first | (go_at_call 59; refine (low32_calls ad L.length c' L _ ((rd_of_reads HA.out).drewN _) rfl hge HLb.out).mono ?_; rintro e w' ⟨rfl, m', rfl⟩) | (go_at_call 58; refine (rrot32_calls _ 17 _ (by decide) (by decide) (w32_mod _).1 (w32_mod _).2).mono ?_; rintro e w' ⟨rfl, mm, rfl⟩))
        go_roundg k1
        case measure => omega
        case rel =>
          have e1 : r.length - 4 * (j + 1) = L.length - 4 := by have := HeLl.out; omega
          refine ⟨j + 1, A1, c' - 4, _, by have := Hk.out; omega, rfl, ⟨?_⟩, by rw [e1], ⟨?_⟩, by omega, _, rfl⟩
          · rw [words_snoc, ← HeL.out, ← HE.out]; rfl
          · rw [e1, show r.drop (4 * (j + 1)) = L.drop 4 by rw [HeL.out, List.drop_drop, Nat.mul_succ]]
            exact HA1.out _ _ _ hnc HA.out
end Go.Proofs.Ytnkcbkfccbfjpaa.XxhW
