/- Contract of the reference's Sum64: the sum of 64 bits as a plain function of the seed and the bytes. Conditions: the seed is a word of 64 bits, bytes are bytes, fewer than 2^47 of them. -/
import Derived.Test.YtnkcbkfccbfjpaaYe
import Derived.Test.YtnkcbkfccbfjpaaYf
namespace Go.Proofs.Ytnkcbkfccbfjpaa.XxhW
open Go.RowKit Go.Proofs.YtnkcbkfccbfjpaaW.PrintWords Go.Proofs.YtnkcbkfccbfjpaaW.PrintLast Go.Proofs.YtnkcbkfccbfjpaaW.PrintMore
set_option linter.unusedVariables false
set_option linter.unusedSimpArgs false
/-- Four words in an array at block g. -/
def IsU (w : World) (g : Nat) (v : X.V4) : Prop := w.heap[g]? = some (.cells #[.int .u64 v.a, .int .u64 v.b, .int .u64 v.c, .int .u64 v.d] 97 (0, 0))
theorem IsU.at {w : World} {g : Nat} {v : X.V4} (h : IsU w g v) (i : Nat) (u : Value) (hu : (#[.int .u64 v.a, .int .u64 v.b, .int .u64 v.c, .int .u64 v.d] : Array Value)[i]? = some u) :
    w.cell? ⟨g, i, none⟩ = some u ∧ w.frozen? ⟨g, i, none⟩ = false := ⟨(cell_of_row w g i _ 97 (0, 0) h).trans hu, blk_frozen h i⟩
theorem apart_U {w : World} {ad : Addr} {n g : Nat} {v : X.V4} {l : List Int} (hr : ReadsInt w .u8 (some ad) n l) (h0 : 0 < n) (hd : IsU w g v) : ad.block ≠ g :=
  apart_of_reads hr h0 hd (fun o k z h => by
    rcases o with _ | _ | _ | _ | o <;> simp at h
    all_goals (obtain ⟨rfl, _⟩ := h; decide))
theorem esmall_rest (l : List Int) (h : l.length < 32) : X.rest 32 l = l := by unfold X.rest; rw [Nat.div_eq_of_lt h]; rfl

set_option maxHeartbeats 16000000 in
set_option maxRecDepth 100000 in
theorem rSum64_calls (A : Option Addr) (c : Nat) (l : List Int) (s : Int) (w : World) (hr : ReadsInt w .u8 A l.length l) (hlc : l.length ≤ c) (hb : Bytes l) (hs : W64 s) (hl : l.length ≤ 140737488355327) :
    Calls Try.prog 24 #[.int .u64 s, .slice A l.length c] w fun e w' => e = .returned (.int .u64 (X.sum64 s l)) ∧ Below w.heap.size w w' := by
  have HR := Aside0.mk hr
  have HB := Aside0.mk hb
  have HS := Aside0.mk hs
  obtain ⟨hs0, hs1⟩ := hs
  clear hr hb
  have hl0 : (0 : Int) ≤ (l.length : Int) := by omega
  have hl1 : (l.length : Int) ≤ 140737488355327 := by omega
  obtain ⟨i05, hi05, _, hsz5, _⟩ := info_parts info5
  go_enter Try.func24, Try.ntmps24
  go_upto_if 15 with (fail)
  go_cut [5, 6] (fun v5 v6 wc => v5 = .int .u64 (X.head64 l.length s (X.run64 (l.length / 32) (X.init64 s) l)) ∧ ∃ (A' : Option Addr) (c' : Nat), v6 = .slice A' (X.rest 32 l).length c' ∧ Aside0 (ReadsInt wc .u8 A' (X.rest 32 l).length (X.rest 32 l)) ∧ (X.rest 32 l).length ≤ c' ∧ Aside0 (Below w.heap.size w wc))
  case first =>
    by_cases hbig : 32 ≤ l.length
    · have hbig' : (32 : Int) ≤ (l.length : Int) := by omega
      have HH := Aside0.mk (show X.head64 l.length s (X.run64 (l.length / 32) (X.init64 s) l) = X.merge64 (X.run64 (l.length / 32) (X.init64 s) l) from if_pos hbig)
      go_upto_region 4 with (fail)
      go_cut [6, 7] (fun v6 v7 wc => v6 = .slice A l.length c ∧ v7 = .pointer (some ⟨w.heap.size, 0, none⟩) ∧ Aside0 (IsU wc w.heap.size (X.init64 s)) ∧ Aside0 (Below w.heap.size w wc))
      case first =>
        go_wp2
        go_meet
        case rel =>
          refine ⟨rfl, rfl, ⟨?_⟩, ⟨below_alloc (Below.refl _ _) _⟩⟩
          have := heap_alloc_new w (.cells #[.int .u64 (X.init64 s).a, .int .u64 (X.init64 s).b, .int .u64 (X.init64 s).c, .int .u64 (X.init64 s).d] 97)
          simp only [u64_mod]
          simpa [IsU, X.init64] using this
      case rest =>
      obtain ⟨rfl, rfl, HV0, HB0⟩ := hcut
      go_wp2
      go_loopg [6] (l.length / 32) (fun kq v6 wd => ∃ (j : Nat) (A' : Option Addr) (c' : Nat) (v : X.V4), kq + j = l.length / 32 ∧ v6 = .slice A' (l.length - 32 * j) c' ∧ Aside0 (v = X.run64 j (X.init64 s) l) ∧ Aside0 (IsU wd w.heap.size v) ∧
        Aside0 (ReadsInt wd .u8 A' (l.length - 32 * j) (l.drop (32 * j))) ∧ l.length - 32 * j ≤ c' ∧ Aside0 (Below w.heap.size w wd))
      case atStart => exact ⟨0, A, c, _, by omega, rfl, ⟨rfl⟩, HV0, ⟨HR.out.below HB0.out⟩, by simpa using hlc, HB0⟩
      case round =>
        clear HV0 HB0
        obtain ⟨j, A', c', v, hk, rfl, HE, HD, HA, hnc, HBW⟩ := hrel
        obtain ⟨L, eL⟩ : ∃ L, L = l.drop (32 * j) := ⟨_, rfl⟩
        have eLl : l.length - 32 * j = L.length := by rw [eL]; simp
        rw [eLl] at HA hnc ⊢
        rw [← eL] at HA
        have HeL := Aside0.mk eL
        have HeLl := Aside0.mk eLl
        have Hk := Aside0.mk hk
        have HLb := Aside0.mk (show Bytes L by rw [eL]; exact HB.out.drop _)
        have hLs : L.length ≤ 140737488355327 := by omega
        have HvG := Aside0.mk (show Egood v by rw [HE.out]; exact egood_run _ _ _ (egood_init s HS.out))
        clear eL eLl hk
        cases gk with
        | zero =>
          have hlt : (L.length : Int) < 32 := by have := HeLl.out; have := Hk.out; have := Nat.div_add_mod l.length 32; have := Nat.mod_lt l.length (show 0 < 32 by decide); omega
          have x0 := (IsU.at HD.out 0 (.int .u64 v.a) rfl).1
          have x1 := (IsU.at HD.out 1 (.int .u64 v.b) rfl).1
          have x2 := (IsU.at HD.out 2 (.int .u64 v.c) rfl).1
          have x3 := (IsU.at HD.out 3 (.int .u64 v.d) rfl).1
          go_wp2
          go_quiet (first | (go_at_call 62; exact Calls.quiet_of (rrot64_calls _ _ _ (by decide) (by decide) HvG.out.a.1 HvG.out.a.2)) | (go_at_call 62; exact Calls.quiet_of (rrot64_calls _ _ _ (by decide) (by decide) HvG.out.b.1 HvG.out.b.2)) | (go_at_call 62; exact Calls.quiet_of (rrot64_calls _ _ _ (by decide) (by decide) HvG.out.c.1 HvG.out.c.2)) | (go_at_call 62; exact Calls.quiet_of (rrot64_calls _ _ _ (by decide) (by decide) HvG.out.d.1 HvG.out.d.2)))
          go_wp2
          refine wp_loop_rounds 5 ?_
          rw [rounds_succ]
          go_wp2_with (first | (go_at_call 60; refine (rround_calls _ _ _).mono ?_; rintro e w' ⟨rfl, m0, rfl⟩))
          rw [rounds_succ]
          go_wp2_with (first | (go_at_call 60; refine (rround_calls _ _ _).mono ?_; rintro e w' ⟨rfl, m1, rfl⟩))
          rw [rounds_succ]
          go_wp2_with (first | (go_at_call 60; refine (rround_calls _ _ _).mono ?_; rintro e w' ⟨rfl, m2, rfl⟩))
          rw [rounds_succ]
          go_wp2_with (first | (go_at_call 60; refine (rround_calls _ _ _).mono ?_; rintro e w' ⟨rfl, m3, rfl⟩))
          rw [rounds_succ]
          go_wp2
          go_meet
          case rel =>
            have ej : j = l.length / 32 := by have := Hk.out; omega
            have er : X.rest 32 l = L := by rw [X.rest, ← ej]; exact HeL.out.symm
            rw [er]
            refine ⟨congrArg (Value.int .u64) ?_, A', c', rfl, ⟨reads_drawn HA.out _⟩, hnc, ⟨pw_below_drewN HBW.out _⟩⟩
            rw [HH.out, ← ej, ← HE.out]
            simp only [u64_mod, X.merge64, X.fold64, Int.emod_add_emod]
        | succ k1 =>
          have hge : 32 ≤ L.length := by have := HeLl.out; have := Hk.out; have := Nat.div_mul_le_self l.length 32; omega
          have hge' : (32 : Int) ≤ (L.length : Int) := by omega
          obtain ⟨ad, rfl, _⟩ := HA.out.2.2 (by omega)
          have hag : ad.block ≠ w.heap.size := apart_U HA.out (by omega) HD.out
          have hc16 : (32 : Int) ≤ (c' : Int) := by omega
          have n4 : ¬ c' = 8 := by omega
          have n8 : ¬ c' = 16 := by omega
          have n12 : ¬ c' = 24 := by omega
          have z0 : IntKind.i64.wrap 0 = 0 := by decide
          have z4 : IntKind.i64.wrap 8 = 8 := by decide
          have z8 : IntKind.i64.wrap 16 = 16 := by decide
          have z12 : IntKind.i64.wrap 24 = 24 := by decide
          have m4 : (8 : Int) ≤ (L.length : Int) := by omega
          have m8 : (16 : Int) ≤ (L.length : Int) := by omega
          have m12 : (24 : Int) ≤ (L.length : Int) := by omega
          obtain ⟨A1, hcut, hA1⟩ := print_cut (P := Try.prog) 22 5 .i64 Try.underlying22 hi05 hsz5 (some ad) L.length c' 32 hge
          have HA1 := Aside0.mk hA1
          have hcut' : ∀ W : World, (Instr.slice 22 (.slice (some ad) L.length c') (some (.int .i64 32)) none none).run Try.prog W = .ok (.slice A1 (L.length - 32) (c' - 32)) W := hcut
          have HG := Aside0.mk (World.grownBy.refl wr (some w.heap.size))
          have R0 := Aside0.mk (rd_of_reads HA.out)
          have hG := fun m => low64_calls ad L.length c' L (wr.drewN m) (R0.out.drewN m) rfl (by omega) hnc hLs HLb.out
          obtain ⟨x0, f0⟩ := IsU.at HD.out 0 _ rfl
          have HDr := HD
          clear hA1 hcut
          go_wp2
          refine wp_loop_rounds 5 ?_
          rw [rounds_succ]
          go_wp2
          refine QTail.wp_region_tail (C := fun w' => ∃ n, w' = wr.drewN n) 10 (by kernel_rfl) (by kernel_rfl) ⟨1, rfl⟩ ?_
          simp only [List.take_succ_cons, List.take_zero, List.drop_succ_cons, List.drop_zero]
          repeat (quiet_step (first | (go_at_call 61; with_reducible exact Calls.quiet_of (hG _)) | (go_at_call 60; exact Calls.quiet_of (rround_calls _ _ _))))
          refine wpQuiet_nil ?_
          intro _ hw'
          obtain ⟨nq, hw''⟩ := hw'
          subst hw''
          clear hG
          go_wp2
          obtain ⟨w1, hw1⟩ : ∃ z, z = (wr.drewN nq).setCell ⟨w.heap.size, 0, none⟩ (.int .u64 (X.round64 v.a (X.le64 L))) := ⟨_, rfl⟩
          have P1 := put_world HD.out nq 0 (.int .u64 (X.round64 v.a (X.le64 L)))
          rw [← hw1] at P1
          rw [← hw1]
          clear hw1
          obtain ⟨D1, K1, G1⟩ := P1
          have HD1 := Aside0.mk (show IsU w1 w.heap.size ⟨X.round64 v.a (X.le64 L), v.b, v.c, v.d⟩ from D1)
          have HG1 := Aside0.mk (grown_then HG.out G1)
          have r1 := Aside0.mk (Rd.of_cells R0.out (fun p hp => K1 p (by rw [hp]; exact hag)))
          clear x0 f0 D1 K1 G1 HD HG
          have HD := HD1
          have HG := HG1
          have R1 := r1
          clear HD1 HG1 r1 R0
          obtain ⟨x0, f0⟩ := IsU.at HD.out 1 _ rfl
          have hr1 : Rd w1 ⟨ad.block, ad.off + 8, none⟩ (L.drop 8) := by
            have := R1.out.drop 8
            rwa [add_pos _ _ (by omega)] at this
          have hG := fun m => low64_calls ⟨ad.block, ad.off + 8, none⟩ (L.length - 8) (c' - 8) (L.drop 8) (w1.drewN m) (hr1.drewN m) (by simp) (by simp; omega) (by omega) (by simp; omega) (HLb.out.drop 8)
          clear hr1
          rw [rounds_succ]
          go_wp2
          refine QTail.wp_region_tail (C := fun w' => ∃ n, w' = w1.drewN n) 10 (by kernel_rfl) (by kernel_rfl) ⟨1, rfl⟩ ?_
          simp only [List.take_succ_cons, List.take_zero, List.drop_succ_cons, List.drop_zero]
          repeat (quiet_step (first | (go_at_call 61; with_reducible exact Calls.quiet_of (hG _)) | (go_at_call 60; exact Calls.quiet_of (rround_calls _ _ _))))
          refine wpQuiet_nil ?_
          intro _ hw'
          obtain ⟨nq, hw''⟩ := hw'
          subst hw''
          clear hG
          go_wp2
          obtain ⟨w2, hw2⟩ : ∃ z, z = (w1.drewN nq).setCell ⟨w.heap.size, 1, none⟩ (.int .u64 (X.round64 v.b (X.le64 (L.drop 8)))) := ⟨_, rfl⟩
          have P2 := put_world HD.out nq 1 (.int .u64 (X.round64 v.b (X.le64 (L.drop 8))))
          rw [← hw2] at P2
          rw [← hw2]
          clear hw2
          obtain ⟨D2, K2, G2⟩ := P2
          have HD2 := Aside0.mk (show IsU w2 w.heap.size ⟨X.round64 v.a (X.le64 L), X.round64 v.b (X.le64 (L.drop 8)), v.c, v.d⟩ from D2)
          have HG2 := Aside0.mk (grown_then HG.out G2)
          have r2 := Aside0.mk (Rd.of_cells R1.out (fun p hp => K2 p (by rw [hp]; exact hag)))
          clear x0 f0 D2 K2 G2 HD HG
          have HD := HD2
          have HG := HG2
          have R2 := r2
          clear HD2 HG2 r2 R1
          obtain ⟨x0, f0⟩ := IsU.at HD.out 2 _ rfl
          have hr2 : Rd w2 ⟨ad.block, ad.off + 16, none⟩ (L.drop 16) := by
            have := R2.out.drop 16
            rwa [add_pos _ _ (by omega)] at this
          have hG := fun m => low64_calls ⟨ad.block, ad.off + 16, none⟩ (L.length - 16) (c' - 16) (L.drop 16) (w2.drewN m) (hr2.drewN m) (by simp) (by simp; omega) (by omega) (by simp; omega) (HLb.out.drop 16)
          clear hr2
          rw [rounds_succ]
          go_wp2
          refine QTail.wp_region_tail (C := fun w' => ∃ n, w' = w2.drewN n) 10 (by kernel_rfl) (by kernel_rfl) ⟨1, rfl⟩ ?_
          simp only [List.take_succ_cons, List.take_zero, List.drop_succ_cons, List.drop_zero]
          repeat (quiet_step (first | (go_at_call 61; with_reducible exact Calls.quiet_of (hG _)) | (go_at_call 60; exact Calls.quiet_of (rround_calls _ _ _))))
          refine wpQuiet_nil ?_
          intro _ hw'
          obtain ⟨nq, hw''⟩ := hw'
          subst hw''
          clear hG
          go_wp2
          obtain ⟨w3, hw3⟩ : ∃ z, z = (w2.drewN nq).setCell ⟨w.heap.size, 2, none⟩ (.int .u64 (X.round64 v.c (X.le64 (L.drop 16)))) := ⟨_, rfl⟩
          have P3 := put_world HD.out nq 2 (.int .u64 (X.round64 v.c (X.le64 (L.drop 16))))
          rw [← hw3] at P3
          rw [← hw3]
          clear hw3
          obtain ⟨D3, K3, G3⟩ := P3
          have HD3 := Aside0.mk (show IsU w3 w.heap.size ⟨X.round64 v.a (X.le64 L), X.round64 v.b (X.le64 (L.drop 8)), X.round64 v.c (X.le64 (L.drop 16)), v.d⟩ from D3)
          have HG3 := Aside0.mk (grown_then HG.out G3)
          have r3 := Aside0.mk (Rd.of_cells R2.out (fun p hp => K3 p (by rw [hp]; exact hag)))
          clear x0 f0 D3 K3 G3 HD HG
          have HD := HD3
          have HG := HG3
          have R3 := r3
          clear HD3 HG3 r3 R2
          obtain ⟨x0, f0⟩ := IsU.at HD.out 3 _ rfl
          have hr3 : Rd w3 ⟨ad.block, ad.off + 24, none⟩ (L.drop 24) := by
            have := R3.out.drop 24
            rwa [add_pos _ _ (by omega)] at this
          have hG := fun m => low64_calls ⟨ad.block, ad.off + 24, none⟩ (L.length - 24) (c' - 24) (L.drop 24) (w3.drewN m) (hr3.drewN m) (by simp) (by simp; omega) (by omega) (by simp; omega) (HLb.out.drop 24)
          clear hr3
          rw [rounds_succ]
          go_wp2
          refine QTail.wp_region_tail (C := fun w' => ∃ n, w' = w3.drewN n) 10 (by kernel_rfl) (by kernel_rfl) ⟨1, rfl⟩ ?_
          simp only [List.take_succ_cons, List.take_zero, List.drop_succ_cons, List.drop_zero]
          repeat (quiet_step (first | (go_at_call 61; with_reducible exact Calls.quiet_of (hG _)) | (go_at_call 60; exact Calls.quiet_of (rround_calls _ _ _))))
          refine wpQuiet_nil ?_
          intro _ hw'
          obtain ⟨nq, hw''⟩ := hw'
          subst hw''
          clear hG
          go_wp2
          obtain ⟨w4, hw4⟩ : ∃ z, z = (w3.drewN nq).setCell ⟨w.heap.size, 3, none⟩ (.int .u64 (X.round64 v.d (X.le64 (L.drop 24)))) := ⟨_, rfl⟩
          have P4 := put_world HD.out nq 3 (.int .u64 (X.round64 v.d (X.le64 (L.drop 24))))
          rw [← hw4] at P4
          rw [← hw4]
          clear hw4
          obtain ⟨D4, K4, G4⟩ := P4
          have HD4 := Aside0.mk (show IsU w4 w.heap.size ⟨X.round64 v.a (X.le64 L), X.round64 v.b (X.le64 (L.drop 8)), X.round64 v.c (X.le64 (L.drop 16)), X.round64 v.d (X.le64 (L.drop 24))⟩ from D4)
          have HG4 := Aside0.mk (grown_then HG.out G4)
          have r4 := Aside0.mk (Rd.of_cells R3.out (fun p hp => K4 p (by rw [hp]; exact hag)))
          clear x0 f0 D4 K4 G4 HD HG
          have HD := HD4
          have HG := HG4
          have R4 := r4
          clear HD4 HG4 r4 R3
          rw [rounds_succ]
          go_wp2
          go_roundg k1
          case measure => omega
          case rel =>
            have e1 : l.length - 32 * (j + 1) = L.length - 32 := by have := HeLl.out; omega
            have F4 := Fr.of_grown HG.out
            refine ⟨j + 1, A1, c' - 32, _, by have := Hk.out; omega, by rw [e1], ⟨?_⟩, HD, ⟨?_⟩, by omega, ⟨?_⟩⟩
            · rw [erun_snoc, ← HeL.out, ← HE.out]; rfl
            · rw [e1, show l.drop (32 * (j + 1)) = L.drop 32 by rw [HeL.out, List.drop_drop, Nat.mul_succ]]
              have q := HA1.out _ _ _ hnc HA.out
              exact reads_fr F4 q (fun ad' e h0 h => apart_U (e ▸ q) h0 HDr.out (by injection h))
            · exact HBW.out.grown HG.out HBW.out.size (fun k hk => by injection hk with hk; omega)
    · have hbig' : (l.length : Int) < 32 := by omega
      have HH := Aside0.mk (show X.head64 l.length s (X.run64 (l.length / 32) (X.init64 s) l) = (s + 2870177450012600261) % 18446744073709551616 from if_neg hbig)
      have HZ := Aside0.mk (esmall_rest l (by omega))
      go_wp2
      go_meet
      case rel => exact ⟨by rw [HH.out, u64_mod], A, c, by rw [HZ.out], ⟨by rw [HZ.out]; exact HR.out⟩, by rw [HZ.out]; exact hlc, ⟨Below.refl _ _⟩⟩
  case rest =>
    obtain ⟨rfl, A2, c2, rfl, HR2, hc2, HB2⟩ := hcut
    obtain ⟨r, er⟩ : ∃ r, r = X.rest 32 l := ⟨_, rfl⟩
    rw [← er] at HR2 hc2 ⊢
    have Hr := Aside0.mk er
    have hrl : r.length ≤ 140737488355327 := by rw [er]; exact Nat.le_trans (rest_le _ _) hl
    have Hrb := Aside0.mk (show Bytes r by rw [er]; exact bytes_rest HB.out 32)
    clear er
    obtain ⟨h1, eh1⟩ : ∃ z, z = (X.head64 l.length s (X.run64 (l.length / 32) (X.init64 s) l) + (l.length : Int)) % 18446744073709551616 := ⟨_, rfl⟩
    have Hh := Aside0.mk eh1
    have Hw := Aside0.mk (show W64 h1 by rw [eh1]; exact w64_mod _)
    have HT := Aside0.mk (show X.sum64 s l = X.tail64 h1 r by rw [eh1, Hr.out]; rfl)
    clear eh1
    go_upto_region 16 with (fail)
    go_cut [5] (fun v5 wd => v5 = .int .u64 h1 ∧ wd = wc)
    case first =>
      go_wp2
      go_meet
      case rel => exact ⟨congrArg (Value.int .u64) (by rw [Hh.out, u64_mod]), rfl⟩
    case rest =>
    obtain ⟨rfl, rfl⟩ := hcut
    go_upto_block 6 with (fail)
    go_cut [5, 6] (fun v5 v6 we => ∃ (A' : Option Addr) (c' : Nat), v5 = .int .u64 (X.words64 (r.length / 8) h1 r) ∧ v6 = .slice A' (X.rest 8 r).length c' ∧ Aside0 (ReadsInt wc .u8 A' (X.rest 8 r).length (X.rest 8 r)) ∧ (X.rest 8 r).length ≤ c' ∧ ∃ m, we = wc.drewN m)
    case first =>
      go_wp2
      go_loopg [5, 6] (r.length / 8) (fun kq v5 v6 we => ∃ (j : Nat) (A' : Option Addr) (c' : Nat) (h : Int), kq + j = r.length / 8 ∧ v5 = .int .u64 h ∧ Aside0 (h = X.words64 j h1 r) ∧ v6 = .slice A' (r.length - 8 * j) c' ∧
        Aside0 (ReadsInt wc .u8 A' (r.length - 8 * j) (r.drop (8 * j))) ∧ r.length - 8 * j ≤ c' ∧ ∃ m, we = wc.drewN m)
      case atStart => exact ⟨0, A2, c2, h1, by omega, rfl, ⟨rfl⟩, rfl, HR2, by simpa using hc2, 0, rfl⟩
      case round =>
        obtain ⟨j, A', c', h, hk, rfl, HE, rfl, HA, hnc, m, rfl⟩ := hrel
        obtain ⟨L, eL⟩ : ∃ L, L = r.drop (8 * j) := ⟨_, rfl⟩
        have eLl : r.length - 8 * j = L.length := by rw [eL]; simp
        rw [eLl] at HA hnc ⊢
        rw [← eL] at HA
        have HeL := Aside0.mk eL
        have HeLl := Aside0.mk eLl
        have Hk := Aside0.mk hk
        have HLb := Aside0.mk (show Bytes L by rw [eL]; exact Hrb.out.drop _)
        have hLs : L.length ≤ 140737488355327 := by omega
        have hW := ewords_range j h1 r Hw.out
        rw [← HE.out] at hW
        clear eL eLl hk
        cases gk with
        | zero =>
          have hlt : (L.length : Int) < 8 := by have := HeLl.out; have := Hk.out; have := Nat.div_add_mod r.length 8; have := Nat.mod_lt r.length (show 0 < 8 by decide); omega
          go_wp2
          go_meet
          case rel =>
            have ej : j = r.length / 8 := by have := Hk.out; omega
            have er : X.rest 8 r = L := by rw [X.rest, ← ej]; exact HeL.out.symm
            rw [er, ← ej]
            exact ⟨A', c', by rw [HE.out], rfl, HA, hnc, _, rfl⟩
        | succ k1 =>
          have hge : 8 ≤ L.length := by have := HeLl.out; have := Hk.out; have := Nat.div_mul_le_self r.length 8; omega
          have hge' : (8 : Int) ≤ (L.length : Int) := by omega
          obtain ⟨ad, rfl, _⟩ := HA.out.2.2 (by omega)
          obtain ⟨A1, hcut, hA1⟩ := print_cut (P := Try.prog) 22 5 .i64 Try.underlying22 hi05 hsz5 (some ad) L.length c' 8 hge
          have HA1 := Aside0.mk hA1
          have hcut' : ∀ W : World, (Instr.slice 22 (.slice (some ad) L.length c') (some (.int .i64 8)) none none).run Try.prog W = .ok (.slice A1 (L.length - 8) (c' - 8)) W := hcut
          clear hA1 hcut
          go_wp2_with (first | (go_at_call 61; refine (low64_calls ad L.length c' L _ ((rd_of_reads HA.out).drewN _) rfl hge hnc hLs HLb.out).mono ?_; rintro e w' ⟨rfl, m', rfl⟩) | (go_at_call 60; refine (rround_calls _ _ _).mono ?_; rintro e w' ⟨rfl, mm, rfl⟩) | (go_at_call 62; refine (rrot64_calls _ 27 _ (by decide) (by decide) (xor64_range _ _ hW (round64_range _ _)).1 (xor64_range _ _ hW (round64_range _ _)).2).mono ?_; rintro e w' ⟨rfl, mm, rfl⟩))
          go_roundg k1
          case measure => omega
          case rel =>
            have e1 : r.length - 8 * (j + 1) = L.length - 8 := by have := HeLl.out; omega
            refine ⟨j + 1, A1, c' - 8, _, by have := Hk.out; omega, rfl, ⟨?_⟩, by rw [e1], ⟨?_⟩, by omega, _, rfl⟩
            · rw [ewords_snoc, ← HeL.out, ← HE.out]
              simp only [u64_mod, X.word64, Int.emod_add_emod]
              first | done | rfl
            · rw [e1, show r.drop (8 * (j + 1)) = L.drop 8 by rw [HeL.out, List.drop_drop, Nat.mul_succ]]
              exact HA1.out _ _ _ hnc HA.out
    case rest =>
    obtain ⟨A5, c5, rfl, rfl, HA5, hn5, m5, rfl⟩ := hcut
    obtain ⟨h2, eh2⟩ : ∃ z, z = X.words64 (r.length / 8) h1 r := ⟨_, rfl⟩
    obtain ⟨q, eq⟩ : ∃ z, z = X.rest 8 r := ⟨_, rfl⟩
    have HGG := Aside0.mk (show X.sum64 s l = X.fin64 (X.bytes64 (X.mid64 h2 q) (X.rest64 q)) by rw [HT.out, eh2, eq]; rfl)
    have Hw2 : W64 h2 := by rw [eh2]; exact ewords_range _ _ _ Hw.out
    have HRb := Aside0.mk (show Bytes q by rw [eq]; exact Hrb.out.drop _)
    have hql : q.length ≤ 140737488355327 := by rw [eq]; exact Nat.le_trans (rest_le _ _) hrl
    rw [← eq] at HA5 hn5 ⊢
    rw [← eh2]
    clear eq eh2
    go_upto_if 92 with (fail)
    go_cut [5, 6] (fun v5 v6 we => ∃ (A' : Option Addr) (c' : Nat), v5 = .int .u64 (X.mid64 h2 q) ∧ v6 = .slice A' (X.rest64 q).length c' ∧ Aside0 (ReadsInt wc .u8 A' (X.rest64 q).length (X.rest64 q)) ∧ (X.rest64 q).length ≤ c' ∧ ∃ m, we = wc.drewN m)
    case first =>
      by_cases h4 : 4 ≤ q.length
      · have h4' : (4 : Int) ≤ (q.length : Int) := by omega
        have HM := Aside0.mk (show X.mid64 h2 q = X.half64 h2 (X.le32 q) ∧ X.rest64 q = q.drop 4 from ⟨if_pos h4, if_pos h4⟩)
        obtain ⟨ad, rfl, _⟩ := HA5.out.2.2 (by omega)
        obtain ⟨A1, hcut, hA1⟩ := print_cut (P := Try.prog) 22 5 .i64 Try.underlying22 hi05 hsz5 (some ad) q.length c5 4 h4
        have HA1 := Aside0.mk hA1
        have hcut' : ∀ W : World, (Instr.slice 22 (.slice (some ad) q.length c5) (some (.int .i64 4)) none none).run Try.prog W = .ok (.slice A1 (q.length - 4) (c5 - 4)) W := hcut
        obtain ⟨p0, q0⟩ := le32_range q HRb.out
        clear hA1 hcut
        go_wp2_with (first | (go_at_call 59; refine (low32_calls ad q.length c5 q _ ((rd_of_reads HA5.out).drewN _) rfl h4 HRb.out).mono ?_; rintro e w' ⟨rfl, m', rfl⟩) | (go_at_call 62; refine (rrot64_calls _ 23 _ (by decide) (by decide) (xor64_range _ _ Hw2 (u64_range _)).1 (xor64_range _ _ Hw2 (u64_range _)).2).mono ?_; rintro e w' ⟨rfl, mm, rfl⟩))
        go_meet
        case rel =>
          rw [HM.out.1, HM.out.2]
          refine ⟨A1, c5 - 4, congrArg (Value.int .u64) ?_, by rw [List.length_drop], ⟨?_⟩, by rw [List.length_drop]; omega, _, rfl⟩
          · simp only [u64_mod, X.half64, Int.emod_add_emod]
            first | done | rfl
          · rw [List.length_drop]; exact HA1.out _ _ _ hn5 HA5.out
      · have h4' : (q.length : Int) < 4 := by omega
        have HM := Aside0.mk (show X.mid64 h2 q = h2 ∧ X.rest64 q = q from ⟨if_neg h4, if_neg h4⟩)
        go_wp2
        go_meet
        case rel =>
          rw [HM.out.1, HM.out.2]
          exact ⟨A5, c5, rfl, rfl, HA5, hn5, _, rfl⟩
    case rest =>
    obtain ⟨A3, c3, rfl, rfl, HA3, hn3, m3, rfl⟩ := hcut
    obtain ⟨h3, eh3⟩ : ∃ z, z = X.mid64 h2 q := ⟨_, rfl⟩
    obtain ⟨t, et⟩ : ∃ z, z = X.rest64 q := ⟨_, rfl⟩
    have Hw3 := Aside0.mk (show W64 h3 by rw [eh3]; exact mid64_range _ _ Hw2)
    have HTb := Aside0.mk (show Bytes t by
      rw [et]
      by_cases h4 : 4 ≤ q.length
      · rw [X.rest64, if_pos h4]; exact HRb.out.drop _
      · rw [X.rest64, if_neg h4]; exact HRb.out)
    have htl : t.length ≤ 140737488355327 := by rw [et]; unfold X.rest64; split <;> (try rw [List.length_drop]) <;> omega
    rw [← et] at HA3 hn3
    rw [← et, ← eh3]
    have HG2 := Aside0.mk (show X.sum64 s l = X.fin64 (X.bytes64 h3 t) by rw [HGG.out, ← et, ← eh3])
    clear et eh3 HGG
    go_wp2
    go_loopg [5, 6] t.length (fun kq v5 v6 we => ∃ (i : Nat) (A' : Option Addr) (c' : Nat) (z : Int), kq + i = t.length ∧ v5 = .int .u64 z ∧ Aside0 (z = X.bytes64 h3 (t.take i)) ∧ v6 = .slice A' (t.length - i) c' ∧ Aside0 (ReadsInt wc .u8 A' (t.length - i) (t.drop i)) ∧ t.length - i ≤ c' ∧ ∃ m', we = wc.drewN m')
    case atStart => exact ⟨0, A3, c3, h3, by omega, rfl, ⟨by rw [List.take_zero]; rfl⟩, rfl, HA3, by simpa using hn3, _, rfl⟩
    case round =>
      clear HA3 hn3
      obtain ⟨i, A', c', z, hk, rfl, HQ, rfl, HA, hnc, m', rfl⟩ := hrel
      have hQ := ebytes_range (t.take i) h3 Hw3.out
      rw [← HQ.out] at hQ
      have Hk := Aside0.mk hk
      clear hk
      cases gk with
      | zero =>
        have hi : i = t.length := by have := Hk.out; omega
        subst hi
        rw [Nat.sub_self]
        obtain ⟨hz0, hz1⟩ := hQ
        go_wp2
        go_ret
        refine ⟨congrArg (fun z => Ending.returned (.int .u64 z)) ?_, pw_below_drewN HB2.out _⟩
        have f3 := HQ.out
        rw [List.take_length] at f3
        rw [HG2.out, ← f3]
        simp only [X.fin64, u64_mod]
      | succ k1 =>
        have hi : i < t.length := by have := Hk.out; omega
        obtain ⟨T, eT⟩ : ∃ T, T = t.drop i := ⟨_, rfl⟩
        have eTl : t.length - i = T.length := by rw [eT]; simp
        rw [eTl] at HA hnc ⊢
        rw [← eT] at HA
        have ht : 0 < T.length := by omega
        have HeT := Aside0.mk eT
        have HeTl := Aside0.mk eTl
        have hts : T.length ≤ 140737488355327 := by omega
        clear eT eTl
        obtain ⟨A1, hcut, hA1⟩ := print_cut (P := Try.prog) 22 5 .i64 Try.underlying22 hi05 hsz5 A' T.length c' 1 ht
        have HA1 := Aside0.mk hA1
        have hcut' : ∀ W : World, (Instr.slice 22 (.slice A' T.length c') (some (.int .i64 1)) none none).run Try.prog W = .ok (.slice A1 (T.length - 1) (c' - 1)) W := hcut
        obtain ⟨ad, rfl, hc⟩ := HA.out.2.2 ht
        have hci : wc.cell? ad = some (.int .u8 (X.at' T 0)) := by have := hc 0 ht; rwa [Addr.add_zero'] at this
        have hTb : X.at' T 0 = X.at' t i := by rw [HeT.out, at_drop]; rfl
        have hb0 : 0 ≤ X.at' T 0 ∧ X.at' T 0 < 256 := by rw [hTb]; exact HTb.out i
        obtain ⟨b0, b1⟩ := hb0
        have HTb2 := Aside0.mk hTb
        have ht' : (0 : Int) < (T.length : Int) := by omega
        clear hc hA1 hcut hTb
        go_wp2_with (first | (go_at_call 62; refine (rrot64_calls _ 11 _ (by decide) (by decide) (xor64_range _ _ hQ (u64_range _)).1 (xor64_range _ _ hQ (u64_range _)).2).mono ?_; rintro e w' ⟨rfl, mm, rfl⟩))
        go_roundg k1
        case measure => omega
        case rel =>
          have e1 : t.length - (i + 1) = T.length - 1 := by have := HeTl.out; omega
          refine ⟨i + 1, A1, c' - 1, _, by have := Hk.out; omega, rfl, ⟨?_⟩, by rw [e1], ⟨?_⟩, by omega, _, rfl⟩
          · rw [ebytes_snoc _ _ _ hi, ← HQ.out, ← HTb2.out]
            simp only [u64_mod, X.byte64]
            first | done | rfl
          · rw [e1, show t.drop (i + 1) = T.drop 1 by rw [HeT.out, List.drop_drop]]
            exact HA1.out _ _ _ hnc HA.out
end Go.Proofs.Ytnkcbkfccbfjpaa.XxhW
