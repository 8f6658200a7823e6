/- Contract of xxh's sum (64 bits). -/
import Derived.Test.YtnkcbkfccbfjpaaYc
namespace Go.Proofs.Ytnkcbkfccbfjpaa.XxhW
open Go.RowKit Go.Proofs.YtnkcbkfccbfjpaaW.PrintWords Go.Proofs.YtnkcbkfccbfjpaaW.PrintLast Go.Proofs.YtnkcbkfccbfjpaaW.PrintMore
set_option linter.unusedVariables false
set_option linter.unusedSimpArgs false
theorem round64_range (v x : Int) : W64 (X.round64 v x) := w64_mod _
structure Egood (v : X.V4) : Prop where
  a : W64 v.a
  b : W64 v.b
  c : W64 v.c
  d : W64 v.d
theorem egood_init (s : Int) (h : W64 s) : Egood (X.init64 s) := ⟨w64_mod _, w64_mod _, h, w64_mod _⟩
theorem egood_stripe (v : X.V4) (l : List Int) : Egood (X.stripe64 v l) := ⟨w64_mod _, w64_mod _, w64_mod _, w64_mod _⟩
theorem egood_run (n : Nat) : ∀ (v : X.V4) (l : List Int), Egood v → Egood (X.run64 n v l) := by
  induction n with
  | zero => intro v l h; exact h
  | succ n ih => intro v l h; exact ih _ _ (egood_stripe _ _)
theorem ewords_snoc (j : Nat) : ∀ (h : Int) (l : List Int), X.words64 (j + 1) h l = X.word64 (X.words64 j h l) (X.le64 (l.drop (8 * j))) := by
  induction j with
  | zero => intro h l; rfl
  | succ j ih =>
    intro h l
    rw [X.words64, ih, X.words64, List.drop_drop]
    congr 3
    omega
theorem ewords_range (j : Nat) : ∀ (h : Int) (l : List Int), W64 h → W64 (X.words64 j h l) := by
  induction j with
  | zero => intro h l hh; exact hh
  | succ j ih => intro h l hh; exact ih _ _ (w64_mod _)
theorem ebytes_snoc (h : Int) (l : List Int) (i : Nat) (hi : i < l.length) : X.bytes64 h (l.take (i + 1)) = X.byte64 (X.bytes64 h (l.take i)) (X.at' l i) := by
  unfold X.bytes64
  rw [List.take_succ_eq_append_getElem hi, List.foldl_append]
  simp [X.at', List.getD_eq_getElem?_getD, List.getElem?_eq_getElem hi]
theorem ebytes_range (l : List Int) : ∀ (h : Int), W64 h → W64 (X.bytes64 h l) := by
  induction l with
  | nil => intro h hh; exact hh
  | cons b l ih => intro h hh; exact ih _ (w64_mod _)

theorem xor64_range (x y : Int) (hx : W64 x) (hy : W64 y) : W64 (Go.bits .xor .u64 x y) := by
  obtain ⟨a, rfl⟩ := Int.eq_ofNat_of_zero_le hx.1
  obtain ⟨b, rfl⟩ := Int.eq_ofNat_of_zero_le hy.1
  have h1 := hx.2
  have h2 := hy.2
  rw [bits_xor_u64_nat a b (by omega) (by omega)]
  have := Nat.xor_lt_two_pow (n := 64) (x := a) (y := b) (by omega) (by omega)
  exact ⟨by omega, by omega⟩
theorem half64_range (h w : Int) : W64 (X.half64 h w) := w64_mod _
theorem mid64_range (h : Int) (r : List Int) (hh : W64 h) : W64 (X.mid64 h r) := by
  by_cases h4 : 4 ≤ r.length
  · rw [X.mid64, if_pos h4]; exact w64_mod _
  · rw [X.mid64, if_neg h4]; exact hh

set_option maxHeartbeats 8000000 in
set_option maxRecDepth 100000 in
theorem esum_calls (A : Option Addr) (c g N : Nat) (l : List Int) (s : Int) (v : X.V4) (w : World) (hd : IsE w g (.slice A l.length c) N s v) (hr : ReadsInt w .u8 A l.length l) (hlc : l.length ≤ c)
    (hb : Bytes l) (hv : Egood v) (hs : W64 s) (hN : N ≤ 4611686018427387904) (hl : l.length ≤ 140737488355327) :
    Calls Try.prog 57 #[.pointer (some ⟨g, 0, none⟩)] w fun e w' => e = .returned (.int .u64 (X.tail64 ((X.head64 N s v + (N : Int)) % 18446744073709551616) l)) ∧ ∃ m, w' = w.drewN m := by
  have x0 := (IsE.at hd 0 (.slice A l.length c) rfl).1
  have x1 := (IsE.at hd 1 (.int .u64 N) rfl).1
  have x2 := (IsE.at hd 2 (.int .u64 s) rfl).1
  have x3 := (IsE.at hd 3 (.int .u64 v.a) rfl).1
  have x4 := (IsE.at hd 4 (.int .u64 v.b) rfl).1
  have x5 := (IsE.at hd 5 (.int .u64 v.c) rfl).1
  have x6 := (IsE.at hd 6 (.int .u64 v.d) rfl).1
  obtain ⟨va, vb, vc, vd⟩ := hv
  have n0 : (0 : Int) ≤ (N : Int) := by omega
  have n1 : (N : Int) ≤ 4611686018427387904 := by omega
  have HR := Aside0.mk hr
  have HB := Aside0.mk hb
  clear hr hd hb
  obtain ⟨h1, eh1⟩ : ∃ z, z = (X.head64 N s v + (N : Int)) % 18446744073709551616 := ⟨_, rfl⟩
  rw [← eh1]
  have Hh := Aside0.mk eh1
  have hh1 : W64 h1 := by rw [eh1]; exact w64_mod _
  have Hw := Aside0.mk hh1
  clear eh1 hh1
  obtain ⟨i05, hi05, _, hsz5, _⟩ := info_parts info5
  have H2 := Aside0.mk hs
  go_enter Try.func57, Try.ntmps57
  go_upto_if 19 with (fail)
  go_cut [3] (fun v3 wc => v3 = .int .u64 (X.head64 N s v) ∧ ∃ m, wc = w.drewN m)
  case first =>
    by_cases hbig : 32 ≤ N
    · have hbig' : (32 : Int) ≤ (N : Int) := by omega
      have HH := Aside0.mk (show X.head64 N s v = X.merge64 v from if_pos hbig)
      have i0 : ∀ W : World, (Instr.index 97 (.agg #[.int .u64 v.a, .int .u64 v.b, .int .u64 v.c, .int .u64 v.d]) (.int .i64 0)).run Try.prog W = .ok (.int .u64 v.a) W := fun _ => by kernel_rfl
      have i1 : ∀ W : World, (Instr.index 97 (.agg #[.int .u64 v.a, .int .u64 v.b, .int .u64 v.c, .int .u64 v.d]) (.int .i64 1)).run Try.prog W = .ok (.int .u64 v.b) W := fun _ => by kernel_rfl
      have i2 : ∀ W : World, (Instr.index 97 (.agg #[.int .u64 v.a, .int .u64 v.b, .int .u64 v.c, .int .u64 v.d]) (.int .i64 2)).run Try.prog W = .ok (.int .u64 v.c) W := fun _ => by kernel_rfl
      have i3 : ∀ W : World, (Instr.index 97 (.agg #[.int .u64 v.a, .int .u64 v.b, .int .u64 v.c, .int .u64 v.d]) (.int .i64 3)).run Try.prog W = .ok (.int .u64 v.d) W := fun _ => by kernel_rfl
      go_wp2
      go_quiet (first | (go_at_call 89; exact Calls.quiet_of_same (rotl64_calls _ _ _ (by decide) (by decide) va.1 va.2)) | (go_at_call 89; exact Calls.quiet_of_same (rotl64_calls _ _ _ (by decide) (by decide) vb.1 vb.2)) | (go_at_call 89; exact Calls.quiet_of_same (rotl64_calls _ _ _ (by decide) (by decide) vc.1 vc.2)) | (go_at_call 89; exact Calls.quiet_of_same (rotl64_calls _ _ _ (by decide) (by decide) vd.1 vd.2)))
      go_wp2
      refine wp_loop_rounds 5 ?_
      rw [rounds_succ]
      go_wp2_with (first | (go_at_call 87; refine (round_calls _ _ _).mono ?_; rintro e w' ⟨rfl, rfl⟩))
      rw [rounds_succ]
      go_wp2_with (first | (go_at_call 87; refine (round_calls _ _ _).mono ?_; rintro e w' ⟨rfl, rfl⟩))
      rw [rounds_succ]
      go_wp2_with (first | (go_at_call 87; refine (round_calls _ _ _).mono ?_; rintro e w' ⟨rfl, rfl⟩))
      rw [rounds_succ]
      go_wp2_with (first | (go_at_call 87; refine (round_calls _ _ _).mono ?_; rintro e w' ⟨rfl, rfl⟩))
      rw [rounds_succ]
      go_wp2_with (first | (go_at_call 87; refine (round_calls _ _ _).mono ?_; rintro e w' ⟨rfl, rfl⟩))
      go_meet
      case rel => 
        refine ⟨congrArg (Value.int .u64) ?_, _, rfl⟩
        rw [HH.out]
        simp only [u64_mod, X.merge64, X.fold64, Int.emod_add_emod]
    · have hbig' : (N : Int) < 32 := by omega
      have HH := Aside0.mk (show X.head64 N s v = (s + 2870177450012600261) % 18446744073709551616 from if_neg hbig)
      go_wp2
      go_meet
      case rel => exact ⟨by rw [HH.out, u64_mod], 0, rfl⟩
  case rest =>
    obtain ⟨rfl, mc, rfl⟩ := hcut
    have x0' : (w.drewN mc).cell? ⟨g, 0, none⟩ = some (.slice A l.length c) := x0
    have x1' : (w.drewN mc).cell? ⟨g, 1, none⟩ = some (.int .u64 N) := x1
    go_upto_region 10 with (fail)
    go_cut [3, 6] (fun v3 v6 wc => v3 = .int .u64 h1 ∧ v6 = .slice A l.length c ∧ ∃ m, wc = w.drewN m)
    case first =>
      go_wp2
      go_meet
      case rel => exact ⟨congrArg (Value.int .u64) (by rw [Hh.out, u64_mod]), rfl, _, rfl⟩
    case rest =>
    obtain ⟨rfl, rfl, mc2, rfl⟩ := hcut
    clear x0' x1'
    go_upto_block 2 with (fail)
    go_cut [3, 6] (fun v3 v6 wc => ∃ (A' : Option Addr) (c' : Nat), v3 = .int .u64 (X.words64 (l.length / 8) h1 l) ∧ v6 = .slice A' (X.rest 8 l).length c' ∧ Aside0 (ReadsInt w .u8 A' (X.rest 8 l).length (X.rest 8 l)) ∧ (X.rest 8 l).length ≤ c' ∧ ∃ m, wc = w.drewN m)
    case first =>
      go_wp2
      go_loopg [3, 6] (l.length / 8) (fun kq v3 v6 wc => ∃ (j : Nat) (A' : Option Addr) (c' : Nat) (h : Int), kq + j = l.length / 8 ∧ v3 = .int .u64 h ∧ Aside0 (h = X.words64 j h1 l) ∧ v6 = .slice A' (l.length - 8 * j) c' ∧
        Aside0 (ReadsInt w .u8 A' (l.length - 8 * j) (l.drop (8 * j))) ∧ l.length - 8 * j ≤ c' ∧ ∃ m, wc = w.drewN m)
      case atStart => exact ⟨0, A, c, h1, by omega, rfl, ⟨rfl⟩, rfl, HR, by simpa using hlc, _, rfl⟩
      case round =>
        obtain ⟨j, A', c', h, hk, rfl, HE, rfl, HA, hnc, m, rfl⟩ := hrel
        obtain ⟨L, eL⟩ : ∃ L, L = l.drop (8 * j) := ⟨_, rfl⟩
        have eLl : l.length - 8 * j = L.length := by rw [eL]; simp
        rw [eLl] at HA hnc ⊢
        rw [← eL] at HA
        have HeL := Aside0.mk eL
        have HeLl := Aside0.mk eLl
        have Hk := Aside0.mk hk
        have HLb := Aside0.mk (show Bytes L by rw [eL]; exact HB.out.drop _)
        have hLs : L.length ≤ 140737488355327 := by omega
        have hW := ewords_range j h1 l Hw.out
        rw [← HE.out] at hW
        clear eL eLl hk
        cases gk with
        | zero =>
          have hlt : (L.length : Int) < 8 := by have := HeLl.out; have := Hk.out; have := Nat.div_add_mod l.length 8; have := Nat.mod_lt l.length (show 0 < 8 by decide); omega
          go_wp2
          go_meet
          case rel =>
            have ej : j = l.length / 8 := by have := Hk.out; omega
            have er : X.rest 8 l = L := by rw [X.rest, ← ej]; exact HeL.out.symm
            rw [er, ← ej]
            exact ⟨A', c', by rw [HE.out], rfl, HA, hnc, _, rfl⟩
        | succ k1 =>
          have hge : 8 ≤ L.length := by have := HeLl.out; have := Hk.out; have := Nat.div_mul_le_self l.length 8; omega
          have hge' : (8 : Int) ≤ (L.length : Int) := by omega
          obtain ⟨ad, rfl, _⟩ := HA.out.2.2 (by omega)
          obtain ⟨A1, hcut, hA1⟩ := print_cut (P := Try.prog) 22 5 .i64 Try.underlying22 hi05 hsz5 (some ad) L.length c' 8 hge
          have HA1 := Aside0.mk hA1
          have hcut' : ∀ W : World, (Instr.slice 22 (.slice (some ad) L.length c') (some (.int .i64 8)) none none).run Try.prog W = .ok (.slice A1 (L.length - 8) (c' - 8)) W := hcut
          clear hA1 hcut
          go_wp2_with (first | (go_at_call 88; refine (get64_calls ad L.length c' L _ ((rd_of_reads HA.out).drewN _) rfl hge hnc hLs HLb.out).mono ?_; rintro e w' ⟨rfl, m', rfl⟩) | (go_at_call 87; refine (round_calls _ _ _).mono ?_; rintro e w' ⟨rfl, rfl⟩) | (go_at_call 89; refine (rotl64_calls _ 27 _ (by decide) (by decide) (xor64_range _ _ hW (round64_range _ _)).1 (xor64_range _ _ hW (round64_range _ _)).2).mono ?_; rintro e w' ⟨rfl, rfl⟩))
          go_roundg k1
          case measure => omega
          case rel =>
            have e1 : l.length - 8 * (j + 1) = L.length - 8 := by have := HeLl.out; omega
            refine ⟨j + 1, A1, c' - 8, _, by have := Hk.out; omega, rfl, ⟨?_⟩, by rw [e1], ⟨?_⟩, by omega, _, rfl⟩
            · rw [ewords_snoc, ← HeL.out, ← HE.out]
              simp only [u64_mod, X.word64, Int.emod_add_emod]
              first | done | rfl
            · rw [e1, show l.drop (8 * (j + 1)) = L.drop 8 by rw [HeL.out, List.drop_drop, Nat.mul_succ]]
              exact HA1.out _ _ _ hnc HA.out
    case rest =>
    obtain ⟨A2, c2, rfl, rfl, HA2, hn2, m2, rfl⟩ := hcut
    obtain ⟨h2, eh2⟩ : ∃ z, z = X.words64 (l.length / 8) h1 l := ⟨_, rfl⟩
    obtain ⟨r, er⟩ : ∃ z, z = X.rest 8 l := ⟨_, rfl⟩
    have HG := Aside0.mk (show X.tail64 h1 l = X.fin64 (X.bytes64 (X.mid64 h2 r) (X.rest64 r)) by rw [eh2, er]; rfl)
    have Hw2 : W64 h2 := by rw [eh2]; exact ewords_range _ _ _ Hw.out
    have HRb := Aside0.mk (show Bytes r by rw [er]; exact HB.out.drop _)
    have hrl : r.length ≤ 140737488355327 := by rw [er]; exact Nat.le_trans (rest_le _ _) hl
    rw [← er] at HA2 hn2 ⊢
    rw [← eh2]
    clear er eh2
    go_upto_if 88 with (fail)
    go_cut [3, 6] (fun v3 v6 wc => ∃ (A' : Option Addr) (c' : Nat), v3 = .int .u64 (X.mid64 h2 r) ∧ v6 = .slice A' (X.rest64 r).length c' ∧ Aside0 (ReadsInt w .u8 A' (X.rest64 r).length (X.rest64 r)) ∧ ∃ m, wc = w.drewN m)
    case first =>
      by_cases h4 : 4 ≤ r.length
      · have h4' : (4 : Int) ≤ (r.length : Int) := by omega
        have HM := Aside0.mk (show X.mid64 h2 r = X.half64 h2 (X.le32 r) ∧ X.rest64 r = r.drop 4 from ⟨if_pos h4, if_pos h4⟩)
        obtain ⟨ad, rfl, _⟩ := HA2.out.2.2 (by omega)
        obtain ⟨A1, hcut, hA1⟩ := print_cut (P := Try.prog) 22 5 .i64 Try.underlying22 hi05 hsz5 (some ad) r.length c2 4 h4
        have HA1 := Aside0.mk hA1
        have hcut' : ∀ W : World, (Instr.slice 22 (.slice (some ad) r.length c2) (some (.int .i64 4)) none none).run Try.prog W = .ok (.slice A1 (r.length - 4) (c2 - 4)) W := hcut
        obtain ⟨p0, q0⟩ := le32_range r HRb.out
        clear hA1 hcut
        go_wp2_with (first | (go_at_call 85; refine (get32_calls ad r.length c2 r _ ((rd_of_reads HA2.out).drewN _) rfl h4 HRb.out).mono ?_; rintro e w' ⟨rfl, m', rfl⟩) | (go_at_call 89; refine (rotl64_calls _ 23 _ (by decide) (by decide) (xor64_range _ _ Hw2 (u64_range _)).1 (xor64_range _ _ Hw2 (u64_range _)).2).mono ?_; rintro e w' ⟨rfl, rfl⟩))
        go_meet
        case rel =>
          rw [HM.out.1, HM.out.2]
          refine ⟨A1, c2 - 4, congrArg (Value.int .u64) ?_, by rw [List.length_drop], ⟨?_⟩, _, rfl⟩
          · simp only [u64_mod, X.half64, Int.emod_add_emod]
            first | done | rfl
          · rw [List.length_drop]; exact HA1.out _ _ _ hn2 HA2.out
      · have h4' : (r.length : Int) < 4 := by omega
        have HM := Aside0.mk (show X.mid64 h2 r = h2 ∧ X.rest64 r = r from ⟨if_neg h4, if_neg h4⟩)
        go_wp2
        go_meet
        case rel =>
          rw [HM.out.1, HM.out.2]
          exact ⟨A2, c2, rfl, rfl, HA2, _, rfl⟩
    case rest =>
    obtain ⟨A3, c3, rfl, rfl, HA3, m3, rfl⟩ := hcut
    obtain ⟨h3, eh3⟩ : ∃ z, z = X.mid64 h2 r := ⟨_, rfl⟩
    obtain ⟨t, et⟩ : ∃ z, z = X.rest64 r := ⟨_, rfl⟩
    have Hw3 := Aside0.mk (show W64 h3 by rw [eh3]; exact mid64_range _ _ Hw2)
    have HTb := Aside0.mk (show Bytes t by
      rw [et]
      by_cases h4 : 4 ≤ r.length
      · rw [X.rest64, if_pos h4]; exact HRb.out.drop _
      · rw [X.rest64, if_neg h4]; exact HRb.out)
    have htl : t.length ≤ 140737488355327 := by rw [et]; unfold X.rest64; split <;> (try rw [List.length_drop]) <;> omega
    rw [← et] at HA3
    rw [← et, ← eh3]
    have HG2 := Aside0.mk (show X.tail64 h1 l = X.fin64 (X.bytes64 h3 t) by rw [HG.out, ← et, ← eh3])
    clear et eh3 HG
    go_wp2
    go_loopg [3, 102] t.length (fun kq v3 v102 wc => ∃ (i : Nat) (q : Int), kq + i = t.length ∧ v3 = .int .u64 q ∧ Aside0 (q = X.bytes64 h3 (t.take i)) ∧ v102 = .int .i64 i ∧ ∃ m', wc = w.drewN m')
    case atStart => exact ⟨0, h3, by omega, rfl, ⟨by rw [List.take_zero]; rfl⟩, rfl, _, rfl⟩
    case round =>
      obtain ⟨i, q, hk, rfl, HQ, rfl, m', rfl⟩ := hrel
      have hQ := ebytes_range (t.take i) h3 Hw3.out
      rw [← HQ.out] at hQ
      have Hk := Aside0.mk hk
      clear hk
      cases gk with
      | zero =>
        have hi : i = t.length := by have := Hk.out; omega
        subst hi
        obtain ⟨hq0, hq1⟩ := hQ
        go_wp2
        go_ret
        refine ⟨congrArg (fun z => Ending.returned (.int .u64 z)) ?_, _, rfl⟩
        have f3 := HQ.out
        rw [List.take_length] at f3
        rw [HG2.out, ← f3]
        simp only [X.fin64, u64_mod]
      | succ k1 =>
        have hi : i < t.length := by have := Hk.out; omega
        have hi' : (i : Int) < (t.length : Int) := by omega
        have hi0 : (0 : Int) ≤ (i : Int) := by omega
        obtain ⟨ad, rfl, hc⟩ := HA3.out.2.2 (by omega)
        have hci : w.cell? (ad.add i) = some (.int .u8 (X.at' t i)) := hc i hi
        obtain ⟨b0, b1⟩ := HTb.out i
        clear hc
        go_wp2_with (first | (go_at_call 89; refine (rotl64_calls _ 11 _ (by decide) (by decide) (xor64_range _ _ hQ (u64_range _)).1 (xor64_range _ _ hQ (u64_range _)).2).mono ?_; rintro e w' ⟨rfl, rfl⟩))
        go_roundg k1
        case measure => omega
        case rel =>
          refine ⟨i + 1, _, by have := Hk.out; omega, rfl, ⟨?_⟩, by go_num, _, rfl⟩
          rw [ebytes_snoc _ _ _ hi, ← HQ.out]
          simp only [u64_mod, X.byte64]
          first | done | rfl
end Go.Proofs.Ytnkcbkfccbfjpaa.XxhW
