/- Contract of xxh's sum (32 bits): what a digest comes to; the digest is only read. Conditions: bytes are bytes, words are words of 32 bits, fewer than 2^47 bytes wait. -/
import Derived.Test.YtnkcbkfccbfjpaaXd
namespace Go.Proofs.Ytnkcbkfccbfjpaa.XxhW
open Go.RowKit Go.Proofs.YtnkcbkfccbfjpaaW.PrintWords Go.Proofs.YtnkcbkfccbfjpaaW.PrintLast Go.Proofs.YtnkcbkfccbfjpaaW.PrintMore
set_option linter.unusedVariables false
set_option linter.unusedSimpArgs false
def W32 (x : Int) : Prop := 0 ≤ x ∧ x < 4294967296
structure Good (v : X.V4) : Prop where
  a : W32 v.a
  b : W32 v.b
  c : W32 v.c
  d : W32 v.d
theorem w32_mod (x : Int) : W32 (x % 4294967296) := ⟨by omega, by omega⟩
theorem good_init (s : Int) (h : W32 s) : Good (X.init32 s) := ⟨w32_mod _, w32_mod _, h, w32_mod _⟩
theorem good_stripe (v : X.V4) (l : List Int) : Good (X.stripe32 v l) := ⟨w32_mod _, w32_mod _, w32_mod _, w32_mod _⟩
theorem good_run (n : Nat) : ∀ (v : X.V4) (l : List Int), Good v → Good (X.run32 n v l) := by
  induction n with
  | zero => intro v l h; exact h
  | succ n ih => intro v l h; exact ih _ _ (good_stripe _ _)
theorem words_snoc (j : Nat) : ∀ (h : Int) (l : List Int), X.words32 (j + 1) h l = X.word32 (X.words32 j h l) (X.le32 (l.drop (4 * j))) := by
  induction j with
  | zero => intro h l; rfl
  | succ j ih =>
    intro h l
    rw [X.words32, ih, X.words32, List.drop_drop]
    congr 3
    omega
theorem words_range (j : Nat) : ∀ (h : Int) (l : List Int), W32 h → W32 (X.words32 j h l) := by
  induction j with
  | zero => intro h l hh; exact hh
  | succ j ih => intro h l hh; exact ih _ _ (w32_mod _)
theorem bytes_snoc (h : Int) (l : List Int) (i : Nat) (hi : i < l.length) : X.bytes32 h (l.take (i + 1)) = X.byte32 (X.bytes32 h (l.take i)) (X.at' l i) := by
  unfold X.bytes32
  rw [List.take_succ_eq_append_getElem hi, List.foldl_append]
  simp [X.at', List.getD_eq_getElem?_getD, List.getElem?_eq_getElem hi]
theorem bytes_range (l : List Int) : ∀ (h : Int), W32 h → W32 (X.bytes32 h l) := by
  induction l with
  | nil => intro h hh; exact hh
  | cons b l ih => intro h hh; exact ih _ (w32_mod _)

/-- How the sum begins. -/
def head32 (N : Nat) (s : Int) (v : X.V4) : Int := if 16 ≤ N then X.merge32 v else (s + 374761393) % 4294967296

set_option maxHeartbeats 8000000 in
set_option maxRecDepth 100000 in
theorem sum_calls (A : Option Addr) (c g N : Nat) (l : List Int) (s : Int) (v : X.V4) (w : World) (hd : IsD w g (.slice A l.length c) N s v) (hr : ReadsInt w .u8 A l.length l) (hlc : l.length ≤ c)
    (hb : Bytes l) (hv : Good v) (hs : W32 s) (hN : N ≤ 4611686018427387904) (hl : l.length ≤ 140737488355327) :
    Calls Try.prog 54 #[.pointer (some ⟨g, 0, none⟩)] w fun e w' => e = .returned (.int .u32 (X.tail32 ((head32 N s v + (N : Int) % 4294967296) % 4294967296) l)) ∧ ∃ m, w' = w.drewN m := by
  have x0 := (IsD.at hd 0 (.slice A l.length c) rfl).1
  have x1 := (IsD.at hd 1 (.int .u64 N) rfl).1
  have x2 := (IsD.at hd 2 (.int .u32 s) rfl).1
  have x3 := (IsD.at hd 3 (.int .u32 v.a) rfl).1
  have x4 := (IsD.at hd 4 (.int .u32 v.b) rfl).1
  have x5 := (IsD.at hd 5 (.int .u32 v.c) rfl).1
  have x6 := (IsD.at hd 6 (.int .u32 v.d) rfl).1
  obtain ⟨va, vb, vc, vd⟩ := hv
  have n0 : (0 : Int) ≤ (N : Int) := by omega
  have n1 : (N : Int) ≤ 4611686018427387904 := by omega
  have HR := Aside0.mk hr
  have HB := Aside0.mk hb
  clear hr hd hb
  obtain ⟨h1, eh1⟩ : ∃ z, z = (head32 N s v + (N : Int) % 4294967296) % 4294967296 := ⟨_, rfl⟩
  rw [← eh1]
  have Hh := Aside0.mk eh1
  have hh1 : W32 h1 := by rw [eh1]; exact w32_mod _
  have Hw := Aside0.mk hh1
  clear eh1 hh1
  obtain ⟨i05, hi05, _, hsz5, _⟩ := info_parts info5
  have H2 := Aside0.mk hs
  go_enter Try.func54, Try.ntmps54
  go_upto_if 17 with (fail)
  go_cut [3] (fun v3 wc => v3 = .int .u32 (head32 N s v) ∧ ∃ m, wc = w.drewN m)
  case first =>
    by_cases hbig : 16 ≤ N
    · have hbig' : (16 : Int) ≤ (N : Int) := by omega
      have HH := Aside0.mk (show head32 N s v = X.merge32 v from if_pos hbig)
      go_wp2
      go_quiet (first | (go_at_call 84; exact Calls.quiet_of_same (rotl32_calls _ _ _ (by decide) (by decide) va.1 va.2)) | (go_at_call 84; exact Calls.quiet_of_same (rotl32_calls _ _ _ (by decide) (by decide) vb.1 vb.2)) | (go_at_call 84; exact Calls.quiet_of_same (rotl32_calls _ _ _ (by decide) (by decide) vc.1 vc.2)) | (go_at_call 84; exact Calls.quiet_of_same (rotl32_calls _ _ _ (by decide) (by decide) vd.1 vd.2)))
      go_wp2
      go_meet
      case rel => exact ⟨congrArg (Value.int .u32) (by rw [HH.out]; unfold X.merge32; omega), _, rfl⟩
    · have hbig' : (N : Int) < 16 := by omega
      have HH := Aside0.mk (show head32 N s v = (s + 374761393) % 4294967296 from if_neg hbig)
      go_wp2
      go_meet
      case rel => exact ⟨by rw [HH.out], 0, rfl⟩
  case rest =>
    obtain ⟨rfl, mc, rfl⟩ := hcut
    have x0' : (w.drewN mc).cell? ⟨g, 0, none⟩ = some (.slice A l.length c) := x0
    have x1' : (w.drewN mc).cell? ⟨g, 1, none⟩ = some (.int .u64 N) := x1
    go_upto_region 5 with (fail)
    go_cut [3, 4] (fun v3 v4 wc => v3 = .int .u32 h1 ∧ v4 = .slice A l.length c ∧ ∃ m, wc = w.drewN m)
    case first =>
      go_wp2
      go_meet
      case rel => exact ⟨congrArg (Value.int .u32) (by rw [Hh.out]), rfl, _, rfl⟩
    case rest =>
    obtain ⟨rfl, rfl, mc2, rfl⟩ := hcut
    clear x0' x1'
    go_wp2
    go_loopg [3, 4] (l.length / 4) (fun kq v3 v4 wc => ∃ (j : Nat) (A' : Option Addr) (c' : Nat) (h : Int), kq + j = l.length / 4 ∧ v3 = .int .u32 h ∧ Aside0 (h = X.words32 j h1 l) ∧ v4 = .slice A' (l.length - 4 * j) c' ∧
      Aside0 (ReadsInt w .u8 A' (l.length - 4 * j) (l.drop (4 * j))) ∧ l.length - 4 * j ≤ c' ∧ ∃ m, wc = w.drewN m)
    case atStart => exact ⟨0, A, c, h1, by omega, rfl, ⟨rfl⟩, rfl, HR, by simpa using hlc, _, rfl⟩
    case round =>
      obtain ⟨j, A', c', h, hk, rfl, HE, rfl, HA, hnc, m, rfl⟩ := hrel
      obtain ⟨L, eL⟩ : ∃ L, L = l.drop (4 * j) := ⟨_, rfl⟩
      have eLl : l.length - 4 * j = L.length := by rw [eL]; simp
      rw [eLl] at HA hnc ⊢
      rw [← eL] at HA
      have HeL := Aside0.mk eL
      have HeLl := Aside0.mk eLl
      have Hk := Aside0.mk hk
      have HLb := Aside0.mk (show Bytes L by rw [eL]; exact HB.out.drop _)
      have hLs : L.length ≤ 140737488355327 := by omega
      have hW := words_range j h1 l Hw.out
      rw [← HE.out] at hW
      obtain ⟨hW0, hW1⟩ := hW
      clear eL eLl hk
      cases gk with
      | zero =>
        have hlt : (L.length : Int) < 4 := by have := HeLl.out; have := Hk.out; have := Nat.div_add_mod l.length 4; have := Nat.mod_lt l.length (show 0 < 4 by decide); omega
        have HF := Aside0.mk (show h = X.words32 (l.length / 4) h1 l ∧ L = X.rest 4 l by
          have := Hk.out
          obtain rfl : j = l.length / 4 := by omega
          exact ⟨HE.out, HeL.out⟩)
        clear HeL HeLl Hk HE
        go_wp2
        go_loopg [3, 72] L.length (fun kq v3 v72 wc => ∃ (i : Nat) (q : Int), kq + i = L.length ∧ v3 = .int .u32 q ∧ Aside0 (q = X.bytes32 h (L.take i)) ∧ v72 = .int .i64 i ∧ ∃ m', wc = w.drewN m')
        case atStart => exact ⟨0, h, by omega, rfl, ⟨by rw [List.take_zero]; rfl⟩, rfl, _, rfl⟩
        case round =>
          obtain ⟨i, q, hk, rfl, HQ, rfl, m', rfl⟩ := hrel
          have hQ := bytes_range (L.take i) h ⟨hW0, hW1⟩
          rw [← HQ.out] at hQ
          obtain ⟨hQ0, hQ1⟩ := hQ
          have Hk := Aside0.mk hk
          clear hk
          cases gk with
          | zero =>
            have hi : i = L.length := by have := Hk.out; omega
            subst hi
            go_wp2
            go_ret
            refine ⟨congrArg (fun z => Ending.returned (.int .u32 z)) ?_, _, rfl⟩
            obtain ⟨f1, f2⟩ := HF.out
            have f3 := HQ.out
            rw [List.take_length] at f3
            rw [X.tail32, ← f1, ← f2, ← f3]
            rfl
          | succ k1 =>
            have hi : i < L.length := by have := Hk.out; omega
            have hi' : (i : Int) < (L.length : Int) := by omega
            have hi0 : (0 : Int) ≤ (i : Int) := by omega
            obtain ⟨ad, rfl, hc⟩ := HA.out.2.2 (by omega)
            have hci : w.cell? (ad.add i) = some (.int .u8 (X.at' L i)) := hc i hi
            obtain ⟨b0, b1⟩ := HLb.out i
            clear hc
            go_wp2_with (first | (go_at_call 84; refine (rotl32_calls _ 11 _ (by decide) (by decide) (w32_mod _).1 (w32_mod _).2).mono ?_; rintro e w' ⟨rfl, rfl⟩))
            go_roundg k1
            case measure => omega
            case rel =>
              refine ⟨i + 1, _, by have := Hk.out; omega, rfl, ⟨?_⟩, by go_num, _, rfl⟩
              rw [bytes_snoc _ _ _ hi, ← HQ.out]
              rfl
      | succ k1 =>
        have hge : 4 ≤ L.length := by have := HeLl.out; have := Hk.out; have := Nat.div_mul_le_self l.length 4; omega
        have hge' : (4 : Int) ≤ (L.length : Int) := by omega
        obtain ⟨ad, rfl, _⟩ := HA.out.2.2 (by omega)
        obtain ⟨A1, hcut, hA1⟩ := print_cut (P := Try.prog) 22 5 .i64 Try.underlying22 hi05 hsz5 (some ad) L.length c' 4 hge
        have HA1 := Aside0.mk hA1
        have hcut' : ∀ W : World, (Instr.slice 22 (.slice (some ad) L.length c') (some (.int .i64 4)) none none).run Try.prog W = .ok (.slice A1 (L.length - 4) (c' - 4)) W := hcut
        clear hA1 hcut
        go_wp2_with (first | (go_at_call 85; refine (get32_calls ad L.length c' L _ ((rd_of_reads HA.out).drewN _) rfl hge HLb.out).mono ?_; rintro e w' ⟨rfl, m', rfl⟩) | (go_at_call 84; refine (rotl32_calls _ 17 _ (by decide) (by decide) (w32_mod _).1 (w32_mod _).2).mono ?_; rintro e w' ⟨rfl, rfl⟩))
        go_roundg k1
        case measure => omega
        case rel =>
          have e1 : l.length - 4 * (j + 1) = L.length - 4 := by have := HeLl.out; omega
          refine ⟨j + 1, A1, c' - 4, _, by have := Hk.out; omega, rfl, ⟨?_⟩, by rw [e1], ⟨?_⟩, by omega, _, rfl⟩
          · rw [words_snoc, ← HeL.out, ← HE.out]; rfl
          · rw [e1, show l.drop (4 * (j + 1)) = L.drop 4 by rw [HeL.out, List.drop_drop, Nat.mul_succ]]
            exact HA1.out _ _ _ hnc HA.out
end Go.Proofs.Ytnkcbkfccbfjpaa.XxhW
