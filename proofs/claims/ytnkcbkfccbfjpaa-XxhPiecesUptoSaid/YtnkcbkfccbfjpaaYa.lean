/- Contracts of xxh's small functions of 64 bits: RotateLeft64, round, get64. -/
import Derived.Test.YtnkcbkfccbfjpaaXh
import Derived.Test.YtnkcbkfccbfjpaaYm
namespace Go.Proofs.Ytnkcbkfccbfjpaa.XxhW
open Go.RowKit Go.Proofs.YtnkcbkfccbfjpaaW.PrintWords Go.Proofs.YtnkcbkfccbfjpaaW.PrintLast Go.Proofs.YtnkcbkfccbfjpaaW.PrintMore
set_option linter.unusedVariables false
set_option linter.unusedSimpArgs false
def W64 (x : Int) : Prop := 0 ≤ x ∧ x < 18446744073709551616
theorem w64_mod (x : Int) : W64 (x % 18446744073709551616) := ⟨by omega, by omega⟩
theorem u64_mod (x : Int) : IntKind.u64.wrap x = x % 18446744073709551616 := IntKind.wrap_u64 x
theorem u64_range (x : Int) : 0 ≤ IntKind.u64.wrap x ∧ IntKind.u64.wrap x < 18446744073709551616 := by rw [u64_mod]; omega
theorem and63 (k : Int) (h0 : 0 ≤ k) (h1 : k < 64) : Go.bits .and .u64 k 63 = k := by
  have := bits_mask .u64 64 (by decide) (fun n a b => wraps_u64 n a (by simpa using b)) 6 (by decide) k h0 (by omega)
  rw [show (2 : Int) ^ 6 - 1 = 63 by decide] at this
  rw [this]; omega
theorem rot64_or (x : Int) (k : Nat) (hk : k ≤ 64) (h0 : 0 ≤ x) (h1 : x < 18446744073709551616) : Go.bits .or .u64 (x * 2 ^ k % 18446744073709551616) (x / 2 ^ (64 - k)) = X.rot64 x k := by
  obtain ⟨a, b, c, d, e, g⟩ := rot_parts 64 k x 18446744073709551616 hk (by decide) h0 h1
  exact bits_join .u64 64 (by decide) (fun n a b => wraps_u64 n a (by simpa using b)) k _ _ b a (by simpa using c) d e (by simpa using g)
theorem rotl64_calls (x k : Int) (w : World) (h0 : 0 < k) (h1 : k < 64) (h2 : 0 ≤ x) (h3 : x < 18446744073709551616) :
    Calls Try.prog 89 #[.int .u64 x, .int .i64 k] w fun e w' => e = .returned (.int .u64 (X.rot64 x k.toNat)) ∧ w' = w := by
  have hw := wraps_u64 k (by omega) (by omega)
  have hk := and63 k (by omega) h1
  have hs := wraps_u64 (64 - k) (by omega) (by omega)
  have hk0 : 0 ≤ k := by omega
  have HE := Lib.hid (rot64_or x k.toNat (by omega) h2 h3)
  have HT := Lib.hid (show (64 - k).toNat = 64 - k.toNat by omega)
  go_enter Try.func89, Try.ntmps89
  go_wp2
  go_ret
  refine ⟨congrArg (fun z => Ending.returned (.int .u64 z)) ?_, rfl⟩
  show Go.bits .or .u64 (IntKind.u64.wrap (x * 2 ^ k.toNat)) (x / 2 ^ (64 - k).toNat) = _
  rw [HT.out, u64_mod, HE.out]

theorem rot64_range (x : Int) (k : Nat) (hk : k ≤ 64) (h : W64 x) : W64 (X.rot64 x k) := by
  obtain ⟨a, b, c, d, e, g⟩ := rot_parts 64 k x 18446744073709551616 hk (by decide) h.1 h.2
  obtain ⟨q, hq⟩ : ∃ q, q = (x * 2 ^ k) % 18446744073709551616 := ⟨_, rfl⟩
  obtain ⟨p, hp⟩ : ∃ p, p = (2 : Int) ^ k := ⟨_, rfl⟩
  have hm : ∃ t : Int, (18446744073709551616 : Int) = t * p := ⟨2 ^ (64 - k), by rw [hp, ← Int.pow_add, Nat.sub_add_cancel hk]; decide⟩
  unfold X.rot64
  rw [← hq] at a b c ⊢
  rw [← hp] at a e
  refine ⟨by omega, ?_⟩
  obtain ⟨t, ht⟩ := hm
  have hdv : q = p * (q / p) := by
    have := Int.mul_ediv_add_emod q p
    rw [a] at this; omega
  have hpp : 0 < p := by rw [hp]; exact Int.pow_pos (by decide)
  have hlt : q / p < t := by
    rcases Int.lt_or_le (q / p) t with h | h
    · exact h
    · have := Int.mul_le_mul_of_nonneg_left h (Int.le_of_lt hpp)
      rw [Int.mul_comm p t, ← ht, ← hdv] at this
      omega
  have := Int.mul_le_mul_of_nonneg_left (show q / p ≤ t - 1 by omega) (Int.le_of_lt hpp)
  rw [← hdv, Int.mul_sub, Int.mul_comm p t, ← ht, Int.mul_one] at this
  omega

theorem round_calls (v x : Int) (w : World) :
    Calls Try.prog 87 #[.int .u64 v, .int .u64 x] w fun e w' => e = .returned (.int .u64 (X.round64 v x)) ∧ w' = w := by
  go_enter Try.func87, Try.ntmps87
  go_wp2_with (first | (go_at_call 89; refine (rotl64_calls _ 31 _ (by decide) (by decide) (u64_range _).1 (u64_range _).2).mono ?_; rintro e w' ⟨rfl, rfl⟩))
  go_ret
  refine ⟨congrArg (fun z => Ending.returned (.int .u64 z)) ?_, rfl⟩
  simp only [u64_mod, X.round64]
  rw [show (v + x * 14029467366897019727 % 18446744073709551616) % 18446744073709551616 = (v + x * 14029467366897019727) % 18446744073709551616 by omega]

set_option maxHeartbeats 400000 in
set_option maxRecDepth 100000 in
theorem get64_calls (ad : Addr) (n c : Nat) (l : List Int) (w : World) (hr : Rd w ad l) (hn : n = l.length) (h8 : 8 ≤ l.length) (hc : n ≤ c) (hs : l.length ≤ 140737488355327) (hb : Bytes l) :
    Calls Try.prog 88 #[.slice (some ad) n c] w fun e w' => e = .returned (.int .u64 (X.le64 l)) ∧ ∃ m, w' = w.drewN m := by
  subst hn
  have h4' : (4 : Int) ≤ (c : Int) := by omega
  have n4 : ¬ c = 4 := by omega
  have l4 : (4 : Int) ≤ (l.length : Int) := by omega
  have hr4 : Rd w ⟨ad.block, ad.off + 4, none⟩ (l.drop 4) := by
    have := hr.drop 4
    rwa [add_pos _ _ (by omega)] at this
  obtain ⟨p0, q0⟩ := le32_range l hb
  obtain ⟨p1, q1⟩ := le32_range (l.drop 4) (hb.drop 4)
  have G0 := fun m => get32_calls ad l.length c l (w.drewN m) (hr.drewN m) rfl (by omega) hb
  have G4 := fun m => get32_calls ⟨ad.block, ad.off + 4, none⟩ (l.length - 4) (c - 4) (l.drop 4) (w.drewN m) (hr4.drewN m) (by simp) (by simp; omega) (hb.drop 4)
  clear hr hr4 hb
  go_enter Try.func88, Try.ntmps88
  go_wp2
  go_quiet (first | (go_at_call 85; with_reducible exact Calls.quiet_of (G0 _)) | (go_at_call 85; with_reducible exact Calls.quiet_of (G4 _)))
  go_wp2
  go_ret
  refine ⟨congrArg (fun z => Ending.returned (.int .u64 z)) ?_, _, rfl⟩
  exact or64 32 _ _ (by omega) (by omega) (by omega) (by omega) (by omega) (by omega)
end Go.Proofs.Ytnkcbkfccbfjpaa.XxhW
