/- Contracts of the reference's rot32 and low32. Conditions: the count lies between 1 and 31, words are words, bytes are bytes. -/
import Derived.Test.YtnkcbkfccbfjpaaXe
namespace Go.Proofs.Ytnkcbkfccbfjpaa.XxhW
open Go.RowKit Go.Proofs.YtnkcbkfccbfjpaaW.PrintWords Go.Proofs.YtnkcbkfccbfjpaaW.PrintLast Go.Proofs.YtnkcbkfccbfjpaaW.PrintMore
set_option linter.unusedVariables false
set_option linter.unusedSimpArgs false
theorem rot32_range (x : Int) (k : Nat) (hk : k ≤ 32) (h : W32 x) : W32 (X.rot32 x k) := by
  obtain ⟨a, b, c, d, e, g⟩ := rot_parts 32 k x 4294967296 hk (by decide) h.1 h.2
  obtain ⟨q, hq⟩ : ∃ q, q = (x * 2 ^ k) % 4294967296 := ⟨_, rfl⟩
  obtain ⟨p, hp⟩ : ∃ p, p = (2 : Int) ^ k := ⟨_, rfl⟩
  have hm : ∃ t : Int, (4294967296 : Int) = t * p := ⟨2 ^ (32 - k), by rw [hp, ← Int.pow_add, Nat.sub_add_cancel hk]; decide⟩
  unfold X.rot32
  rw [← hq] at a b c ⊢
  rw [← hp] at a e
  refine ⟨by omega, ?_⟩
  obtain ⟨t, ht⟩ := hm
  have hdv : q = p * (q / p) := by
    have := Int.mul_ediv_add_emod q p
    rw [a] at this; omega
  have hpp : 0 < p := by rw [hp]; exact Int.pow_pos (by decide)
  have hlt : q / p < t := by
    rcases Int.lt_or_le (q / p) t with h | h
    · exact h
    · have := Int.mul_le_mul_of_nonneg_left h (Int.le_of_lt hpp)
      rw [Int.mul_comm p t, ← ht, ← hdv] at this
      omega
  have := Int.mul_le_mul_of_nonneg_left (show q / p ≤ t - 1 by omega) (Int.le_of_lt hpp)
  rw [← hdv, Int.mul_sub, Int.mul_comm p t, ← ht, Int.mul_one] at this
  omega

theorem rrot32_calls (x k : Int) (w : World) (h0 : 0 < k) (h1 : k < 32) (h2 : 0 ≤ x) (h3 : x < 4294967296) :
    Calls Try.prog 58 #[.int .u32 x, .int .i64 k] w fun e w' => e = .returned (.int .u32 (X.rot32 x k.toNat)) ∧ ∃ m, w' = w.drewN m := by
  have hk0 : 0 ≤ k := by omega
  have hk1 : 0 ≤ 32 - k := by omega
  have hk2 : k ≤ 32 := by omega
  have hk3 : 32 - k ≤ 32 := by omega
  have hs : IntKind.i64.wrap (32 - k) = 32 - k := IntWalk.i64_in _ ⟨by omega, by omega⟩
  have HT := Aside0.mk (show (32 - k).toNat = 32 - k.toNat by omega)
  have HE := Aside0.mk (rot32_range x k.toNat (by omega) ⟨h2, h3⟩)
  go_enter Try.func58, Try.ntmps58
  go_wp2
  go_quiet (fail)
  go_wp2
  go_ret
  refine ⟨congrArg (fun z => Ending.returned (.int .u32 z)) ?_, _, rfl⟩
  have h := HE.out
  have hT := HT.out
  unfold X.rot32 at h ⊢
  obtain ⟨h4, h5⟩ := h
  rw [← hT] at h4 h5 ⊢
  exact Int.emod_eq_of_lt h4 h5

theorem low32_calls (ad : Addr) (n c : Nat) (l : List Int) (w : World) (hr : Rd w ad l) (hn : n = l.length) (h4 : 4 ≤ l.length) (hb : Bytes l) :
    Calls Try.prog 59 #[.slice (some ad) n c] w fun e w' => e = .returned (.int .u32 (X.le32 l)) ∧ ∃ m, w' = w.drewN m := by
  subst hn
  have h0 := hr 0 (by omega)
  have h1 := hr 1 (by omega)
  have h2 := hr 2 (by omega)
  have h3 := hr 3 (by omega)
  rw [Addr.add_zero'] at h0
  rw [add_pos _ _ (by omega)] at h1 h2 h3
  obtain ⟨p0, q0⟩ := hb 0
  obtain ⟨p1, q1⟩ := hb 1
  obtain ⟨p2, q2⟩ := hb 2
  obtain ⟨p3, q3⟩ := hb 3
  have l0 : 0 < l.length := by omega
  have l1 : 1 < l.length := by omega
  have l2 : 2 < l.length := by omega
  have l3 : 3 < l.length := by omega
  have m0 : (0 : Int) < (l.length : Int) := by omega
  have m1 : (1 : Int) < (l.length : Int) := by omega
  have m2 : (2 : Int) < (l.length : Int) := by omega
  have m3 : (3 : Int) < (l.length : Int) := by omega
  clear hb hr
  go_enter Try.func59, Try.ntmps59
  go_wp2
  go_quiet (fail)
  go_wp2
  go_ret
  exact ⟨congrArg (fun z => Ending.returned (.int .u32 z)) (by unfold X.le32; first | rfl | omega), _, rfl⟩
end Go.Proofs.Ytnkcbkfccbfjpaa.XxhW
