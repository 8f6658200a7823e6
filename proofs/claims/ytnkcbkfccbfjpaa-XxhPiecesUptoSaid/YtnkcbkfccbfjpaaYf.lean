/- Contracts of the reference's rot64, round and low64. Conditions: the count lies between 1 and 63, words are words, bytes are bytes. -/
import Derived.Test.YtnkcbkfccbfjpaaYd
namespace Go.Proofs.Ytnkcbkfccbfjpaa.XxhW
open Go.RowKit Go.Proofs.YtnkcbkfccbfjpaaW.PrintWords Go.Proofs.YtnkcbkfccbfjpaaW.PrintLast Go.Proofs.YtnkcbkfccbfjpaaW.PrintMore
set_option linter.unusedVariables false
set_option linter.unusedSimpArgs false
theorem rrot64_calls (x k : Int) (w : World) (h0 : 0 < k) (h1 : k < 64) (h2 : 0 ≤ x) (h3 : x < 18446744073709551616) :
    Calls Try.prog 62 #[.int .u64 x, .int .i64 k] w fun e w' => e = .returned (.int .u64 (X.rot64 x k.toNat)) ∧ ∃ m, w' = w.drewN m := by
  have hk0 : 0 ≤ k := by omega
  have hs : IntKind.i64.wrap (64 - k) = 64 - k := IntWalk.i64_in _ ⟨by omega, by omega⟩
  have HT := Aside0.mk (show (64 - k).toNat = 64 - k.toNat by omega)
  have HE := Aside0.mk (rot64_range x k.toNat (by omega) ⟨h2, h3⟩)
  go_enter Try.func62, Try.ntmps62
  go_wp2
  go_quiet (fail)
  go_wp2
  go_ret
  refine ⟨congrArg (fun z => Ending.returned (.int .u64 z)) ?_, _, rfl⟩
  have h := HE.out
  have hT := HT.out
  unfold X.rot64 at h ⊢
  obtain ⟨h4, h5⟩ := h
  rw [← hT] at h4 h5 ⊢
  simp only [u64_mod]
  exact Int.emod_eq_of_lt h4 h5
theorem rround_calls (v x : Int) (w : World) :
    Calls Try.prog 60 #[.int .u64 v, .int .u64 x] w fun e w' => e = .returned (.int .u64 (X.round64 v x)) ∧ ∃ m, w' = w.drewN m := by
  go_enter Try.func60, Try.ntmps60
  go_wp2_with (first | (go_at_call 62; refine (rrot64_calls _ 31 _ (by decide) (by decide) (u64_range _).1 (u64_range _).2).mono ?_; rintro e w' ⟨rfl, m, rfl⟩))
  go_ret
  refine ⟨congrArg (fun z => Ending.returned (.int .u64 z)) ?_, _, rfl⟩
  simp only [u64_mod, X.round64]
  rw [show (v + x * 14029467366897019727 % 18446744073709551616) % 18446744073709551616 = (v + x * 14029467366897019727) % 18446744073709551616 by omega]

set_option maxHeartbeats 2000000 in
set_option maxRecDepth 100000 in
theorem low64_calls (ad : Addr) (n c : Nat) (l : List Int) (w : World) (hr : Rd w ad l) (hn : n = l.length) (h8 : 8 ≤ l.length) (hc : n ≤ c) (hs : l.length ≤ 140737488355327) (hb : Bytes l) :
    Calls Try.prog 61 #[.slice (some ad) n c] w fun e w' => e = .returned (.int .u64 (X.le64 l)) ∧ ∃ m, w' = w.drewN m := by
  subst hn
  have h4' : (4 : Int) ≤ (c : Int) := by omega
  have n4 : ¬ c = 4 := by omega
  have l4 : (4 : Int) ≤ (l.length : Int) := by omega
  have hr4 : Rd w ⟨ad.block, ad.off + 4, none⟩ (l.drop 4) := by
    have := hr.drop 4
    rwa [add_pos _ _ (by omega)] at this
  obtain ⟨p0, q0⟩ := le32_range l hb
  obtain ⟨p1, q1⟩ := le32_range (l.drop 4) (hb.drop 4)
  have G0 := fun m => low32_calls ad l.length c l (w.drewN m) (hr.drewN m) rfl (by omega) hb
  have G4 := fun m => low32_calls ⟨ad.block, ad.off + 4, none⟩ (l.length - 4) (c - 4) (l.drop 4) (w.drewN m) (hr4.drewN m) (by simp) (by simp; omega) (hb.drop 4)
  clear hr hr4 hb
  go_enter Try.func61, Try.ntmps61
  go_wp2
  go_quiet (first | (go_at_call 59; with_reducible exact Calls.quiet_of (G0 _)) | (go_at_call 59; with_reducible exact Calls.quiet_of (G4 _)))
  go_wp2
  go_ret
  refine ⟨congrArg (fun z => Ending.returned (.int .u64 z)) ?_, _, rfl⟩
  unfold X.le64
  first | rfl | (simp only [u64_mod]; omega)
end Go.Proofs.Ytnkcbkfccbfjpaa.XxhW
