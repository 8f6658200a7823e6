/- The plain law of XxhSeeds: of a text that is shorter than a stripe different seeds have different sums. -/
import Derived.Test.YtnkcbkfccbfjpaaMXxhSeedsx1
import Derived.Test.YtnkcbkfccbfjpaaZk
namespace Go.Proofs.Ytnkcbkfccbfjpaa.Pure
open Go.RowKit Go.Proofs.Ytnkcbkfccbfjpaa.MXxhSeeds Go.Proofs.YtnkcbkfccbfjpaaW.PrintWords Go.Proofs.YtnkcbkfccbfjpaaW.PrintLast Go.Proofs.Ytnkcbkfccbfjpaa.XxhW Go.Proofs.Ytnkcbkfccbfjpaa.XxhP
set_option linter.unusedVariables false
theorem seed_beq {p q s t : Int} (h : p = q → s = t) (h' : s = t → p = q) : (p == q) = (s == t) := by
  rw [Bool.eq_iff_iff, beq_iff_eq, beq_iff_eq]
  exact ⟨h, h'⟩
theorem seeds_j0 (l : List Int) (s t : Int) (hs : W64 s) (ht : W64 t) (hF : ∀ s, W64 s → xxh_Sum64.f s l = some (X.sum64 s l)) : satchellaw02_XxhSeeds.j0 1 l s t false = some true := by
  rw [satchellaw02_XxhSeeds.j0, if_neg (by decide)]
  by_cases c : (l.length : Int) ≥ 32
  · rw [if_pos c]
  · rw [if_neg c, hF s hs, hF t ht, Option.bind_some, Option.bind_some, seed_beq (X.sum64_seed hs ht l (by omega)) (fun e => by rw [e]), beq_self_eq_true]
theorem XxhSeeds : satchellaw02_XxhSeeds.Pure := by
  intro l1 a1 a2 hm hl hb h1 h2
  have hbb := XxhP.bytesB_wf hb
  have hl' : l1.length ≤ 140737488351232 := by omega
  have hF : ∀ s, W64 s → xxh_Sum64.f s l1 = some (X.sum64 s l1) := fun s hs => XxhP.sum64f_eq hs (Nat.le_trans hl' (by decide)) hbb
  have hG : ∀ s, W32 s → xxh_Sum32.f s l1 = some (X.sum32 s l1) := fun s hs => XxhP.sum32f_eq hs (Nat.le_trans hl' (by decide)) hbb
  have w1 : W64 a1 := XxhP.u64_of h1
  have w2 : W64 a2 := XxhP.u64_of h2
  refine ⟨1, ?_⟩
  unfold satchellaw02_XxhSeeds.f satchellaw02_lives.f
  rw [Option.bind_some, if_pos rfl]
  by_cases c : (l1.length : Int) < 16
  · rw [if_pos c, hG _ (w32_mod a1), hG _ (w32_mod a2), Option.bind_some, Option.bind_some, seed_beq (X.sum32_seed (w32_mod a1) (w32_mod a2) l1 (by omega)) (fun e => by rw [e]), bne_self_eq_false]
    exact seeds_j0 l1 a1 a2 w1 w2 hF
  · rw [if_neg c]
    exact seeds_j0 l1 a1 a2 w1 w2 hF
end Go.Proofs.Ytnkcbkfccbfjpaa.Pure
