/- LzSmall: the plain law. -/
import Derived.Test.YtnomebkdhjigjaaJLzSmall
namespace Go.Proofs.Ytnomebkdhjigjaa.Pure
open Go.RowKit Go.Proofs.Ytnomebkdhjigjaa.QLzSmall Go.Proofs.Ytnomebkdhjigjaa.Z Go.Proofs.YtnomebkdhjigjaaW.PrintWords Go.Proofs.YtnomebkdhjigjaaW.PrintLast
theorem bound_some (n : Int) : ∃ v, lz_Bound.f n = some v ∧ satchelref03_Bound.f n = some v := by
  unfold lz_Bound.f satchelref03_Bound.f
  split
  · exact ⟨_, rfl, rfl⟩
  · split
    · exact ⟨_, rfl, rfl⟩
    · exact ⟨_, rfl, rfl⟩
theorem small_l0 (x : Int) (hx : 0 ≤ x ∧ x < 256) (n : Nat) (h1 : 64 ≤ n) (h2 : n ≤ 4194304) : ∀ (j k i : Nat), i + j = n → j < k → satchellaw03_LzSmall.l0 k x (n : Int) (List.replicate i x ++ List.replicate j 0) (i : Int) = some true := by
  intro j
  induction j with
  | zero =>
    intro k i hi hk
    obtain ⟨k, rfl⟩ : ∃ q, k = q + 1 := ⟨k - 1, by omega⟩
    have hin : i = n := by omega
    subst hin
    rw [satchellaw03_LzSmall.l0, if_neg (by omega)]
    have e1 : List.replicate i x ++ List.replicate 0 (0 : Int) = List.replicate i x := by simp
    have hb : W.bytesB (List.replicate i x) = true := by
      unfold W.bytesB
      rw [List.all_eq_true]
      intro y hy
      rw [(List.mem_replicate.1 hy).2]
      simp
      omega
    have e2 : lz_Encode.f (List.replicate i x) [] = some ((W.encA (List.replicate i x) []).flatMap W.putP, 0) := by
      unfold lz_Encode.f
      rw [if_pos ⟨by simp; omega, by simp, hb, rfl⟩]
      unfold W.encode
      rw [if_neg (by simp; omega)]
    rw [e1, e2, Option.bind_some]
    have hs := W.small_rep x i h1
    have w1 : wrap64 (Int.tdiv (i : Int) 200) = (i : Int) / 200 := by
      rw [Int.tdiv_eq_ediv_of_nonneg (by omega)]
      exact IntWalk.wrap64_in _ (by omega)
    have w2 : wrap64 (32 + wrap64 (Int.tdiv (i : Int) 200)) = 32 + (i : Int) / 200 := by
      rw [w1]
      exact IntWalk.wrap64_in _ (by omega)
    rw [w2]
    clear w1 w2
    rw [if_pos rfl, if_pos (by have := hs.1; show ((((W.encA (List.replicate i x) []).flatMap W.putP).length : Nat) : Int) > 0; omega), decide_eq_true hs.2]
  | succ j ih =>
    intro k i hi hk
    obtain ⟨k, rfl⟩ : ∃ q, k = q + 1 := ⟨k - 1, by omega⟩
    rw [satchellaw03_LzSmall.l0, if_pos (by omega), if_pos (by omega), if_pos (by simp; omega)]
    have w1 : wrap64 ((i : Int) + 1) = ((i + 1 : Nat) : Int) := by rw [IntWalk.wrap64_in _ (by omega)]; omega
    have es : (List.replicate i x ++ List.replicate (j + 1) (0 : Int)).set (i : Int).toNat x = List.replicate (i + 1) x ++ List.replicate j 0 := by
      rw [show (i : Int).toNat = i by omega, List.set_append_right _ _ (by simp), List.length_replicate, Nat.sub_self, List.replicate_succ (n := j), List.set_cons_zero, List.replicate_succ' (n := i), List.append_assoc]
      rfl
    rw [w1, es]
    exact ih k (i + 1) (by omega) (by omega)
theorem LzSmall : satchellaw03_LzSmall.Pure := by
  intro a0 a1 w0 w1
  simp only [Lit.wf, show IntKind.u8.min = 0 from rfl, show IntKind.u8.max = 255 from rfl, Bool.and_eq_true, decide_eq_true_eq] at w0
  obtain ⟨v, hv1, hv2⟩ := bound_some a1
  by_cases c1 : a1 < 64
  · refine ⟨1, ?_⟩
    unfold satchellaw03_LzSmall.f
    rw [if_pos c1, satchellaw03_LzSmall.j0, if_pos rfl, hv1, Option.bind_some, hv2, Option.bind_some]
    simp
  · by_cases c2 : a1 > 4194304
    · refine ⟨1, ?_⟩
      unfold satchellaw03_LzSmall.f
      rw [if_neg c1, decide_eq_true c2, satchellaw03_LzSmall.j0, if_pos rfl, hv1, Option.bind_some, hv2, Option.bind_some]
      simp
    · obtain ⟨n, rfl⟩ : ∃ n : Nat, a1 = (n : Int) := ⟨a1.toNat, by omega⟩
      refine ⟨n + 2, ?_⟩
      unfold satchellaw03_LzSmall.f
      rw [if_neg c1, decide_eq_false c2, satchellaw03_LzSmall.j0, if_neg (by decide), if_pos (by omega), if_pos (by omega)]
      exact small_l0 a0 (by omega) n (by omega) (by omega) n (n + 1) 0 (by omega) (by omega)
end Go.Proofs.Ytnomebkdhjigjaa.Pure
