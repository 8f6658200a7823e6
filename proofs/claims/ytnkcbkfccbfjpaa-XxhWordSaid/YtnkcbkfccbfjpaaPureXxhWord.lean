/- The plain law of XxhWord: a number of four bytes that differs, or one of the last bytes, is told by the sum of 32 bits. -/
import Derived.Test.YtnkcbkfccbfjpaaMXxhWordx2
import Derived.Test.YtnkcbkfccbfjpaaZk
namespace Go.Proofs.Ytnkcbkfccbfjpaa.Pure
open Go.RowKit Go.Proofs.Ytnkcbkfccbfjpaa.MXxhWord Go.Proofs.YtnkcbkfccbfjpaaW.PrintWords Go.Proofs.YtnkcbkfccbfjpaaW.PrintLast Go.Proofs.Ytnkcbkfccbfjpaa.XxhW Go.Proofs.Ytnkcbkfccbfjpaa.XxhP
set_option linter.unusedVariables false
theorem word_end (F : Int → List Int → Option Int) (s : Int) (hs : W32 s) (b x : List Int) (hF : ∀ y, y.length = b.length → bytesB y = true → F s y = some (X.sum32 s y)) (hb : bytesB b = true) (hx : bytesB x = true) (hl : x.length = b.length)
    (p m : Nat) (same : ∀ i, ¬(p ≤ i ∧ i < p + m) → X.at' x i = X.at' b i)
    (hp : (m = 4 ∧ p % 4 = 0 ∧ p + 4 ≤ b.length) ∨ (m = 1 ∧ p < b.length ∧ b.length < p / 4 * 4 + 4)) :
    ((F s x).bind fun t140 => ((F s b).bind fun t141 => (some ((t140 == t141) == ((strOfNums x).toList == (strOfNums b).toList))))) = some true := by
  rw [hF x hl hx, hF b rfl hb, Option.bind_some, Option.bind_some]
  congr 1
  exact X.verdict hx hb (X.sum32_one s hs x b hl (bytes_of _ hx) (bytes_of _ hb) p m same hp) (fun e => by rw [e])
theorem word_l0 (s o : Int) (hs : W32 s) (b : List Int) (hF : ∀ y, y.length = b.length → bytesB y = true → xxh_Sum32.f s y = some (X.sum32 s y)) (hb : bytesB b = true) (hl : b.length ≤ 140737488351232) (n : Int) (h0 : 0 ≤ n) (h4 : n % 4 = 0) (hn : n + 4 ≤ (b.length : Int)) :
    ∀ j : Nat, j ≤ 4 → ∀ x : List Int, x.length = b.length → bytesB x = true → (∀ i, ¬(n.toNat ≤ i ∧ i < n.toNat + 4) → X.at' x i = X.at' b i) → satchellaw02_XxhWord.l0 (j + 1) s b o x n (4 - (j : Int)) = some true := by
  intro j
  induction j with
  | zero =>
    intro _ x hx hbx same
    rw [satchellaw02_XxhWord.l0, if_neg (by omega)]
    exact word_end xxh_Sum32.f s hs b x hF hb hbx hx n.toNat 4 same (Or.inl ⟨rfl, by omega, by omega⟩)
  | succ j ih =>
    intro hj x hx hbx same
    have e1 : (4 - ((j + 1 : Nat) : Int)) < 4 := by omega
    have e2 : wrap64 (n + (4 - ((j + 1 : Nat) : Int))) = n + (4 - ((j + 1 : Nat) : Int)) := IntWalk.wrap64_in _ (by omega)
    have e3 : wrap64 (8 * (4 - ((j + 1 : Nat) : Int))) = 8 * (4 - ((j + 1 : Nat) : Int)) := IntWalk.wrap64_in _ (by omega)
    have e4 : wrap64 ((4 - ((j + 1 : Nat) : Int)) + 1) = 4 - (j : Int) := by rw [IntWalk.wrap64_in _ (by omega)]; omega
    rw [satchellaw02_XxhWord.l0, if_pos e1, e2, e3, e4, if_pos (by omega), if_pos (by omega), if_pos (by omega)]
    refine ih (by omega) _ (by rw [List.length_set]; exact hx) (X.bytesB_set _ (X.bits_xor_u8_range _ _) hbx) (fun i hi => ?_)
    rw [X.at_set _ (by omega)]
    exact same i hi
theorem word_j0 (s o : Int) (hs : W32 s) (b : List Int) (hF : ∀ y, y.length = b.length → bytesB y = true → xxh_Sum32.f s y = some (X.sum32 s y)) (hb : bytesB b = true) (hl : b.length ≤ 140737488351232) (hz : b.length ≠ 0) (a : Int) (h0 : 0 ≤ a) :
    satchellaw02_XxhWord.j0 6 s b a o = some true := by
  have t0 : 0 ≤ Int.tmod a (b.length : Int) := Int.tmod_nonneg _ h0
  have t1 : Int.tmod a (b.length : Int) < (b.length : Int) := Int.tmod_lt_of_pos _ (by omega)
  rw [satchellaw02_XxhWord.j0, if_neg (by omega)]
  generalize Int.tmod a (b.length : Int) = t at t0 t1
  have d : Int.tdiv t 4 = t / 4 := Int.tdiv_eq_ediv_of_nonneg t0
  have e1 : wrap64 (t / 4) = t / 4 := IntWalk.wrap64_in _ (by omega)
  have e2 : wrap64 (t / 4 * 4) = t / 4 * 4 := IntWalk.wrap64_in _ (by omega)
  have e3 : wrap64 (t / 4 * 4 + 4) = t / 4 * 4 + 4 := IntWalk.wrap64_in _ (by omega)
  rw [Option.bind_some, List.nil_append, List.length_nil, Nat.zero_add, if_pos (by omega), Option.bind_some, d, e1, e2, e3]
  by_cases c : t / 4 * 4 + 4 ≤ (b.length : Int)
  · rw [if_pos c]
    exact word_l0 s o hs b hF hb hl (t / 4 * 4) (by omega) (by omega) c 4 (by omega) b rfl hb (fun _ _ => rfl)
  · rw [if_neg c, if_pos t0, if_pos t1, Option.bind_some]
    refine word_end xxh_Sum32.f s hs b _ hF hb (X.bytesB_set _ (X.bits_xor_u8_range _ _) hb) (List.length_set ..) t.toNat 1 (fun i hi => X.at_set _ (by omega)) (Or.inr ⟨rfl, by omega, by omega⟩)
theorem XxhWord : satchellaw02_XxhWord.Pure := by
  intro a0 l1 a2 a3 h0 hm hl hb h2 h3
  have hbb := XxhP.bytesB_wf hb
  have hl' : l1.length ≤ 140737488351232 := by omega
  have hF : ∀ y : List Int, y.length = l1.length → bytesB y = true → xxh_Sum32.f a0 y = some (X.sum32 a0 y) := fun y hy hy2 => XxhP.sum32f_eq (XxhP.u32_of h0) (Nat.le_trans (Nat.le_trans (Nat.le_of_eq hy) hl') (by decide)) hy2
  have h2' := XxhP.i64_of h2
  refine ⟨6, ?_⟩
  unfold satchellaw02_XxhWord.f satchellaw02_lives.f
  rw [Option.bind_some, if_pos rfl]
  by_cases hz : l1.length = 0
  · rw [if_pos (by omega)]
  · rw [if_neg (by omega)]
    by_cases hn : a2 < 0
    · rw [if_pos hn, IntWalk.wrap64_in (a2 + 1) (by omega), IntWalk.wrap64_in (-(a2 + 1)) (by omega)]
      exact word_j0 a0 a3 (XxhP.u32_of h0) l1 hF hbb hl' hz _ (by omega)
    · rw [if_neg hn]
      exact word_j0 a0 a3 (XxhP.u32_of h0) l1 hF hbb hl' hz _ (by omega)
end Go.Proofs.Ytnkcbkfccbfjpaa.Pure
