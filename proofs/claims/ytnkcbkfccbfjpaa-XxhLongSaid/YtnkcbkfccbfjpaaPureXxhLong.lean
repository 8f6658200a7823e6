/- The plain law of XxhLong: a number of eight bytes that differs, or one of the last bytes, is told by the sum of 64 bits. -/
import Derived.Test.YtnkcbkfccbfjpaaMXxhLongx2
import Derived.Test.YtnkcbkfccbfjpaaZk
namespace Go.Proofs.Ytnkcbkfccbfjpaa.Pure
open Go.RowKit Go.Proofs.Ytnkcbkfccbfjpaa.MXxhLong Go.Proofs.YtnkcbkfccbfjpaaW.PrintWords Go.Proofs.YtnkcbkfccbfjpaaW.PrintLast Go.Proofs.Ytnkcbkfccbfjpaa.XxhW Go.Proofs.Ytnkcbkfccbfjpaa.XxhP
set_option linter.unusedVariables false
theorem long_end (F : Int → List Int → Option Int) (s : Int) (b x : List Int) (hF : ∀ y, y.length = b.length → bytesB y = true → F s y = some (X.sum64 s y)) (hb : bytesB b = true) (hx : bytesB x = true) (hl : x.length = b.length)
    (h : X.sum64 s x = X.sum64 s b → x = b) :
    ((F s x).bind fun t140 => ((F s b).bind fun t141 => (some ((t140 == t141) == ((strOfNums x).toList == (strOfNums b).toList))))) = some true := by
  rw [hF x hl hx, hF b rfl hb, Option.bind_some, Option.bind_some]
  congr 1
  exact X.verdict hx hb h (fun e => by rw [e])
theorem long_l0 (s o : Int) (b : List Int) (hF : ∀ y, y.length = b.length → bytesB y = true → xxh_Sum64.f s y = some (X.sum64 s y)) (hb : bytesB b = true) (hl : b.length ≤ 140737488351232) (f n : Int) (hf : f = 32 * ((b.length : Int) / 32)) (h0 : 0 ≤ n) (h4 : n % 8 = 0) (hn : n + 8 ≤ (b.length : Int) - f) :
    ∀ j : Nat, j ≤ 8 → ∀ x : List Int, x.length = b.length → bytesB x = true → (∀ i, ¬((f + n).toNat ≤ i ∧ i < (f + n).toNat + 8) → X.at' x i = X.at' b i) → satchellaw02_XxhLong.l0 (j + 1) s b o f x n (8 - (j : Int)) = some true := by
  intro j
  induction j with
  | zero =>
    intro _ x hx hbx same
    rw [satchellaw02_XxhLong.l0, if_neg (by omega)]
    exact long_end xxh_Sum64.f s b x hF hb hbx hx (X.sum64_one s x b hx (bytes_of _ hbx) (bytes_of _ hb) n.toNat 8 (fun i hi => same i (by omega)) (Or.inl ⟨rfl, by omega, by omega⟩))
  | succ j ih =>
    intro hj x hx hbx same
    have e1 : (8 - ((j + 1 : Nat) : Int)) < 8 := by omega
    have e0 : wrap64 (f + n) = f + n := IntWalk.wrap64_in _ (by omega)
    have e2 : wrap64 (f + n + (8 - ((j + 1 : Nat) : Int))) = f + n + (8 - ((j + 1 : Nat) : Int)) := IntWalk.wrap64_in _ (by omega)
    have e3 : wrap64 (8 * (8 - ((j + 1 : Nat) : Int))) = 8 * (8 - ((j + 1 : Nat) : Int)) := IntWalk.wrap64_in _ (by omega)
    have e4 : wrap64 ((8 - ((j + 1 : Nat) : Int)) + 1) = 8 - (j : Int) := by rw [IntWalk.wrap64_in _ (by omega)]; omega
    rw [satchellaw02_XxhLong.l0, if_pos e1, e0, e2, e3, e4, if_pos (by omega), if_pos (by omega), if_pos (by omega)]
    refine ih (by omega) _ (by rw [List.length_set]; exact hx) (X.bytesB_set _ (X.bits_xor_u8_range _ _) hbx) (fun i hi => ?_)
    rw [X.at_set _ (by omega)]
    exact same i hi
theorem long_j0 (s o : Int) (b : List Int) (hF : ∀ y, y.length = b.length → bytesB y = true → xxh_Sum64.f s y = some (X.sum64 s y)) (hb : bytesB b = true) (hl : b.length ≤ 140737488351232) (f R : Int) (hf : f = 32 * ((b.length : Int) / 32)) (hR : R = (b.length : Int) - f) (hz : R ≠ 0) (a : Int) (h0 : 0 ≤ a) :
    satchellaw02_XxhLong.j0 10 s b a o f R = some true := by
  have t0 : 0 ≤ Int.tmod a R := Int.tmod_nonneg _ h0
  have t1 : Int.tmod a R < R := Int.tmod_lt_of_pos _ (by omega)
  rw [satchellaw02_XxhLong.j0, if_neg (by omega)]
  generalize Int.tmod a R = t at t0 t1
  have d : Int.tdiv t 8 = t / 8 := Int.tdiv_eq_ediv_of_nonneg t0
  have d' : Int.tdiv t 4 = t / 4 := Int.tdiv_eq_ediv_of_nonneg t0
  have e1 : wrap64 (t / 8) = t / 8 := IntWalk.wrap64_in _ (by omega)
  have e2 : wrap64 (t / 8 * 8) = t / 8 * 8 := IntWalk.wrap64_in _ (by omega)
  have e3 : wrap64 (t / 8 * 8 + 8) = t / 8 * 8 + 8 := IntWalk.wrap64_in _ (by omega)
  have e1' : wrap64 (t / 4) = t / 4 := IntWalk.wrap64_in _ (by omega)
  have e2' : wrap64 (t / 4 * 4) = t / 4 * 4 := IntWalk.wrap64_in _ (by omega)
  have e3' : wrap64 (t / 4 * 4 + 4) = t / 4 * 4 + 4 := IntWalk.wrap64_in _ (by omega)
  have e4 : wrap64 (f + t) = f + t := IntWalk.wrap64_in _ (by omega)
  rw [Option.bind_some, List.nil_append, List.length_nil, Nat.zero_add, if_pos (by omega), Option.bind_some, d, d', e1, e2, e3, e1', e2', e3', e4]
  by_cases c : t / 8 * 8 + 8 ≤ R
  · rw [if_pos c]
    exact long_l0 s o b hF hb hl f (t / 8 * 8) hf (by omega) (by omega) (by omega) 8 (by omega) b rfl hb (fun _ _ => rfl)
  · rw [if_neg c]
    by_cases c4 : t / 4 * 4 + 4 > R
    · rw [if_pos c4, if_pos (by omega), if_pos (by omega), Option.bind_some]
      have hx := X.bytesB_set (f + t).toNat (X.bits_xor_u8_range (rd b (f + t)) (o % 256)) hb
      refine long_end xxh_Sum64.f s b _ hF hb hx (List.length_set ..) (X.sum64_one s _ b (List.length_set ..) (bytes_of _ hx) (bytes_of _ hb) t.toNat 1 (fun i hi => X.at_set _ (by omega)) (Or.inr ⟨rfl, by omega, by omega⟩))
    · rw [if_neg c4]
      exact long_end xxh_Sum64.f s b b hF hb hb rfl (fun _ => rfl)
theorem XxhLong : satchellaw02_XxhLong.Pure := by
  intro a0 l1 a2 a3 h0 hm hl hb h2 h3
  have hbb := XxhP.bytesB_wf hb
  have hl' : l1.length ≤ 140737488351232 := by omega
  have hF : ∀ y : List Int, y.length = l1.length → bytesB y = true → xxh_Sum64.f a0 y = some (X.sum64 a0 y) := fun y hy hy2 => XxhP.sum64f_eq (XxhP.u64_of h0) (Nat.le_trans (Nat.le_trans (Nat.le_of_eq hy) hl') (by decide)) hy2
  have h2' := XxhP.i64_of h2
  have w1 : wrap64 ((l1.length : Int) / 32) = (l1.length : Int) / 32 := IntWalk.wrap64_in _ (by omega)
  have w2 : wrap64 ((l1.length : Int) / 32 * 32) = (l1.length : Int) / 32 * 32 := IntWalk.wrap64_in _ (by omega)
  have w3 : wrap64 ((l1.length : Int) - (l1.length : Int) / 32 * 32) = (l1.length : Int) - (l1.length : Int) / 32 * 32 := IntWalk.wrap64_in _ (by omega)
  refine ⟨10, ?_⟩
  unfold satchellaw02_XxhLong.f satchellaw02_lives.f
  rw [Option.bind_some, if_pos rfl, w1, w2, w3]
  by_cases hz : (l1.length : Int) - (l1.length : Int) / 32 * 32 = 0
  · rw [if_pos hz]
  · rw [if_neg hz]
    by_cases hn : a2 < 0
    · rw [if_pos hn, IntWalk.wrap64_in (a2 + 1) (by omega), IntWalk.wrap64_in (-(a2 + 1)) (by omega)]
      exact long_j0 a0 a3 l1 hF hbb hl' _ _ (by omega) rfl hz _ (by omega)
    · rw [if_neg hn]
      exact long_j0 a0 a3 l1 hF hbb hl' _ _ (by omega) rfl hz _ (by omega)
end Go.Proofs.Ytnkcbkfccbfjpaa.Pure
