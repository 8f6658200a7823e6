/- Sets of ranges, plain: the walked functions are those over lists. -/
import Derived.Test.YtanbicpkdkcpbaaGp
import Derived.Test.YtanbicpkdkcpbaaGd
namespace Go.Proofs.Ytanbicpkdkcpbaa.Rng
open Go.RowKit Go.Proofs.Ytanbicpkdkcpbaa.RSizesRanges Go.Proofs.YtanbicpkdkcpbaaW.PrintWords Go.Proofs.YtanbicpkdkcpbaaW.PrintLast Go.Proofs.YtanbicpkdkcpbaaW.PrintMore
set_option linter.unusedVariables false
set_option linter.unusedSimpArgs false
theorem mn_min (x y : Int) : mn x y = min x y := by unfold mn; split <;> omega
theorem mx_max (x y : Int) : mx x y = max x y := by unfold mx; split <;> omega
theorem drop_rd (L : List S67) (i : Nat) (h : i < L.length) : L.drop i = rd_T67 L (i : Int) :: L.drop (i + 1) := by
  rw [List.drop_eq_getElem_cons h]
  unfold rd_T67
  rw [Int.toNat_natCast, List.getD_eq_getElem?_getD, List.getElem?_eq_getElem h, Option.getD_some]
theorem wsucc (x : Nat) (h : x < 9223372036854775807) : wrap64 ((x : Int) + 1) = ((x + 1 : Nat) : Int) := by rw [IntWalk.wrap64_in _ (by omega)]; omega
def canB (a b : Int) : Bool := decide (0 ≤ a ∧ a ≤ b)
theorem can_f (a b : Int) : sizes_can.f a b = some (canB a b) := by
  unfold sizes_can.f canB
  by_cases c : a ≥ 0
  · rw [if_pos c]
    congr 1
    exact decide_eq_decide.2 ⟨fun h => ⟨c, h⟩, fun h => h.2⟩
  · rw [if_neg c, decide_eq_false (fun h => c h.1)]
theorem add_l0 (L : List S67) (hL : L.length ≤ 1000000) : ∀ (j k i : Nat) (out : List S67) (put : Bool) (a b : Int), i + j = L.length → j < k → out.length ≤ 2 * i + 10 →
    sizes_Ranges_Add.l0 k out put L (L.length : Int) (i : Int) a b = some (out ++ addG (L.drop i) put a b) := by
  intro j
  induction j with
  | zero =>
    intro k i out put a b hi hk ho
    obtain ⟨k, rfl⟩ : ∃ q, k = q + 1 := ⟨k - 1, by omega⟩
    rw [sizes_Ranges_Add.l0, if_neg (by omega), List.drop_eq_nil_of_le (by omega), addG]
    cases put with
    | true => rw [if_pos rfl, if_pos rfl, List.append_nil]
    | false => rw [if_neg (show ¬ (false = true) by decide), if_neg (show ¬ (false = true) by decide), if_pos (by omega)]
  | succ j ih =>
    intro k i out put a b hi hk ho
    obtain ⟨k, rfl⟩ : ∃ q, k = q + 1 := ⟨k - 1, by omega⟩
    rw [sizes_Ranges_Add.l0, if_pos (by omega), if_pos (by omega), if_pos (by omega), wsucc _ (by omega), drop_rd L i (by omega), addG, mn_min, mx_max]
    generalize rd_T67 L (i : Int) = y
    have ey : (⟨y.f0, y.f1⟩ : S67) = y := rfl
    by_cases c1 : y.f1 < a
    · rw [if_pos c1, if_pos c1, if_pos (by omega), ey, ih k (i + 1) _ put a b (by omega) (by omega) (by rw [List.length_append]; simp only [List.length_cons, List.length_nil]; omega), List.append_assoc]
      rfl
    · rw [if_neg c1, if_neg c1]
      by_cases c2 : y.f0 > b
      · rw [if_pos c2, if_pos c2]
        cases put with
        | true =>
          rw [if_pos rfl, if_pos rfl, if_pos (by omega), ey, ih k (i + 1) _ true a b (by omega) (by omega) (by rw [List.length_append]; simp only [List.length_cons, List.length_nil]; omega), List.append_assoc]
          rfl
        | false =>
          rw [if_neg (show ¬ (false = true) by decide), if_neg (show ¬ (false = true) by decide), if_pos (by omega), Option.bind_some, if_pos (by rw [List.length_append]; simp only [List.length_cons, List.length_nil]; omega), ey, ih k (i + 1) _ true a b (by omega) (by omega) (by rw [List.length_append, List.length_append]; simp only [List.length_cons, List.length_nil]; omega), List.append_assoc, List.append_assoc]
          rfl
      · rw [if_neg c2, if_neg c2]
        exact ih k (i + 1) out put _ _ (by omega) (by omega) (by omega)
theorem add_f (k : Nat) (L : List S67) (hL : L.length ≤ 1000000) (hk : L.length < k) (a b : Int) : sizes_Ranges_Add.f k L a b = some (if canB a b = true then (if a = b then [] else addG L false a b) else []) := by
  unfold sizes_Ranges_Add.f
  rw [can_f, Option.bind_some]
  cases canB a b with
  | false => rfl
  | true =>
    rw [if_pos rfl, if_pos rfl]
    by_cases c : a = b
    · rw [if_pos c, if_pos c]
    · rw [if_neg c, if_neg c]
      have h := add_l0 L hL L.length k 0 [] false a b (by omega) hk (by simp)
      rw [List.drop_zero, List.nil_append] at h
      exact h
theorem cut_l1 (L : List S67) (k i : Nat) (hi : i < 1000000) (out : List S67) (ho : out.length ≤ 100000000) (p q : S67) (a b : Int) :
    sizes_Ranges_Cut.l1 (k + 3) out L (L.length : Int) (i : Int) [p, q] 2 0 a b = sizes_Ranges_Cut.l0 k (out ++ (keepR p.f0 p.f1 ++ keepR q.f0 q.f1)) L (L.length : Int) ((i + 1 : Nat) : Int) a b := by
  have r0 : rd_T67 [p, q] 0 = p := rfl
  have r1 : rd_T67 [p, q] 1 = q := rfl
  have w1 : wrap64 (0 + 1) = 1 := IntWalk.wrap64_in _ (by decide)
  have w2 : wrap64 (1 + 1) = 2 := IntWalk.wrap64_in _ (by decide)
  have ep : (⟨p.f0, p.f1⟩ : S67) = p := rfl
  have eq : (⟨q.f0, q.f1⟩ : S67) = q := rfl
  have second : ∀ o : List S67, o.length ≤ 100000001 → sizes_Ranges_Cut.l1 (k + 2) o L (L.length : Int) (i : Int) [p, q] 2 1 a b = sizes_Ranges_Cut.l0 k (o ++ keepR q.f0 q.f1) L (L.length : Int) ((i + 1 : Nat) : Int) a b := by
    intro o ho
    have third : ∀ o : List S67, sizes_Ranges_Cut.l1 (k + 1) o L (L.length : Int) (i : Int) [p, q] 2 2 a b = sizes_Ranges_Cut.l0 k o L (L.length : Int) ((i + 1 : Nat) : Int) a b := by
      intro o
      rw [sizes_Ranges_Cut.l1, if_neg (by decide), wsucc _ (by omega)]
    rw [sizes_Ranges_Cut.l1, if_pos (by decide), if_pos (by decide), if_pos (by simp), r1, w2]
    unfold keepR
    by_cases c : q.f0 < q.f1
    · rw [if_pos c, if_pos c, if_pos (by omega), third]
    · rw [if_neg c, if_neg c, third, List.append_nil]
  rw [sizes_Ranges_Cut.l1, if_pos (by decide), if_pos (by decide), if_pos (by simp), r0, w1]
  by_cases c : p.f0 < p.f1
  · have e : keepR p.f0 p.f1 = [p] := by unfold keepR; rw [if_pos c]
    rw [if_pos c, if_pos (by omega), ep, second _ (by rw [List.length_append]; simp only [List.length_cons, List.length_nil]; omega), e, List.append_assoc]
  · have e : keepR p.f0 p.f1 = [] := by unfold keepR; rw [if_neg c]
    rw [if_neg c, second _ (by omega), e, List.nil_append]
theorem keep_len (a b : Int) : (keepR a b).length ≤ 1 := by unfold keepR; split <;> simp
theorem cut_l0 (L : List S67) (hL : L.length ≤ 1000000) (a b : Int) : ∀ (j k i : Nat) (out : List S67), i + j = L.length → 4 * j < k → out.length ≤ 2 * i →
    sizes_Ranges_Cut.l0 k out L (L.length : Int) (i : Int) a b = some (if a = b then [] else out ++ cutG (L.drop i) a b) := by
  intro j
  induction j with
  | zero =>
    intro k i out hi hk ho
    obtain ⟨k, rfl⟩ : ∃ q, k = q + 1 := ⟨k - 1, by omega⟩
    rw [sizes_Ranges_Cut.l0, if_neg (by omega), List.drop_eq_nil_of_le (by omega), cutG, List.append_nil]
    split <;> rfl
  | succ j ih =>
    intro k i out hi hk ho
    obtain ⟨k, rfl⟩ : ∃ q, k = (q + 3) + 1 := ⟨k - 4, by omega⟩
    have k1 := keep_len (rd_T67 L (i : Int)).f0 (min (rd_T67 L (i : Int)).f1 a)
    have k2 := keep_len (max (rd_T67 L (i : Int)).f0 b) (rd_T67 L (i : Int)).f1
    rw [sizes_Ranges_Cut.l0, if_pos (by omega), if_pos (by omega), if_pos (by omega), Option.bind_some, show ((([⟨(rd_T67 L (i : Int)).f0, mn (rd_T67 L (i : Int)).f1 a⟩, ⟨mx (rd_T67 L (i : Int)).f0 b, (rd_T67 L (i : Int)).f1⟩] : List S67).length : Nat) : Int) = 2 from rfl, cut_l1 L k i (by omega) out (by omega), mn_min, mx_max,
      ih k (i + 1) _ (by omega) (by omega) (by rw [List.length_append, List.length_append]; dsimp only; omega), drop_rd L i (by omega), cutG]
    simp only [List.append_assoc]
theorem cut_f (k : Nat) (L : List S67) (hL : L.length ≤ 1000000) (hk : 4 * L.length < k) (a b : Int) : sizes_Ranges_Cut.f k L a b = some (if canB a b = true then (if a = b then [] else cutG L a b) else []) := by
  unfold sizes_Ranges_Cut.f
  rw [can_f, Option.bind_some]
  cases canB a b with
  | false => rfl
  | true =>
    rw [if_pos rfl, if_pos rfl]
    have h := cut_l0 L hL a b L.length k 0 [] (by omega) hk (by simp)
    rw [List.drop_zero, List.nil_append] at h
    exact h
theorem gaps_l0 (L : List S67) (hL : L.length ≤ 1000000) (a b : Int) : ∀ (j k i : Nat) (out : List S67) (at_ : Int), i + j = L.length → j < k → out.length ≤ i →
    sizes_Ranges_Gaps.l0 k out at_ L (L.length : Int) (i : Int) a b = some (out ++ gapsG (L.drop i) at_ b) := by
  intro j
  induction j with
  | zero =>
    intro k i out at_ hi hk ho
    obtain ⟨k, rfl⟩ : ∃ q, k = q + 1 := ⟨k - 1, by omega⟩
    rw [sizes_Ranges_Gaps.l0, if_neg (by omega), List.drop_eq_nil_of_le (by omega), gapsG]
    unfold keepR
    by_cases c : at_ < b
    · rw [if_pos c, if_pos c, if_pos (by omega)]
    · rw [if_neg c, if_neg c, List.append_nil]
  | succ j ih =>
    intro k i out at_ hi hk ho
    obtain ⟨k, rfl⟩ : ∃ q, k = q + 1 := ⟨k - 1, by omega⟩
    rw [sizes_Ranges_Gaps.l0, if_pos (by omega), if_pos (by omega), if_pos (by omega), wsucc _ (by omega), drop_rd L i (by omega), gapsG]
    generalize rd_T67 L (i : Int) = y
    by_cases c1 : y.f1 ≤ at_
    · rw [if_pos c1, if_pos c1]
      exact ih k (i + 1) out at_ (by omega) (by omega) (by omega)
    · rw [if_neg c1, if_neg c1]
      by_cases c2 : y.f0 ≥ b
      · rw [if_pos c2, if_pos c2]
        unfold keepR
        by_cases c : at_ < b
        · rw [if_pos c, if_pos c, if_pos (by omega)]
        · rw [if_neg c, if_neg c, List.append_nil]
      · rw [if_neg c2, if_neg c2]
        by_cases c3 : y.f0 > at_
        · rw [if_pos c3, if_pos c3, if_pos (by omega), ih k (i + 1) _ y.f1 (by omega) (by omega) (by rw [List.length_append]; simp only [List.length_cons, List.length_nil]; omega), List.append_assoc]
          rfl
        · rw [if_neg c3, if_neg c3]
          exact ih k (i + 1) out y.f1 (by omega) (by omega) (by omega)
theorem gaps_f (k : Nat) (L : List S67) (hL : L.length ≤ 1000000) (hk : L.length < k) (a b : Int) : sizes_Ranges_Gaps.f k L a b = some (if canB a b = true then gapsG L a b else []) := by
  unfold sizes_Ranges_Gaps.f
  rw [can_f, Option.bind_some]
  cases canB a b with
  | false => rfl
  | true =>
    rw [if_pos rfl, if_pos rfl]
    have h := gaps_l0 L hL a b L.length k 0 [] a (by omega) hk (by simp)
    rw [List.drop_zero, List.nil_append] at h
    exact h
theorem wrap_add2 (m d : Int) : wrap64 (wrap64 m + wrap64 d) = wrap64 (m + d) := by
  unfold wrap64
  omega
theorem tot_l0 (L : List S67) (hL : L.length ≤ 1000000) : ∀ (j k i : Nat) (m : Int), i + j = L.length → j < k →
    sizes_Ranges_Total.l0 k (wrap64 m) L (L.length : Int) (i : Int) = some (wrap64 (m + totL (L.drop i))) := by
  intro j
  induction j with
  | zero =>
    intro k i m hi hk
    obtain ⟨k, rfl⟩ : ∃ q, k = q + 1 := ⟨k - 1, by omega⟩
    rw [sizes_Ranges_Total.l0, if_neg (by omega), List.drop_eq_nil_of_le (by omega), totL, Int.add_zero]
  | succ j ih =>
    intro k i m hi hk
    obtain ⟨k, rfl⟩ : ∃ q, k = q + 1 := ⟨k - 1, by omega⟩
    rw [sizes_Ranges_Total.l0, if_pos (by omega), if_pos (by omega), if_pos (by omega), wsucc _ (by omega), wrap_add2, ih k (i + 1) _ (by omega) (by omega), drop_rd L i (by omega), totL, Int.add_assoc]
theorem tot_f (k : Nat) (L : List S67) (hL : L.length ≤ 1000000) (hk : L.length < k) : sizes_Ranges_Total.f k L = some (wrap64 (totL L)) := by
  have h := tot_l0 L hL L.length k 0 0 (by omega) hk
  rw [List.drop_zero, Int.zero_add, show wrap64 0 = 0 from IntWalk.wrap64_in _ (by decide)] at h
  exact h
/-! ### a set behind Add and Cut -/
def addR (L : List S67) (a b : Int) : List S67 × Int := if canB a b = true then (if a = b then (L, 0) else if 65536 < (addG L false a b).length then (L, 2) else (addG L false a b, 0)) else (L, 12)
def cutR (L : List S67) (a b : Int) : List S67 × Int := if canB a b = true then (if a = b then (L, 0) else if 65536 < (cutG L a b).length then (L, 2) else (cutG L a b, 0)) else (L, 12)
def gapsR (L : List S67) (a b : Int) : List S67 := if canB a b = true then gapsG L a b else []
def hasR (L : List S67) (a b : Int) : Bool := canB a b && decide ((gapsR L a b).length = 0)
end Go.Proofs.Ytanbicpkdkcpbaa.Rng
