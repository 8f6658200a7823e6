/- Volumes, plain: Cut, the program's and the document's, are one function over lists. -/
import Derived.Test.YtnkcbkfccbfjpaaVq
namespace Go.Proofs.Ytnkcbkfccbfjpaa.XxhW
open Go.RowKit Go.Proofs.Ytnkcbkfccbfjpaa.QVolumesCuts Go.Proofs.YtnkcbkfccbfjpaaW.PrintWords Go.Proofs.YtnkcbkfccbfjpaaW.PrintLast Go.Proofs.YtnkcbkfccbfjpaaW.PrintMore
set_option linter.unusedVariables false
set_option linter.unusedSimpArgs false
theorem mn_nat (a b : Nat) : mn (a : Int) (b : Int) = ((min a b : Nat) : Int) := by
  unfold mn
  split <;> omega
theorem mx_nat (a b : Nat) : mx (a : Int) (b : Int) = ((max a b : Nat) : Int) := by
  unfold mx
  split <;> omega
/-- A piece of a list that is cut. -/
def piece (l : List Int) (s i : Nat) : List Int := (l.take (min (i * s + s) l.length)).drop (i * s)
theorem piece_len (l : List Int) (s i : Nat) : (piece l s i).length = min (i * s + s) l.length - i * s := by
  unfold piece
  rw [List.length_drop, List.length_take]
  omega
def outL (l : List Int) (set : Int) (s n i : Nat) : List (List Int) := (List.range i).map fun i : Nat => volP set (i : Int) (n : Int) 0 (l.length : Int) ((i * s : Nat) : Int) ((piece l s i).length : Int) (piece l s i)
def partsL (l : List Int) (s i : Nat) : List (List Int) := (List.range i).map (piece l s)
def overL (l : List Int) (s i : Nat) : List Int := (partsL l s i).foldl xorR (List.replicate (min s l.length) 0)
theorem outL_succ (l : List Int) (set : Int) (s n i : Nat) : outL l set s n (i + 1) = outL l set s n i ++ [volP set (i : Int) (n : Int) 0 (l.length : Int) ((i * s : Nat) : Int) ((piece l s i).length : Int) (piece l s i)] := by
  unfold outL
  rw [List.range_succ, List.map_append]
  rfl
theorem partsL_succ (l : List Int) (s i : Nat) : partsL l s (i + 1) = partsL l s i ++ [piece l s i] := by
  unfold partsL
  rw [List.range_succ, List.map_append]
  rfl
theorem overL_succ (l : List Int) (s i : Nat) : overL l s (i + 1) = xorR (overL l s i) (piece l s i) := by
  unfold overL
  rw [partsL_succ, List.foldl_append]
  rfl
theorem overL_len (l : List Int) (s : Nat) : ∀ i, (overL l s i).length = min s l.length
  | 0 => by simp [overL, partsL]
  | i + 1 => by rw [overL_succ, xorR_len, overL_len l s i]
theorem outL_len (l : List Int) (set : Int) (s n i : Nat) : (outL l set s n i).length = i := by simp [outL]
theorem partsL_len (l : List Int) (s i : Nat) : (partsL l s i).length = i := by simp [partsL]
def cutP (l : List Int) (set : Int) (sp : Bool) (s n : Nat) : List (List Int) :=
  outL l set s n n ++ (if sp = true then [volP set (n : Int) (n : Int) 1 (l.length : Int) 0 ((overL l s n).length : Int) (overL l s n)] else [])
set_option maxHeartbeats 4000000 in
theorem vc_l0 (F : Nat) (hF : 6000000000 ≤ F) (l : List Int) (set : Int) (sp : Bool) (s n : Nat) (hset : W64u set) (hl : l.length ≤ 4194304) (hs : s ≤ 4194305) (hn : n ≤ 1000) (hns : ∀ i, i < n → i * s ≤ l.length) : ∀ (j k i : Nat), i + j = n → j + F < k →
    volumes_Cut.l0 k l set sp (s : Int) (n : Int) (outL l set s n i) (overL l s i) (n : Int) (i : Int) = some (cutP l set sp s n, 0) := by
  intro j
  induction j with
  | zero =>
    intro k i hi hk
    obtain ⟨k, rfl⟩ : ∃ q, k = q + 1 := ⟨k - 1, by omega⟩
    have : i = n := by omega
    subst this
    have ho := overL_len l s i
    rw [volumes_Cut.l0, if_neg (by omega)]
    unfold cutP
    cases sp with
    | true =>
      rw [if_pos rfl, if_pos rfl, put_f k set i i l.length 0 _ true _ hset (nat64 _ (by omega)) (nat64 _ (by omega)) (nat64 _ (by omega)) ⟨by decide, by decide⟩ (nat64 _ (by omega)) (by omega) (by omega), Option.bind_some, if_pos (by rw [outL_len]; omega), if_pos rfl]
    | false => rw [if_neg (by decide), if_neg (by decide), List.append_nil]
  | succ j ih =>
    intro k i hi hk
    obtain ⟨k, rfl⟩ : ∃ q, k = q + 1 := ⟨k - 1, by omega⟩
    have hq := hns i (by omega)
    have ho := overL_len l s i
    have hp := piece_len l s i
    have e1 := Aside0.mk (show wrap64 ((i : Int) * (s : Int)) = ((i * s : Nat) : Int) by rw [← Int.natCast_mul]; exact wrap_small _ (by omega))
    have e2 := Aside0.mk (show wrap64 (((i * s : Nat) : Int) + (s : Int)) = ((i * s + s : Nat) : Int) by rw [← Int.natCast_add]; exact wrap_small _ (by omega))
    have e3 : (l.take (min (i * s + s) l.length)).drop (i * s) = piece l s i := rfl
    rw [volumes_Cut.l0, if_pos (by omega), e1.out, e2.out, mn_nat, if_pos (by omega), if_pos (by omega), if_pos (by omega), Int.toNat_natCast, Int.toNat_natCast, e3]
    clear e1 e2 e3
    rw [xor_f k _ _ (by omega) (by omega) (by omega), Option.bind_some, put_f k set i n l.length _ _ false _ hset (nat64 _ (by omega)) (nat64 _ (by omega)) (nat64 _ (by omega)) (nat64 _ (by omega)) (nat64 _ (by omega)) (by omega) (by omega), Option.bind_some,
      if_pos (by rw [outL_len]; omega), wrap_succ _ (by omega), if_neg (by decide), ← outL_succ]
    have h := ih k (i + 1) (by omega) (by omega)
    rw [overL_succ] at h
    exact h
/-- The document's step S is the program's, or there is but one piece. -/
def OneStep (l : List Int) (S s n : Nat) : Prop := S = s ∨ (n = 1 ∧ l.length ≤ s ∧ s ≤ S)
theorem part_f (l : List Int) (S s n i : Nat) (h : OneStep l S s n) (hS : S ≤ 9223372036854775743) (hi : i < n) (hl : l.length ≤ 4194304) (hs : s ≤ 4194305) (hq : i * s ≤ l.length) : satchelref27_part.f l (S : Int) (i : Int) = some (piece l s i) ∧ wrap64 ((S : Int) * (i : Int)) = ((i * s : Nat) : Int) := by
  have e0 : (S : Int) * (i : Int) = ((i * s : Nat) : Int) := by
    rcases h with rfl | ⟨h1, h2, h3⟩
    · rw [Int.natCast_mul, Int.mul_comm]
    · have : i = 0 := by omega
      subst this
      simp
  have e1 : wrap64 ((S : Int) * (i : Int)) = ((i * s : Nat) : Int) := by rw [e0]; exact wrap_small _ (by omega)
  have hq0 : S = s ∨ (i * s = 0 ∧ l.length ≤ s ∧ s ≤ S) := by
    rcases h with h | ⟨h1, h2, h3⟩
    · exact .inl h
    · have : i = 0 := by omega
      subst this
      exact .inr ⟨by simp, h2, h3⟩
  have hp := piece_len l s i
  have hpd : piece l s i = (l.take (min (i * s + s) l.length)).drop (i * s) := rfl
  refine ⟨?_, e1⟩
  unfold satchelref27_part.f
  rw [e1]
  generalize i * s = q at *
  clear e0 e1
  have e2 : wrap64 ((q : Int) + (S : Int)) = ((q + S : Nat) : Int) := by rw [← Int.natCast_add]; exact wrap_small _ (by omega)
  rw [e2]
  clear e2
  by_cases c : ((q + S : Nat) : Int) > (l.length : Int)
  · rw [if_pos c, Option.bind_some, if_pos (by omega), if_pos (by omega), if_pos (by omega), Int.toNat_natCast, Int.toNat_natCast, if_pos (by rw [List.length_drop, List.length_take, List.length_nil]; omega), List.nil_append, hpd, show min (q + s) l.length = l.length by omega]
  · rw [if_neg c, Option.bind_some, if_pos (by omega), if_pos (by omega), if_pos (by omega), Int.toNat_natCast, Int.toNat_natCast, if_pos (by rw [List.length_drop, List.length_take, List.length_nil]; omega), List.nil_append, hpd, show min (q + s) l.length = q + S by omega]
def stepOf (l : List Int) (S : Nat) : Nat := min S (max 1 l.length)
def countOf (l : List Int) (S : Nat) : Nat := max 1 ((l.length + stepOf l S - 1) / stepOf l S)
def cutR (l : List Int) (most set : Int) (sp : Bool) : List (List Int) × Int :=
  if most ≤ 64 then ([], 1) else if l.length > 4194304 then ([], 2) else if countOf l (most - 64).toNat > 1000 then ([], 2) else (cutP l set sp (stepOf l (most - 64).toNat) (countOf l (most - 64).toNat), 0)
theorem count_facts (l : List Int) (S : Nat) (hS : 1 ≤ S) (hS2 : S ≤ 9223372036854775743) (hl : l.length ≤ 4194304) :
    volumes_count.f (l.length : Int) ((stepOf l S : Nat) : Int) = some ((countOf l S : Nat) : Int) ∧ satchelref27_count.f (l.length : Int) (S : Int) = some ((countOf l S : Nat) : Int) ∧ OneStep l S (stepOf l S) (countOf l S) ∧ (∀ i, i < countOf l S → i * stepOf l S ≤ l.length) ∧ 1 ≤ stepOf l S ∧ stepOf l S ≤ 4194305 ∧ 1 ≤ countOf l S := by
  have hs1 : 1 ≤ stepOf l S := by unfold stepOf; omega
  have hs2 : stepOf l S ≤ 4194305 := by unfold stepOf; omega
  have hs3 : stepOf l S = S ∨ (stepOf l S = max 1 l.length ∧ max 1 l.length ≤ S) := by unfold stepOf; omega
  have hs4 : stepOf l S ≤ max 1 l.length := by unfold stepOf; omega
  obtain ⟨s, hs⟩ : ∃ s, s = stepOf l S := ⟨_, rfl⟩
  obtain ⟨n, hn⟩ : ∃ n, n = countOf l S := ⟨_, rfl⟩
  have hne : n = max 1 ((l.length + s - 1) / s) := by rw [hn, hs]; rfl
  rw [← hs] at hs1 hs2 hs3 hs4
  rw [← hs, ← hn]
  have hdl : (l.length + s - 1) / s ≤ l.length + s - 1 := Nat.div_le_self _ _
  have hdm : (l.length + s - 1) / s * s ≤ l.length + s - 1 := Nat.div_mul_le_self _ _
  have hone : s = max 1 l.length → n = 1 := fun h => by
    rw [hne]
    rcases Nat.eq_zero_or_pos l.length with h0 | h0
    · have : s = 1 := by omega
      rw [h0, this]
      rfl
    · have e : s = l.length := by omega
      rw [e, show l.length + l.length - 1 = (l.length - 1) + l.length * 1 by omega, Nat.add_mul_div_left _ _ h0, Nat.div_eq_of_lt (by omega)]
      rfl
  refine ⟨?_, ?_, ?_, ?_, hs1, hs2, by omega⟩
  · unfold volumes_count.f
    have w1 : wrap64 ((l.length : Int) + (s : Int)) = ((l.length + s : Nat) : Int) := by rw [← Int.natCast_add]; exact wrap_small _ (by omega)
    have w2 : wrap64 (((l.length + s : Nat) : Int) - 1) = ((l.length + s - 1 : Nat) : Int) := by rw [show ((l.length + s : Nat) : Int) - 1 = ((l.length + s - 1 : Nat) : Int) by clear w1; omega]; exact wrap_small _ (by clear w1; omega)
    rw [if_neg (by omega), w1, w2, Int.tdiv_eq_ediv_of_nonneg (by clear w1 w2; omega), ← Int.natCast_ediv, wrap_small _ (by clear w1 w2; omega), show (1 : Int) = ((1 : Nat) : Int) from rfl, mx_nat, hne]
  · unfold satchelref27_count.f
    by_cases c0 : (l.length : Int) = 0
    · rw [if_pos c0]
      have : n = 1 := hone (by omega)
      rw [this]
      rfl
    · have w1 : wrap64 ((l.length : Int) - 1) = ((l.length - 1 : Nat) : Int) := by rw [show (l.length : Int) - 1 = ((l.length - 1 : Nat) : Int) by omega]; exact wrap_small _ (by omega)
      have hd2 : (l.length - 1) / S ≤ l.length - 1 := Nat.div_le_self _ _
      rw [if_neg c0, if_neg (by omega), w1, Int.tdiv_eq_ediv_of_nonneg (by clear w1; omega), ← Int.natCast_ediv, wrap_small _ (by clear w1; omega), wrap_succ _ (by clear w1; omega)]
      congr 1
      rcases hs3 with h | ⟨h, h'⟩
      · subst h
        rw [hne, show l.length + s - 1 = (l.length - 1) + s * 1 by omega, Nat.add_mul_div_left _ _ (by omega)]
        clear w1 hd2
        generalize (l.length - 1) / s = z
        rw [show max 1 (z + 1) = z + 1 by omega]
      · have : n = 1 := hone h
        rw [this, Nat.div_eq_of_lt (by clear w1; omega)]
  · rcases hs3 with h | ⟨h, h'⟩
    · exact .inl h.symm
    · exact .inr ⟨hone h, by omega, by omega⟩
  · intro i hi
    have h1 : i * s ≤ (n - 1) * s := Nat.mul_le_mul_right _ (by omega)
    rcases Nat.lt_or_ge 1 n with h | h
    · have e : n = (l.length + s - 1) / s := by omega
      have h2 : (n - 1) * s = n * s - s := by rw [Nat.sub_mul, Nat.one_mul]
      have h3 : n * s ≤ l.length + s - 1 := by rw [e]; exact hdm
      omega
    · have : n - 1 = 0 := by omega
      rw [this, Nat.zero_mul] at h1
      omega
set_option maxHeartbeats 4000000 in
theorem cut_f1 (K : Nat) (hK : 6500000000 ≤ K) (l : List Int) (most set : Int) (sp : Bool) (hset : W64u set) (hm : most ≤ 9223372036854775807) (hm0 : -9223372036854775808 ≤ most) :
    volumes_Cut.f (K + 1) l most set sp = some (cutR l most set sp) := by
  unfold volumes_Cut.f cutR
  by_cases c1 : most ≤ 64
  · simp only [if_pos c1]
  simp only [if_neg c1]
  by_cases c2 : l.length > 4194304
  · have c2i : (l.length : Int) > 4194304 := by omega
    simp only [if_pos c2, if_pos c2i]
  have c2i : ¬ (l.length : Int) > 4194304 := by omega
  simp only [if_neg c2, if_neg c2i]
  obtain ⟨S, hSe⟩ : ∃ S : Nat, S = (most - 64).toNat := ⟨_, rfl⟩
  have hSi : wrap64 (most - 64) = (S : Int) := by rw [IntWalk.wrap64_in _ (by omega)]; omega
  rw [← hSe, hSi]
  obtain ⟨f1, f2, f3, f4, f5, f6, f7⟩ := count_facts l S (by clear hSi; omega) (by clear hSi; omega) (by clear hSi; omega)
  have e1 : mn (S : Int) (mx 1 (l.length : Int)) = ((stepOf l S : Nat) : Int) := by rw [show (1 : Int) = ((1 : Nat) : Int) from rfl, mx_nat, mn_nat]; rfl
  rw [e1, f1, Option.bind_some, mn_nat]
  clear e1 hSi
  by_cases c3 : countOf l S > 1000
  · have c3i : ((countOf l S : Nat) : Int) > 1000 := by omega
    rw [if_pos c3i, if_pos c3]
  · have c3i : ¬ ((countOf l S : Nat) : Int) > 1000 := by omega
    rw [if_neg c3i, if_neg c3, if_pos (by omega), Int.toNat_natCast, if_pos (by omega)]
    exact vc_l0 6000000000 (Nat.le_refl _) l set sp (stepOf l S) (countOf l S) hset (by omega) f6 (by omega) f4 (countOf l S) (K + 1) 0 (by omega) (by omega)
end Go.Proofs.Ytnkcbkfccbfjpaa.XxhW
