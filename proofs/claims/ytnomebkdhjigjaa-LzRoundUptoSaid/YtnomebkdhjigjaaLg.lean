/- The document's Decode (as printed) comes to the same plain function as lz.Decode. -/
import Derived.Test.YtnomebkdhjigjaaMLzDecodesx3
import Derived.Test.YtnomebkdhjigjaaAd
namespace Go.Proofs.Ytnomebkdhjigjaa.W
open Go.RowKit Go.Proofs.Ytnomebkdhjigjaa.MLzDecodes Go.Proofs.YtnomebkdhjigjaaW.PrintWords Go.Proofs.YtnomebkdhjigjaaW.PrintLast
set_option linter.unusedVariables false
theorem ref_begin (b : List Int) (hb : Byt b) (hl : b.length ≤ 140737488355327) (k p : Nat) (hk : b.length < k) (hp : p ≤ b.length) :
    satchelref03_begin.f k b (p : Int) = some (if p = b.length then ((p : Int), 0, 0, false) else ((p : Int), (moreK b (b.getD p 0 / 16) (p + 1) : Int), (moreK b (b.getD p 0 / 16) (p + 1) : Int) + numS b (b.getD p 0 / 16) (p + 1), decide (numE b (b.getD p 0 / 16) (p + 1) = 0))) := by
  unfold satchelref03_begin.f
  rw [if_pos ⟨bytesB_of hb, hl, by omega, by omega⟩, Int.toNat_natCast]
theorem ref_match (b : List Int) (hb : Byt b) (hl : b.length ≤ 140737488355327) (k p k2 : Nat) (hk : b.length < k) (hp : p < b.length) (h2 : k2 ≤ b.length) : satchelref03_match.f k b (p : Int) (k2 : Int) = some (matchOut b p k2) := by
  unfold satchelref03_match.f
  rw [if_pos ⟨bytesB_of hb, hl, by omega, by omega, by omega, by omega⟩, Int.toNat_natCast, Int.toNat_natCast]
/-- What Decode tells of a decoding. -/
def outOf (bg : Nat) (R : Int × Int × List Int) : List Int × Int × Int := if R.2.1 ≠ 0 then ([], R.1, R.2.1) else (R.2.2.drop bg, 0, 0)
set_option maxHeartbeats 2000000 in
theorem ref_l0 (b : List Int) (hb : Byt b) (hl : b.length ≤ 140737488355327) (most : Int) (bg : Nat) (hm : 0 ≤ most ∧ most ≤ 4194304) (hbg : bg ≤ 65535) : ∀ (f k p : Nat) (all : List Int), p ≤ b.length → b.length < f + p → (all.length : Int) - (bg : Int) ≤ most → bg ≤ all.length → 2 * f + b.length + 4194320 ≤ k →
    satchelref03_Decode.l0 k b most all (bg : Int) (p : Int) = some (outOf bg (dec b (bg : Int) most f p all)) := by
  intro f
  induction f with
  | zero => intro k p all hp hf; omega
  | succ f ih =>
    intro k p all hp hf hs hba hk
    obtain ⟨k, rfl⟩ : ∃ q, k = q + 1 := ⟨k - 1, by omega⟩
    rw [satchelref03_Decode.l0, ref_begin b hb hl k p (by omega) hp, Option.bind_some, dec]
    by_cases c1 : p = b.length
    · rw [if_pos c1, if_pos c1]
      dsimp only
      rw [if_neg (show ¬ (false = true) by decide)]
      rfl
    rw [if_neg c1, if_neg c1]
    have hy := hb p
    have hq0 : 0 ≤ b.getD p 0 / 16 ∧ b.getD p 0 / 16 ≤ 15 := by omega
    have hq1 : 0 ≤ b.getD p 0 % 16 ∧ b.getD p 0 % 16 ≤ 15 := by omega
    have hnf := num_facts (k := p + 1) hb hq0.1 hq0.2 (by omega)
    have hmt : Int.tmod (b.getD p 0) 16 = b.getD p 0 % 16 := Int.tmod_eq_emod_of_nonneg hy.1
    generalize numS b (b.getD p 0 / 16) (p + 1) = n at hnf ⊢
    generalize numE b (b.getD p 0 / 16) (p + 1) = E at hnf ⊢
    generalize moreK b (b.getD p 0 / 16) (p + 1) = k1 at hnf ⊢
    rcases hnf with ⟨rfl, e2, e3⟩ | ⟨rfl, hk1a, hk1b, hn0, hnB⟩
    · rw [if_pos (show (4 : Int) ≠ 0 by decide)]
      dsimp only
      rw [if_neg (show ¬ (decide ((4 : Int) = 0) = true) by decide)]
      rfl
    rw [if_neg (show ¬ (0 : Int) ≠ 0 by decide)]
    dsimp only
    rw [if_pos (show decide ((0 : Int) = 0) = true by decide)]
    obtain ⟨m, rfl⟩ := Int.eq_ofNat_of_zero_le hn0
    have w1 : wrap64 ((k1 : Int) + (m : Int) - (k1 : Int)) = (m : Int) := by rw [IntWalk.wrap64_in _ (by omega)]; omega
    have w2 : wrap64 ((all.length : Int) - (bg : Int)) = (all.length : Int) - (bg : Int) := IntWalk.wrap64_in _ (by clear w1; omega)
    have w3 : wrap64 (most - ((all.length : Int) - (bg : Int))) = most - ((all.length : Int) - (bg : Int)) := IntWalk.wrap64_in _ (by clear w1 w2; omega)
    rw [w1, w2, w3]
    clear w1 w2 w3
    unfold roomE
    by_cases c3 : (m : Int) > most - ((all.length : Int) - (bg : Int))
    · rw [if_pos c3, if_pos c3, if_pos (show (32 : Int) ≠ 0 by decide)]
      rfl
    rw [if_neg c3, if_neg c3, if_neg (show ¬ (0 : Int) ≠ 0 by decide)]
    by_cases c4 : (m : Int) > (b.length : Int) - (k1 : Int)
    · rw [if_pos (show (k1 : Int) + (m : Int) > (b.length : Int) by omega), if_pos c4]
      rfl
    obtain ⟨k2, hk2⟩ : ∃ k2, k2 = k1 + m := ⟨_, rfl⟩
    have e2 : (k1 : Int) + (m : Int) = (k2 : Int) := by omega
    rw [if_neg (show ¬ (k1 : Int) + (m : Int) > (b.length : Int) by omega), if_neg c4, if_pos (show (0 : Int) ≤ (k1 : Int) by omega), if_pos (show (k1 : Int) ≤ (k1 : Int) + (m : Int) by omega), if_pos (show (k1 : Int) + (m : Int) ≤ (b.length : Int) by omega), e2]
    simp only [Int.toNat_natCast]
    rw [← hk2]
    clear e2
    have hxl : ((b.take k2).drop k1).length = m := by rw [List.length_drop, List.length_take]; omega
    rw [if_pos (show all.length + ((b.take k2).drop k1).length < 140737488355328 by omega), Option.bind_some]
    obtain ⟨al, hal⟩ : ∃ al, al = all ++ (b.take k2).drop k1 := ⟨_, rfl⟩
    have hall : al.length = all.length + m := by rw [hal, List.length_append, hxl]
    rw [← hal]
    clear hal hxl
    unfold dec.dec2
    by_cases c5 : k2 = b.length
    · rw [if_pos (show (k2 : Int) = (b.length : Int) by omega), if_pos c5, if_pos (show (0 : Int) ≤ (p : Int) by omega), if_pos (show (p : Int) < (b.length : Int) by omega), rd_nat, hmt]
      by_cases c6 : b.getD p 0 % 16 = 0
      · rw [if_pos c6, if_pos (show (0 : Int) ≤ (bg : Int) by omega), if_pos (show (bg : Int) ≤ (al.length : Int) by omega), if_neg (show ¬ (b.getD p 0 % 16 ≠ 0) by omega)]
        rfl
      · rw [if_neg c6, if_pos c6]
        rfl
    rw [if_neg (show ¬ (k2 : Int) = (b.length : Int) by omega), if_neg c5]
    have w4 : wrap64 ((k2 : Int) + 2) = ((k2 + 2 : Nat) : Int) := by rw [IntWalk.wrap64_in _ (by omega)]; omega
    rw [w4]
    clear w4
    by_cases c7 : (b.length : Int) - (k2 : Int) < 2
    · rw [if_pos (show ((k2 + 2 : Nat) : Int) > (b.length : Int) by omega), if_pos c7]
      rfl
    have hy0 := hb k2
    have hy1 := hb (k2 + 1)
    have w5 : wrap64 ((k2 : Int) + 1) = ((k2 + 1 : Nat) : Int) := by rw [IntWalk.wrap64_in _ (by omega)]; omega
    rw [if_neg (show ¬ ((k2 + 2 : Nat) : Int) > (b.length : Int) by clear w5; omega), if_neg c7, if_pos (show (0 : Int) ≤ (k2 : Int) by clear w5; omega), if_pos (show (k2 : Int) < (b.length : Int) by clear w5; omega), w5]
    clear w5
    rw [if_pos (show (0 : Int) ≤ ((k2 + 1 : Nat) : Int) by omega), if_pos (show ((k2 + 1 : Nat) : Int) < (b.length : Int) by omega), rd_nat, rd_nat]
    have w6 : wrap64 (b.getD k2 0) = b.getD k2 0 := IntWalk.wrap64_in _ (by omega)
    have w7 : wrap64 (b.getD (k2 + 1) 0) = b.getD (k2 + 1) 0 := IntWalk.wrap64_in _ (by clear w6; omega)
    have w8 : wrap64 (256 * b.getD (k2 + 1) 0) = 256 * b.getD (k2 + 1) 0 := IntWalk.wrap64_in _ (by clear w6 w7; omega)
    have w9 : wrap64 (b.getD k2 0 + 256 * b.getD (k2 + 1) 0) = b.getD k2 0 + b.getD (k2 + 1) 0 * 256 := by clear w6 w7 w8; rw [IntWalk.wrap64_in _ (by omega)]; omega
    rw [w6, w7, w8, w9]
    clear w6 w7 w8 w9
    obtain ⟨k, rfl⟩ : ∃ q, k = q + 1 := ⟨k - 1, by omega⟩
    have hM := ref_match b hb hl k p k2 (by omega) (by omega) (by omega)
    unfold matchOut at hM
    rw [if_neg c7] at hM
    by_cases c8 : b.getD k2 0 + b.getD (k2 + 1) 0 * 256 = 0
    · rw [if_pos c8, if_pos c8, satchelref03_Decode.j2, if_pos rfl]
      rfl
    rw [if_neg c8] at hM
    rw [if_neg c8, if_neg c8]
    by_cases c9 : b.getD k2 0 + b.getD (k2 + 1) 0 * 256 > (al.length : Int)
    · rw [decide_eq_true c9, if_pos c9, satchelref03_Decode.j2, if_pos rfl]
      rfl
    rw [decide_eq_false c9, if_neg c9, satchelref03_Decode.j2, if_neg (by decide), hM, Option.bind_some]
    have hnf2 := num_facts (k := k2 + 2) hb hq1.1 hq1.2 (by omega)
    generalize numS b (b.getD p 0 % 16) (k2 + 2) = n2 at hnf2 ⊢
    generalize numE b (b.getD p 0 % 16) (k2 + 2) = E2 at hnf2 ⊢
    generalize moreK b (b.getD p 0 % 16) (k2 + 2) = k3 at hnf2 ⊢
    rcases hnf2 with ⟨rfl, e4, e5⟩ | ⟨rfl, hk3a, hk3b, hn20, hn2B⟩
    · rw [if_pos (show (4 : Int) ≠ 0 by decide), if_pos (show (4 : Int) ≠ 0 by decide)]
      dsimp only
      rw [if_neg (show ¬ ((4 : Int) = 0) by decide)]
      rfl
    rw [if_neg (show ¬ (0 : Int) ≠ 0 by decide), if_neg (show ¬ (0 : Int) ≠ 0 by decide)]
    dsimp only
    rw [if_pos (show (0 : Int) = 0 from rfl)]
    have w10 : wrap64 ((al.length : Int) - (bg : Int)) = (al.length : Int) - (bg : Int) := IntWalk.wrap64_in _ (by omega)
    have w11 : wrap64 (most - ((al.length : Int) - (bg : Int))) = most - ((al.length : Int) - (bg : Int)) := IntWalk.wrap64_in _ (by clear w10; omega)
    rw [w10, w11]
    clear w10 w11
    unfold roomE
    by_cases c11 : n2 + 4 > most - ((al.length : Int) - (bg : Int))
    · rw [if_pos c11, if_pos c11, if_pos (show (32 : Int) ≠ 0 by decide)]
      rfl
    obtain ⟨m2, rfl⟩ := Int.eq_ofNat_of_zero_le hn20
    obtain ⟨bk, hbk⟩ := Int.eq_ofNat_of_zero_le (show 0 ≤ b.getD k2 0 + b.getD (k2 + 1) 0 * 256 by omega)
    rw [if_neg c11, if_neg c11, if_neg (show ¬ (0 : Int) ≠ 0 by decide), hbk, show (m2 : Int) + 4 = ((m2 + 4 : Nat) : Int) by omega, satchelref03_copied.f, show (0 : Int) = ((0 : Nat) : Int) by rfl, ref_copied bk (by omega) (m2 + 4) (by omega) (m2 + 4) k 0 al (by omega) (by omega) (by omega) (by omega), Option.bind_some, Int.toNat_natCast, Int.toNat_natCast]
    have hcl := copied_len bk (m2 + 4) al
    exact ih k k3 _ hk3b (by omega) (by omega) (by omega) (by omega)
theorem ref_decode (b ahead : List Int) (most : Int) (hb : Byt b) (hl : b.length ≤ 140737488355327) (hl2 : ahead.length ≤ 140737488355327) : ∃ k, satchelref03_Decode.f k b ahead most = some (decode b ahead most) := by
  refine ⟨2 * (b.length + 1) + b.length + 4194321, ?_⟩
  unfold satchelref03_Decode.f decode
  by_cases c : most < 0
  · rw [if_pos c, if_pos (.inl c), satchelref03_Decode.j0, if_pos rfl]
  rw [if_neg c]
  by_cases c2 : most > 4194304
  · rw [if_pos (.inr c2), decide_eq_true c2, satchelref03_Decode.j0, if_pos rfl]
  rw [if_neg (by omega), decide_eq_false c2, satchelref03_Decode.j0, if_neg (by decide), ref_window ahead hl2, Option.bind_some]
  have hw := (window_len ahead).1
  rw [show (0 : Int) = ((0 : Nat) : Int) by rfl, ref_l0 b hb hl most (window ahead).length ⟨by omega, by omega⟩ hw (b.length + 1) _ 0 (window ahead) (by omega) (by omega) (by omega) (Nat.le_refl _) (by omega)]
  rfl
end Go.Proofs.Ytnomebkdhjigjaa.W
