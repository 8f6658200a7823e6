/- One form: what is parsed is made again, what is made is parsed again, Decode is Play of Parse: plain facts. -/
import Derived.Test.YtnomebkdhjigjaaLn
import Derived.Test.YtnomebkdhjigjaaLy
import Derived.Test.YtnomebkdhjigjaaAc
import Derived.Test.YtnomebkdhjigjaaRs
import Derived.Test.YtnomebkdhjigjaaPurLzParses
namespace Go.Proofs.Ytnomebkdhjigjaa.W
open Go.RowKit Go.Proofs.Ytnomebkdhjigjaa.Z Go.Proofs.Ytnomebkdhjigjaa.MLzDecodes Go.Proofs.YtnomebkdhjigjaaW.PrintWords Go.Proofs.YtnomebkdhjigjaaW.PrintLast Go.Proofs.YtnomebkdhjigjaaW.PrintMore
set_option linter.unusedVariables false
set_option linter.unusedSimpArgs false
theorem ext_numN : ∀ (n : Nat) (rest : List Int), ext (numN n ++ rest) = some ((n : Int), (numN n).length) := by
  intro n
  induction n using Nat.strongRecOn with
  | _ n ih =>
    intro rest
    by_cases c : n < 255
    · rw [numN_small n c, List.singleton_append, ext, if_pos (by omega)]
      rfl
    · rw [numN_more n (by omega), List.cons_append, ext, if_neg (by omega), ih (n - 255) (by omega)]
      show some ((255 : Int) + ((n - 255 : Nat) : Int), (numN (n - 255)).length + 1) = some ((n : Int), (numN (n - 255)).length + 1)
      have : (255 : Int) + ((n - 255 : Nat) : Int) = (n : Int) := by omega
      rw [this]
theorem ext_inv : ∀ (l : List Int) (s : Int) (k : Nat), Byt l → ext l = some (s, k) → 0 ≤ s ∧ l = numN s.toNat ++ l.drop k := by
  intro l
  induction l with
  | nil => intro s k _ h; cases h
  | cons x r ih =>
    intro s k hb h
    have h0 := hb 0
    simp at h0
    rw [ext] at h
    by_cases c : x < 255
    · rw [if_pos c] at h
      cases h
      refine ⟨h0.1, ?_⟩
      rw [numN_small _ (by omega)]
      have : ((x.toNat : Nat) : Int) = x := by omega
      rw [this]
      rfl
    · rw [if_neg c] at h
      cases e : ext r with
      | none => rw [e] at h; cases h
      | some p =>
        obtain ⟨s', k'⟩ := p
        rw [e] at h
        cases h
        obtain ⟨h1, h2⟩ := ih s' k' (hb.drop 1) e
        have hx : x = 255 := by omega
        subst hx
        refine ⟨by omega, ?_⟩
        rw [numN_more _ (by omega)]
        have : ((255 : Int) + s').toNat - 255 = s'.toNat := by omega
        rw [this, List.cons_append, List.drop_succ_cons, ← h2]
theorem half_num (n : Int) (h : 0 ≤ n) (b rest : List Int) (k : Nat) (hd : b.drop k = ext255 n ++ rest) : num b (half n) k = some (n, k + (ext255 n).length) := by
  unfold half ext255 at *
  by_cases c : n < 15
  · rw [if_pos c] at hd
    rw [if_pos c, if_pos c]
    unfold num
    rw [if_pos c]
    rfl
  · rw [if_neg c] at hd
    rw [if_neg c, if_neg c]
    unfold num
    rw [if_neg (by decide), hd, ext_numN]
    show some ((15 : Int) + (((n - 15).toNat : Nat) : Int), k + _) = _
    have : (15 : Int) + (((n - 15).toNat : Nat) : Int) = n := by omega
    rw [this]
theorem num_inv {b : List Int} {h s : Int} {k j : Nat} (hb : Byt b) (h0 : 0 ≤ h) (h1 : h ≤ 15) (hn : num b h k = some (s, j)) : half s = h ∧ 0 ≤ s ∧ k ≤ j ∧ b.drop k = ext255 s ++ b.drop j := by
  unfold num at hn
  by_cases c : h < 15
  · rw [if_pos c] at hn
    cases hn
    refine ⟨if_pos c, h0, Nat.le_refl _, ?_⟩
    unfold ext255
    rw [if_pos c]
    rfl
  · rw [if_neg c] at hn
    cases e : ext (b.drop k) with
    | none => rw [e] at hn; cases hn
    | some p =>
      obtain ⟨s', k'⟩ := p
      rw [e] at hn
      cases hn
      obtain ⟨h2, h3⟩ := ext_inv _ _ _ (hb.drop k) e
      have hh : h = 15 := by omega
      subst hh
      refine ⟨if_neg (by omega), by omega, by omega, ?_⟩
      unfold ext255
      rw [if_neg (by omega)]
      have : ((15 : Int) + s' - 15).toNat = s'.toNat := by omega
      rw [this, ← List.drop_drop]
      exact h3
theorem numE_zero {b : List Int} {n : Int} {k : Nat} (h : numE b n k = 0) : num b n k = some (numS b n k, moreK b n k) := by
  unfold numE numS moreK at *
  cases e : num b n k with
  | none => rw [e] at h; cases h
  | some p => rfl
theorem num_some {b : List Int} {n s : Int} {k j : Nat} (h : num b n k = some (s, j)) : numE b n k = 0 ∧ numS b n k = s ∧ moreK b n k = j := by
  unfold numE numS moreK
  rw [h]
  exact ⟨rfl, rfl, rfl⟩
theorem drop_cons {b : List Int} {k : Nat} (h : k < b.length) : b.drop k = b.getD k 0 :: b.drop (k + 1) := by
  rw [List.getD_eq_getElem?_getD, List.getElem?_eq_getElem h]
  exact List.drop_eq_getElem_cons h
theorem getD_of_drop {b : List Int} {k : Nat} {x : Int} {r : List Int} (h : b.drop k = x :: r) : k < b.length ∧ b.getD k 0 = x ∧ b.drop (k + 1) = r := by
  have hk : k < b.length := by
    rcases Nat.lt_or_ge k b.length with h1 | h1
    · exact h1
    · rw [List.drop_of_length_le h1] at h; cases h
  rw [drop_cons hk] at h
  injection h with h1 h2
  exact ⟨hk, h1, h2⟩
/-- What is parsed: made, its bytes, how it is played. -/
theorem prs_inv (b : List Int) (hb : Byt b) : ∀ (f k : Nat) (L L' : List S44) (a : Int), k ≤ b.length → b.length < f + k → prs b f k L = (a, 0, L') →
    ∃ T, L' = L ++ T ∧ madeP T = true ∧ b.drop k = T.flatMap putP ∧ (∀ s ∈ T, s.f2 ≤ 19 + 255 * (b.length : Int)) ∧ ∀ (bg most : Int) (all : List Int), (dec b bg most f k all).2 = ((playL bg most T all).1, (playL bg most T all).2) ∨ ((dec b bg most f k all).2.1 ≠ 0 ∧ (dec b bg most f k all).2.1 = (playL bg most T all).1) := by
  intro f
  induction f with
  | zero => intro k L L' a hk hf h; omega
  | succ f ih =>
    intro k L L' a hk hf h
    rw [prs] at h
    by_cases c1 : k = b.length
    · rw [if_pos c1] at h; injection h with _ h; injection h with h _; cases h
    rw [if_neg c1] at h
    have hkl : k < b.length := by omega
    have hx := hb k
    by_cases c2 : numE b (b.getD k 0 / 16) (k + 1) ≠ 0
    · rw [if_pos c2] at h; injection h with _ h; injection h with h _; cases h
    rw [if_neg c2] at h
    have hn := numE_zero (Classical.not_not.1 c2)
    have hfa := num_bound hb (by omega) (by omega) (show k + 1 ≤ b.length by omega) hn
    have hi := num_inv hb (by omega) (by omega) hn
    by_cases c3 : numS b (b.getD k 0 / 16) (k + 1) > (b.length : Int) - (moreK b (b.getD k 0 / 16) (k + 1) : Nat)
    · rw [if_pos c3] at h; injection h with _ h; injection h with h _; cases h
    rw [if_neg c3] at h
    have hdec : ∀ bg most all, dec b bg most (f + 1) k all = if roomE all bg most (numS b (b.getD k 0 / 16) (k + 1)) ≠ 0 then (((moreK b (b.getD k 0 / 16) (k + 1) : Nat) : Int), 32, all) else
        dec.dec2 b bg most k (moreK b (b.getD k 0 / 16) (k + 1) + (numS b (b.getD k 0 / 16) (k + 1)).toNat) (all ++ (b.take (moreK b (b.getD k 0 / 16) (k + 1) + (numS b (b.getD k 0 / 16) (k + 1)).toNat)).drop (moreK b (b.getD k 0 / 16) (k + 1))) (dec b bg most f) := by
      intro bg most all
      rw [dec, if_neg c1, if_neg c2, if_neg c3]
    have hd := drop_cons hkl
    clear c1 c2 hn
    generalize numS b (b.getD k 0 / 16) (k + 1) = n at *
    generalize moreK b (b.getD k 0 / 16) (k + 1) = j at *
    obtain ⟨k2, hk2⟩ : ∃ k2, k2 = j + n.toNat := ⟨_, rfl⟩
    have hk2l : k2 ≤ b.length := by omega
    rw [← hk2] at h
    obtain ⟨xs, hxs⟩ : ∃ xs, xs = (b.take k2).drop j := ⟨_, rfl⟩
    rw [← hxs] at h
    have hxl : (xs.length : Int) = n := by rw [hxs, List.length_drop, List.length_take]; omega
    have hjs : b.drop j = xs ++ b.drop k2 := by
      rw [hxs, show b.drop k2 = (b.drop j).drop (k2 - j) by rw [List.drop_drop]; congr 1; omega, List.drop_take, List.take_append_drop]
    simp only [← hk2, ← hxs] at hdec
    rw [hi.2.2.2, hjs] at hd
    unfold prs.prs2 at h
    by_cases c4 : k2 = b.length
    · rw [if_pos c4] at h
      by_cases c5 : b.getD k 0 % 16 ≠ 0
      · rw [if_pos c5] at h; injection h with _ h; injection h with h _; cases h
      rw [if_neg c5] at h
      injection h with _ h
      injection h with _ h
      refine ⟨[⟨xs, 0, 0⟩], h.symm, rfl, ?_, (fun s hs => by rw [List.mem_singleton.1 hs]; show (0 : Int) ≤ _; omega), ?_⟩
      · rw [hd, c4, List.drop_length]
        simp only [List.flatMap_cons, List.flatMap_nil, putP, if_true, List.append_nil]
        rw [hxl, hi.1]
        have : 16 * (b.getD k 0 / 16) + 0 = b.getD k 0 := by omega
        rw [this]
        simp
      · intro bg most all
        rw [hdec]
        unfold roomE playL
        simp only [hxl]
        by_cases c6 : n > most - ((all.length : Int) - bg)
        · rw [if_pos c6, if_pos c6]
          exact .inr ⟨by simp, rfl⟩
        · rw [if_neg c6, if_neg c6]
          simp only [ne_eq, not_true_eq_false, if_false]
          unfold dec.dec2
          rw [if_pos c4, if_neg c5]
          exact .inl rfl
    rw [if_neg c4] at h
    by_cases c5 : (b.length : Int) - (k2 : Int) < 2
    · rw [if_pos c5] at h; injection h with _ h; injection h with h _; cases h
    rw [if_neg c5] at h
    by_cases c6 : b.getD k2 0 + b.getD (k2 + 1) 0 * 256 = 0
    · rw [if_pos c6] at h; injection h with _ h; injection h with h _; cases h
    rw [if_neg c6] at h
    by_cases c7 : numE b (b.getD k 0 % 16) (k2 + 2) ≠ 0
    · rw [if_pos c7] at h; injection h with _ h; injection h with h _; cases h
    rw [if_neg c7] at h
    have hn2 := numE_zero (Classical.not_not.1 c7)
    have hfa2 := num_bound hb (by omega) (by omega) (show k2 + 2 ≤ b.length by omega) hn2
    have hi2 := num_inv hb (by omega) (by omega) hn2
    have y0 := hb k2
    have y1 := hb (k2 + 1)
    have hdec2 : ∀ bg most all, dec.dec2 b bg most k k2 all (dec b bg most f) = if b.getD k2 0 + b.getD (k2 + 1) 0 * 256 > (all.length : Int) then ((k2 : Int), 30, all) else
        if roomE all bg most (numS b (b.getD k 0 % 16) (k2 + 2) + 4) ≠ 0 then ((k2 : Int), 32, all) else
        dec b bg most f (moreK b (b.getD k 0 % 16) (k2 + 2)) (copied (b.getD k2 0 + b.getD (k2 + 1) 0 * 256).toNat (numS b (b.getD k 0 % 16) (k2 + 2) + 4).toNat all) := by
      intro bg most all
      unfold dec.dec2
      rw [if_neg c4, if_neg c5, if_neg c6, if_neg c7]
    have hd2 := drop_cons (show k2 < b.length by omega)
    rw [drop_cons (show k2 + 1 < b.length by omega), show k2 + 1 + 1 = k2 + 2 from rfl, hi2.2.2.2] at hd2
    clear c7 hn2
    generalize numS b (b.getD k 0 % 16) (k2 + 2) = m at *
    generalize moreK b (b.getD k 0 % 16) (k2 + 2) = j2 at *
    generalize hbk : b.getD k2 0 + b.getD (k2 + 1) 0 * 256 = bk at *
    have hm1 : b.getD k2 0 = bk % 256 := by omega
    have hm2 : b.getD (k2 + 1) 0 = bk / 256 := by omega
    obtain ⟨T, hT1, hT2, hT3, hT5, hT4⟩ := ih j2 _ _ _ (by omega) (by omega) h
    refine ⟨⟨xs, bk, m + 4⟩ :: T, by rw [hT1, List.append_assoc]; rfl, ?_, ?_, (fun s hs => by
      rcases List.mem_cons.1 hs with hs | hs
      · rw [hs]; show m + 4 ≤ _; omega
      · exact hT5 s hs), ?_⟩
    · cases T with
      | nil => cases hT2
      | cons t u =>
        rw [madeP, hT2, Bool.and_true]
        exact decide_eq_true ⟨by show 1 ≤ bk; omega, by show bk < 65536; omega, by show 4 ≤ m + 4; omega⟩
    · rw [hd, hd2, hT3, List.flatMap_cons]
      simp only [putP]
      rw [if_neg (show ¬ bk = 0 from c6), if_neg (show ¬ bk = 0 from c6), hxl, hi.1, show m + 4 - 4 = m by omega, hi2.1, hm1, hm2]
      have : 16 * (b.getD k 0 / 16) + b.getD k 0 % 16 = b.getD k 0 := by omega
      rw [this]
      simp
    · intro bg most all
      rw [hdec, playL]
      unfold roomE
      simp only [hxl]
      by_cases c8 : n > most - ((all.length : Int) - bg)
      · rw [if_pos c8, if_pos c8]
        exact .inr ⟨by simp, rfl⟩
      · rw [if_neg c8, if_neg c8]
        simp only [ne_eq, not_true_eq_false, if_false]
        rw [hdec2, if_neg (show ¬ bk = 0 from c6)]
        by_cases c9 : bk > ((all ++ xs).length : Int)
        · rw [if_pos c9, if_pos c9]
          exact .inr ⟨by simp, rfl⟩
        · rw [if_neg c9, if_neg c9]
          unfold roomE
          by_cases c10 : m + 4 > most - (((all ++ xs).length : Int) - bg)
          · rw [if_pos c10, if_pos c10]
            exact .inr ⟨by simp, rfl⟩
          · rw [if_neg c10, if_neg c10]
            simp only [ne_eq, not_true_eq_false, if_false]
            exact hT4 bg most _
/-- What is made is parsed. -/
theorem prs_make (b : List Int) : ∀ (T : List S44) (f k : Nat) (L : List S44), madeP T = true → b.drop k = T.flatMap putP → k ≤ b.length → b.length < f + k → prs b f k L = (0, 0, L ++ T) := by
  intro T
  induction T with
  | nil => intro f k L h; cases h
  | cons s t ih =>
    intro f k L hm hd hk hf
    cases f with
    | zero => 
      rw [List.flatMap_cons] at hd
      have := congrArg List.length hd
      simp [putP] at this
      omega
    | succ f =>
      have hs : OkS s ∧ (t = [] ↔ s.f1 = 0) := by
        cases t with
        | nil =>
          have := of_decide_eq_true hm
          exact ⟨.inl this, fun _ => this.1, fun _ => rfl⟩
        | cons t u =>
          rw [madeP, Bool.and_eq_true] at hm
          have := of_decide_eq_true hm.1
          exact ⟨.inr this, (fun h => by cases h), (fun h => by omega)⟩
      rw [List.flatMap_cons] at hd
      obtain ⟨tok, htok⟩ : ∃ tok, tok = 16 * half (s.f0.length : Int) + (if s.f1 = 0 then 0 else half (s.f2 - 4)) := ⟨_, rfl⟩
      have hd' : b.drop k = tok :: (ext255 (s.f0.length : Int) ++ (s.f0 ++ ((if s.f1 = 0 then [] else [s.f1 % 256, s.f1 / 256] ++ ext255 (s.f2 - 4)) ++ t.flatMap putP))) := by
        rw [hd, htok]
        simp [putP]
      obtain ⟨hkl, hg, hd1⟩ := getD_of_drop hd'
      have hh := half_le (s.f0.length : Int) (by omega)
      have hh2 : 0 ≤ (if s.f1 = 0 then (0 : Int) else half (s.f2 - 4)) ∧ (if s.f1 = 0 then (0 : Int) else half (s.f2 - 4)) ≤ 15 := by
        by_cases c : s.f1 = 0
        · rw [if_pos c]; decide
        · rw [if_neg c]
          refine half_le _ ?_
          rcases hs.1 with h | h <;> omega
      have hq : tok / 16 = half (s.f0.length : Int) := by omega
      have hr : tok % 16 = (if s.f1 = 0 then (0 : Int) else half (s.f2 - 4)) := by omega
      have hn := num_some (half_num (s.f0.length : Int) (by omega) b _ (k + 1) hd1)
      rw [prs, if_neg (by omega), hg, hq, hn.1, hn.2.1, hn.2.2]
      rw [if_neg (by decide)]
      obtain ⟨j, hj⟩ : ∃ j, j = k + 1 + (ext255 (s.f0.length : Int)).length := ⟨_, rfl⟩
      rw [← hj]
      have hdj : b.drop j = s.f0 ++ ((if s.f1 = 0 then [] else [s.f1 % 256, s.f1 / 256] ++ ext255 (s.f2 - 4)) ++ t.flatMap putP) := by
        rw [hj, ← List.drop_drop, hd1, List.drop_left]
      have hjl : b.length = j + (s.f0.length + ((if s.f1 = 0 then [] else [s.f1 % 256, s.f1 / 256] ++ ext255 (s.f2 - 4)) ++ t.flatMap putP).length) ∨ b.length < j := by
        have := congrArg List.length hdj
        rw [List.length_drop, List.length_append] at this
        omega
      have hjl2 : j ≤ b.length := by
        have := congrArg List.length hd1
        rw [List.length_drop, List.length_append] at this
        omega
      rw [if_neg (by omega)]
      have hxs : (b.take (j + ((s.f0.length : Nat) : Int).toNat)).drop j = s.f0 := by
        rw [List.drop_take, hdj, show j + ((s.f0.length : Nat) : Int).toNat - j = s.f0.length by omega, List.take_left]
      rw [hxs]
      obtain ⟨k2, hk2⟩ : ∃ k2, k2 = j + ((s.f0.length : Nat) : Int).toNat := ⟨_, rfl⟩
      rw [← hk2]
      have hdk : b.drop k2 = (if s.f1 = 0 then [] else [s.f1 % 256, s.f1 / 256] ++ ext255 (s.f2 - 4)) ++ t.flatMap putP := by
        rw [hk2, ← List.drop_drop, hdj, show ((s.f0.length : Nat) : Int).toNat = s.f0.length by omega, List.drop_left]
      unfold prs.prs2
      by_cases c : s.f1 = 0
      · have ht := hs.2.2 c
        subst ht
        rw [if_pos c] at hdk hr
        have hkb : k2 = b.length := by
          have := congrArg List.length hdk
          simp at this
          omega
        rw [if_pos hkb, hg, hr, if_neg (by decide)]
        have hs2 : s.f2 = 0 := by
          rcases hs.1 with h | h <;> omega
        cases s with
        | mk f0 f1 f2 =>
          simp only at c hs2
          subst c hs2
          rfl
      · have hok : 1 ≤ s.f1 ∧ s.f1 < 65536 ∧ 4 ≤ s.f2 := by
          rcases hs.1 with h | h
          · exact absurd h.1 c
          · exact h
        rw [if_neg c] at hdk hr
        have hdk' : b.drop k2 = (s.f1 % 256) :: (s.f1 / 256) :: (ext255 (s.f2 - 4) ++ t.flatMap putP) := by rw [hdk]; rfl
        obtain ⟨h1, h2, h3⟩ := getD_of_drop hdk'
        obtain ⟨h4, h5, h6⟩ := getD_of_drop h3
        have hmn := num_some (half_num (s.f2 - 4) (by omega) b _ (k2 + 2) h6)
        rw [if_neg (by omega), if_neg (by omega), h2, h5, hg, hr, hmn.1, hmn.2.1, hmn.2.2]
        rw [show s.f1 % 256 + s.f1 / 256 * 256 = s.f1 by omega, show s.f2 - 4 + 4 = s.f2 by omega, if_neg c, if_neg (by decide)]
        have htm : madeP t = true := by
          cases t with
          | nil => exact absurd (hs.2.1 rfl) c
          | cons t u =>
            rw [madeP, Bool.and_eq_true] at hm
            exact hm.2
        have hdt : b.drop (k2 + 2 + (ext255 (s.f2 - 4)).length) = t.flatMap putP := by
          rw [← List.drop_drop, h6, List.drop_left]
        have hle : k2 + 2 + (ext255 (s.f2 - 4)).length ≤ b.length := by
          have := congrArg List.length h6
          rw [List.length_drop, List.length_append] at this
          omega
        rw [ih f _ _ htm hdt hle (by omega), List.append_assoc]
        rfl
theorem parse_make (l : List S44) (hm : madeP l = true) : parse (l.flatMap putP) = (l, 0, 0) := by
  unfold parse
  rw [prs_make (l.flatMap putP) l ((l.flatMap putP).length + 1) 0 [] hm rfl (Nat.zero_le _) (by omega)]
  rfl
/-- Parse without an error. -/
theorem parse_ok (b : List Int) (hb : Byt b) (h : (parse b).2.2 = 0) : madeP (parse b).1 = true ∧ b = (parse b).1.flatMap putP ∧ (∀ s ∈ (parse b).1, s.f2 ≤ 19 + 255 * (b.length : Int)) ∧ ∀ (ahead : List Int) (most : Int), (play (parse b).1 ahead most).2 = (decode b ahead most).2.2 ∧ (play (parse b).1 ahead most).1 = (decode b ahead most).1 := by
  unfold parse at h ⊢
  by_cases c : (prs b (b.length + 1) 0 []).2.1 ≠ 0
  · rw [if_pos c] at h
    exact absurd h c
  rw [if_neg c] at h ⊢
  obtain ⟨T, h1, h2, h3, h7, h4⟩ := prs_inv b hb (b.length + 1) 0 [] (prs b (b.length + 1) 0 []).2.2 (prs b (b.length + 1) 0 []).1 (Nat.zero_le _) (by omega) (by rw [← Classical.not_not.1 c])
  rw [List.nil_append] at h1
  show madeP (prs b (b.length + 1) 0 []).2.2 = true ∧ b = (prs b (b.length + 1) 0 []).2.2.flatMap putP ∧ (∀ s ∈ (prs b (b.length + 1) 0 []).2.2, s.f2 ≤ 19 + 255 * (b.length : Int)) ∧ ∀ (ahead : List Int) (most : Int), (play (prs b (b.length + 1) 0 []).2.2 ahead most).2 = (decode b ahead most).2.2 ∧ (play (prs b (b.length + 1) 0 []).2.2 ahead most).1 = (decode b ahead most).1
  rw [h1]
  refine ⟨h2, h3, h7, fun ahead most => ?_⟩
  unfold play decode
  by_cases c1 : most < 0 ∨ most > 4194304
  · rw [if_pos c1, if_pos (by rcases c1 with c1 | c1 <;> simp [c1])]
    exact ⟨rfl, rfl⟩
  · have c2 : ¬ (most < 0 ∨ most > 4194304 ∨ madeP T = false) := by
      rw [h2]
      rintro (h | h | h)
      · exact c1 (.inl h)
      · exact c1 (.inr h)
      · cases h
    rw [if_neg c1, if_neg c2]
    rcases h4 (window ahead).length most (window ahead) with h5 | ⟨h5, h6⟩
    · rw [h5]
      by_cases c2 : (playL (window ahead).length most T (window ahead)).1 ≠ 0
      · rw [if_pos c2, if_pos c2]
        exact ⟨rfl, rfl⟩
      · rw [if_neg c2, if_neg c2]
        exact ⟨rfl, rfl⟩
    · rw [if_pos h5, ← h6, if_pos h5]
      exact ⟨rfl, rfl⟩
theorem make_ab : makeP [⟨[97, 98], 0, 0⟩] = ([32, 97, 98], 0) := by decide
def BytM (l : List Int) : Prop := ∀ x ∈ l, 0 ≤ x ∧ x < 256
theorem BytM.byt {l : List Int} (h : BytM l) : Byt l := fun i => by
  rw [List.getD_eq_getElem?_getD]
  cases e : l[i]? with
  | none => exact ⟨by decide, by decide⟩
  | some x => exact h x (List.mem_of_getElem? e)
theorem BytM.append {a b : List Int} (h : BytM a) (h' : BytM b) : BytM (a ++ b) := fun x hx => by
  rcases List.mem_append.1 hx with hx | hx
  · exact h x hx
  · exact h' x hx
theorem bytM_num (n : Nat) : BytM (numN n) := fun x hx => by
  unfold numN at hx
  rcases List.mem_append.1 hx with hx | hx
  · have := (List.mem_replicate.1 hx).2; omega
  · have := List.mem_singleton.1 hx; omega
theorem bytM_ext (n : Int) : BytM (ext255 n) := by
  unfold ext255
  split
  · intro x hx; cases hx
  · exact bytM_num _
theorem bytM_put (s : S44) (hs : OkS s) (hb : BytM s.f0) : BytM (putP s) := by
  have hh := half_le (s.f0.length : Int) (by omega)
  have hh2 : 0 ≤ (if s.f1 = 0 then (0 : Int) else half (s.f2 - 4)) ∧ (if s.f1 = 0 then (0 : Int) else half (s.f2 - 4)) ≤ 15 := by
    by_cases c : s.f1 = 0
    · rw [if_pos c]; decide
    · rw [if_neg c]
      refine half_le _ ?_
      rcases hs with h | h <;> omega
  unfold putP
  refine BytM.append (BytM.append (BytM.append (fun x hx => ?_) (bytM_ext _)) hb) ?_
  · have := List.mem_singleton.1 hx
    omega
  · split
    · intro x hx; cases hx
    · refine BytM.append (fun x hx => ?_) (bytM_ext _)
      have h1 : s.f1 < 65536 ∧ 0 ≤ s.f1 := by rcases hs with h | h <;> omega
      simp at hx
      rcases hx with hx | hx <;> omega
theorem bytM_flat (l : List S44) (h : ∀ s ∈ l, OkS s ∧ BytM s.f0) : BytM (l.flatMap putP) := fun x hx => by
  obtain ⟨s, h1, h2⟩ := List.mem_flatMap.1 hx
  exact bytM_put s (h s h1).1 (h s h1).2 x h2
/-- What Make makes without an error. -/
theorem make_ok (l : List S44) (hl : l.length ≤ 1099511627) (hb : ∀ s ∈ l, BytM s.f0) (h : (makeP l).2 = 0) : Byt (makeP l).1 ∧ (makeP l).1.length ≤ 1099511627776 ∧ parse (makeP l).1 = (l, 0, 0) := by
  unfold makeP at *
  by_cases c : madeP l = false
  · rw [if_pos c] at h; cases h
  · rw [if_neg c] at h ⊢
    have hm : madeP l = true := by cases e : madeP l <;> simp_all
    by_cases c2 : longP l 0 = true
    · rw [if_pos c2] at h; cases h
    · rw [if_neg c2] at h ⊢
      have h0 : longP l 0 = false := by cases e : longP l 0 <;> simp_all
      have hlen := long_bytes l hm l.length 0 0 (by omega) (by omega) (by omega) (by rw [List.drop_zero]; exact h0)
      rw [List.drop_zero] at hlen
      refine ⟨(bytM_flat l (fun s hs => ⟨?_, hb s hs⟩)).byt, by show (l.flatMap putP).length ≤ _; omega, parse_make l hm⟩
      obtain ⟨i, hi, e⟩ := List.mem_iff_getElem.1 hs
      have := (ok_at hm i hi).1
      rw [List.getD_eq_getElem?_getD, List.getElem?_eq_getElem hi, Option.getD_some, e] at this
      exact this
/-- What Make makes of what was parsed. -/
theorem make_parsed (b : List Int) (hb : Byt b) (h : (parse b).2.2 = 0) : makeP (parse b).1 = (b, 0) ∨ makeP (parse b).1 = ([], 2) := by
  obtain ⟨h1, h2, _⟩ := parse_ok b hb h
  unfold makeP
  rw [h1, if_neg (by decide)]
  by_cases c : longP (parse b).1 0 = true
  · rw [if_pos c]; exact .inr rfl
  · rw [if_neg c, ← h2]; exact .inl rfl
theorem one_reads (W : World) : Kd.C k44 ((W.alloc (.cells #[.int .u8 97, .int .u8 98] 5 (2, 3))).alloc (.cells #[.slice (some ⟨W.heap.size, 0, none⟩) 2 2, .int .i64 0, .int .i64 0] 44)) (some ⟨W.heap.size + 1, 0, none⟩) 1 [⟨[97, 98], 0, 0⟩] := by
  have hsz : (W.alloc (.cells #[.int .u8 97, .int .u8 98] 5 (2, 3))).heap.size = W.heap.size + 1 := by simp
  rw [← hsz]
  have h1 : ReadsInt (W.alloc (.cells #[.int .u8 97, .int .u8 98] 5 (2, 3))) .u8 (some ⟨W.heap.size, 0, none⟩) 2 [97, 98] := by
    refine ⟨rfl, by decide, fun _ => ⟨_, rfl, fun i hi => ?_⟩⟩
    rw [add_zero]
    have hh := heap_alloc_new W (.cells #[.int .u8 97, .int .u8 98] 5 (2, 3))
    rcases i with _ | _ | i
    · exact (cell_of_row _ _ 0 _ 5 (2, 3) hh)
    · exact (cell_of_row _ _ 1 _ 5 (2, 3) hh)
    · exact absurd hi (by simp)
  have hh := heap_alloc_new (W.alloc (.cells #[.int .u8 97, .int .u8 98] 5 (2, 3))) (.cells #[.slice (some ⟨W.heap.size, 0, none⟩) 2 2, .int .i64 0, .int .i64 0] 44)
  refine ⟨rfl, by decide, fun _ => ⟨_, rfl, fun j p hp => ?_⟩⟩
  rcases j with _ | j
  · injection hp with hp
    subst hp
    refine ⟨[.slice (some ⟨W.heap.size, 0, none⟩) 2 2, .int .i64 0, .int .i64 0], rfl, k44_mk _ (⟨[97, 98], 0, 0⟩ : S44) (Nat.le_refl _) (Kd.C_of_reads (enc := Value.int .u8) (d := (0 : Int)) (h1 := fun _ => rfl) (h1.below (below_alloc (Below.refl _ _) _))), fun i u hu => ?_⟩
    rw [add_zero]
    have e := cell_of_row _ _ (0 * k44.sz + i) _ 44 (0, 0) hh
    rw [e]
    have hz : 0 * k44.sz + i = i := by omega
    rw [hz]
    simpa using hu
  · simp at hp
end Go.Proofs.Ytnomebkdhjigjaa.W
