/- The plain law of LzMakes: Make and Play, the program's and the document's, come to the same. -/
import Derived.Test.YtnomebkdhjigjaaJLzMakes
import Derived.Test.YtnomebkdhjigjaaLm
namespace Go.Proofs.Ytnomebkdhjigjaa.Pure
open Go.RowKit Go.Proofs.Ytnomebkdhjigjaa.QLzMakes Go.Proofs.Ytnomebkdhjigjaa.Z Go.Proofs.Ytnomebkdhjigjaa.MLzDecodes Go.Proofs.YtnomebkdhjigjaaW.PrintWords Go.Proofs.YtnomebkdhjigjaaW.PrintLast
set_option linter.unusedVariables false
theorem play_len (bg : Nat) (most : Int) (hm : 0 ≤ most) : ∀ (t : List S44) (al : List Int), bg ≤ al.length → (al.length : Int) - bg ≤ most → ((W.playL bg most t al).2.length : Int) ≤ bg + most := by
  intro t
  induction t with
  | nil => intro al h0 h1; rw [W.playL]; show (al.length : Int) ≤ _; omega
  | cons s t ih =>
    intro al h0 h1
    rw [W.playL]
    by_cases c1 : (s.f0.length : Int) > most - ((al.length : Int) - bg)
    · rw [if_pos c1]; show (al.length : Int) ≤ _; omega
    rw [if_neg c1]
    have hl : (al ++ s.f0).length = al.length + s.f0.length := List.length_append
    generalize al ++ s.f0 = L at hl ⊢
    by_cases c2 : s.f1 = 0
    · rw [if_pos c2]; show (L.length : Int) ≤ _; omega
    rw [if_neg c2]
    by_cases c3 : s.f1 > (L.length : Int)
    · rw [if_pos c3]; show (L.length : Int) ≤ _; omega
    rw [if_neg c3]
    by_cases c4 : s.f2 > most - ((L.length : Int) - bg)
    · rw [if_pos c4]; show (L.length : Int) ≤ _; omega
    rw [if_neg c4]
    have hc := W.copied_len s.f1.toNat s.f2.toNat L
    exact ih _ (by omega) (by omega)
theorem play_le (l : List S44) (ahead : List Int) (most : Int) : (W.play l ahead most).1.length ≤ 4194304 := by
  unfold W.play
  by_cases c : most < 0 ∨ most > 4194304 ∨ W.madeP l = false
  · rw [if_pos c]; simp
  rw [if_neg c]
  have h := play_len (W.window ahead).length most (by omega) l (W.window ahead) (by omega) (by omega)
  by_cases c2 : (W.playL (W.window ahead).length most l (W.window ahead)).1 ≠ 0
  · rw [if_pos c2]; simp
  · rw [if_neg c2, List.length_drop]; omega
theorem make_le (l : List S44) (hl : l.length ≤ 3518437208880) : (W.makeP l).1.length ≤ 140737000000000 := by
  unfold W.makeP
  by_cases c : W.madeP l = false
  · rw [if_pos c]; simp
  rw [if_neg c]
  by_cases c2 : W.longP l 0 = true
  · rw [if_pos c2]; simp
  · have h := W.long_bytes l (by simpa using c) l.length 0 0 (by omega) (by omega) (by omega) (by rw [List.drop_zero]; simpa using c2)
    rw [List.drop_zero] at h
    rw [if_neg c2]
    show (l.flatMap W.putP).length ≤ _
    omega
theorem LzMakes (l0 : List S44) (l1 : List Int) (a2 : Int) (h0 : l0.length ≤ 1048576) (hs : ∀ i, i < l0.length → (l0.getD i z44).f0.length ≤ 1048576 ∧ (l0.getD i z44).f2 ≤ 9223372036854775807) (h1 : l1.length ≤ 1048576) : ∃ k, satchellaw03_LzMakes.f k l0 l1 a2 = some true := by
  have hs0 : ∀ i, i < l0.length → (l0.getD i z44).f0.length ≤ 140737488355327 := fun i hi => Nat.le_trans (hs i hi).1 (by decide)
  have hs2 : ∀ i, i < l0.length → (l0.getD i z44).f0.length ≤ 140737488355327 ∧ (l0.getD i z44).f2 ≤ 9223372036854775807 := fun i hi => ⟨hs0 i hi, (hs i hi).2⟩
  have hM := make_le l0 (by omega)
  have hP := play_le l0 l1 a2
  obtain ⟨M, eM⟩ : ∃ M, M = W.makeP l0 := ⟨_, rfl⟩
  obtain ⟨Q, eQ⟩ : ∃ Q, Q = W.play l0 l1 a2 := ⟨_, rfl⟩
  rw [← eM] at hM
  rw [← eQ] at hP
  obtain ⟨K, hK⟩ : ∃ K, K = 5 * l0.length + W.longest l0 + l1.length + M.1.length + Q.1.length + 4500000 := ⟨_, rfl⟩
  have e1 : ∀ k, K ≤ k → satchellaw03_copies.f k l0 = some l0 := fun k hk => at_rounds (g := fun k => satchellaw03_copies.f k l0) (fun k => satchellaw03_copies.mono _ k) (by omega) (W.copies_f l0 (by omega) hs0)
  have e2 : ∀ k, K ≤ k → lz_Make.f k l0 = some M := fun k hk => at_rounds (g := fun k => lz_Make.f k l0) (fun k => lz_Make.mono _ k) (show 2 * l0.length + 30000 ≤ k by omega) (by rw [eM]; exact W.lzMake_f l0 (by omega) hs2)
  have e3 : ∀ k, K ≤ k → satchelref03_Make.f k l0 = some M := fun k hk => at_rounds (g := fun k => satchelref03_Make.f k l0) (fun k => satchelref03_Make.mono _ k) (show 5 * l0.length + 30000 ≤ k by omega) (by rw [eM]; exact W.refMake_f l0 (by omega) hs2)
  have e4 : ∀ k, K ≤ k → satchelref03_Play.f k l0 l1 a2 = some Q := fun k hk => at_rounds (g := fun k => satchelref03_Play.f k l0 l1 a2) (fun k => satchelref03_Play.mono _ _ _ k) (show l0.length + 4400000 ≤ k by omega) (by rw [eQ]; exact W.refPlay_f l0 l1 a2 (by omega) hs0 (by omega))
  have hsh : shortS l0 = true := W.short_of l0 hs0
  have e5 : lz_Play.f l0 l1 a2 = some Q := by
    unfold lz_Play.f
    rw [if_pos ⟨by omega, hsh, by omega⟩, eQ]
  have e6 : ∀ k, K ≤ k → satchellaw03_same.f k M.1 M.1 = some true := fun k hk => at_rounds (g := fun k => satchellaw03_same.f k M.1 M.1) (fun k => satchellaw03_same.mono _ _ k) (by omega) (W.same_f M.1 (by omega))
  have e7 : ∀ k, K ≤ k → satchellaw03_same.f k Q.1 Q.1 = some true := fun k hk => at_rounds (g := fun k => satchellaw03_same.f k Q.1 Q.1) (fun k => satchellaw03_same.mono _ _ k) (by omega) (W.same_f Q.1 (by omega))
  have e8 : ∀ k, K ≤ k → satchellaw03_seqs.f k l0 l0 = some true := fun k _ => W.seqs_f l0 (by omega) hs0 k
  have e9 : ∀ k, K ≤ k → satchellaw03_kept.f k (l1 ++ W.marks 32) l1 = some true := fun k hk => at_rounds (g := fun k => satchellaw03_kept.f k (l1 ++ W.marks 32) l1) (fun k => satchellaw03_kept.mono _ _ k) (by omega) (W.kept_f l1 (by omega))
  have e10 : ∀ k, K ≤ k → satchellaw03_full.f k M.1 4 = some () := fun k hk => at_rounds (g := fun k => satchellaw03_full.f k M.1 4) (fun k => satchellaw03_full.mono _ _ k) (by omega) (W.full_f M.1 4 (by omega))
  have e11 : ∀ k, K ≤ k → satchellaw03_full.f k Q.1 5 = some () := fun k hk => at_rounds (g := fun k => satchellaw03_full.f k Q.1 5) (fun k => satchellaw03_full.mono _ _ k) (by omega) (W.full_f Q.1 5 (by omega))
  have e12 : ∀ k, K ≤ k → lz_Make.f k [⟨[], 0, 0⟩] = some ([0], 0) := fun k hk => at_rounds (g := fun k => lz_Make.f k [⟨[], 0, 0⟩]) (fun k => lz_Make.mono _ k) (by show 2 * 1 + 30000 ≤ k; omega) (W.lzMake_f [⟨[], 0, 0⟩] (by decide) (fun i hi => by
    have : i = 0 := by simpa using hi
    subst this
    exact ⟨Nat.zero_le _, by show (0 : Int) ≤ _; decide⟩))
  have f1 : satchellaw03_lent.f l1 = some (l1, l1 ++ W.marks 32) := if_pos (by omega)
  refine ⟨K + 1, ?_⟩
  unfold satchellaw03_LzMakes.f
  rw [e1 _ (by omega), Option.bind_some, f1, Option.bind_some]
  dsimp only
  rw [e2 _ (by omega), Option.bind_some, e3 _ (by omega), Option.bind_some, e5, Option.bind_some, e4 _ (by omega), Option.bind_some, if_pos rfl, if_pos rfl, e6 _ (by omega), Option.bind_some, if_pos rfl, e7 _ (by omega), Option.bind_some, if_pos rfl, e8 _ (by omega), Option.bind_some, if_pos rfl, e9 _ (by omega), Option.bind_some]
  rw [satchellaw03_LzMakes.j0, if_neg (by decide), e10 _ (by omega), Option.bind_some, e11 _ (by omega), Option.bind_some, e12 _ (by omega), Option.bind_some, e8 _ (by omega), Option.bind_some, if_pos rfl, e9 _ (by omega), Option.bind_some, if_pos rfl]
  rfl
end Go.Proofs.Ytnomebkdhjigjaa.Pure
