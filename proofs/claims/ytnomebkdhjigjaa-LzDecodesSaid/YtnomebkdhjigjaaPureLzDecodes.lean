/- The plain law of LzDecodes: what lz.Decode and the document's Decode answer is one and the same. -/
import Derived.Test.YtnomebkdhjigjaaJLzDecodes
namespace Go.Proofs.Ytnomebkdhjigjaa.Pure
open Go.RowKit Go.Proofs.Ytnomebkdhjigjaa.QLzDecodes Go.Proofs.Ytnomebkdhjigjaa.MLzDecodes Go.Proofs.YtnomebkdhjigjaaW.PrintWords Go.Proofs.YtnomebkdhjigjaaW.PrintLast
set_option linter.unusedVariables false
theorem byt_wf {l : List Int} (h : ∀ x ∈ l, (Lit.int .u8 x).wf = true) : W.Byt l := W.byt_of l (W.bytesB_wf h)
theorem LzDecodes : satchellaw03_LzDecodes.Pure := by
  intro l0 l1 a2 _ h0 w0 _ h1 w1 w2
  have b0 := byt_wf w0
  have hl0 : l0.length ≤ 140737488351232 := by omega
  have hl1 : l1.length ≤ 140737488351232 := by omega
  obtain ⟨kd, hd⟩ := W.ref_decode l0 l1 a2 b0 (by omega) (by omega)
  obtain ⟨D, hD⟩ : ∃ D, D = W.decode l0 l1 a2 := ⟨_, rfl⟩
  rw [← hD] at hd
  have hDl : D.1.length ≤ 140737488351232 := by
    rw [hD]
    have hB := (W.decode_bound l0 l1 a2 b0)
    by_cases c : a2 < 0 ∨ a2 > 4194304
    · unfold W.decode
      rw [if_pos c]
      simp
    · by_cases c2 : (W.decode l0 l1 a2).2.2 = 0
      · have := (hB.2.2 c2).2.1
        omega
      · have := hB.2.1 c2
        omega
  obtain ⟨K, hK⟩ : ∃ K, K = kd + l0.length + l1.length + D.1.length + 200 := ⟨_, rfl⟩
  have e1 : ∀ k, K ≤ k → satchelref03_Decode.f k l0 l1 a2 = some D := fun k hk => at_rounds (fun k => satchelref03_Decode.mono _ _ _ k) (by omega) hd
  have e2 : ∀ k, K ≤ k → satchellaw03_same.f k D.1 D.1 = some true := fun k hk => at_rounds (fun k => satchellaw03_same.mono _ _ k) (by omega) (W.same_f D.1 (by omega))
  have e3 : ∀ k, K ≤ k → satchellaw03_kept.f k (l0 ++ W.marks 32) l0 = some true := fun k hk => at_rounds (fun k => satchellaw03_kept.mono _ _ k) (by omega) (W.kept_f l0 (by omega))
  have e4 : ∀ k, K ≤ k → satchellaw03_kept.f k (l1 ++ W.marks 32) l1 = some true := fun k hk => at_rounds (fun k => satchellaw03_kept.mono _ _ k) (by omega) (W.kept_f l1 (by omega))
  have e5 : ∀ k, K ≤ k → satchellaw03_full.f k D.1 3 = some () := fun k hk => at_rounds (fun k => satchellaw03_full.mono _ _ k) (by omega) (W.full_f D.1 3 (by omega))
  have e6 : lz_Decode.f l0 l1 a2 = some D := by
    unfold lz_Decode.f W.decodeF
    rw [if_pos ⟨by omega, by omega, W.bytesB_of b0⟩, hD]
  have e7 : lz_Decode.f ([16, 97] : List Int) ([] : List Int) 1 = some ([97], 0, 0) := by
    unfold lz_Decode.f W.decodeF
    decide
  have f0 : satchellaw03_lent.f l0 = some (l0, l0 ++ W.marks 32) := if_pos hl0
  have f1 : satchellaw03_lent.f l1 = some (l1, l1 ++ W.marks 32) := if_pos hl1
  refine ⟨K + 1, ?_⟩
  unfold satchellaw03_LzDecodes.f
  rw [f0, Option.bind_some, f1, Option.bind_some]
  dsimp only
  rw [e6, Option.bind_some, Option.bind_some, e1 _ (by omega), Option.bind_some, if_pos rfl, if_pos rfl, e2 _ (by omega), Option.bind_some, if_pos rfl, Option.bind_some, if_pos rfl, e3 _ (by omega), Option.bind_some, if_pos rfl, e4 _ (by omega), Option.bind_some]
  rw [satchellaw03_LzDecodes.j0, if_neg (by decide), e5 _ (by omega), Option.bind_some, e7, Option.bind_some, e2 _ (by omega), Option.bind_some, if_pos rfl, e3 _ (by omega), Option.bind_some, if_pos rfl, e4 _ (by omega), Option.bind_some, if_pos rfl]
  rfl
end Go.Proofs.Ytnomebkdhjigjaa.Pure
