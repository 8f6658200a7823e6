/- The plain law of LzBounded: whatever bytes are decoded, no more comes out than may, and no more than 255 times what went in. -/
import Derived.Test.YtnomebkdhjigjaaMLzBoundedx1
namespace Go.Proofs.Ytnomebkdhjigjaa.Pure
open Go.RowKit Go.Proofs.Ytnomebkdhjigjaa.MLzBounded Go.Proofs.YtnomebkdhjigjaaW.PrintWords Go.Proofs.YtnomebkdhjigjaaW.PrintLast
theorem LzBounded : satchellaw03_LzBounded.Pure := by
  intro l0 l1 a2 hm0 hl0 hb0 hm1 hl1 hb1 h2
  have hbb := W.bytesB_wf hb0
  have h0 : l0.length ≤ 140737488351232 := by omega
  have h1 : l1.length ≤ 140737488351232 := by omega
  have e1 : lz_Decode.f l0 l1 a2 = some (W.decode l0 l1 a2) := by
    unfold lz_Decode.f W.decodeF
    exact if_pos ⟨Nat.le_trans h0 (by decide), Nat.le_trans h1 (by decide), hbb⟩
  have e2 : lz_Decode.f [] [] 0 = some (W.decode [] [] 0) := by
    unfold lz_Decode.f W.decodeF
    exact if_pos ⟨by decide, by decide, rfl⟩
  have hB := W.decode_bound l0 l1 a2 (W.byt_of _ hbb)
  have hN := W.decode_nil
  unfold satchellaw03_LzBounded.f
  rw [Option.bind_some, List.nil_append, List.length_nil, Nat.zero_add, if_pos (by omega), Option.bind_some, List.nil_append, List.length_nil, Nat.zero_add, if_pos (by omega), e1, Option.bind_some]
  generalize W.decode l0 l1 a2 = R at hB ⊢
  have hw : wrap64 (255 * (l0.length : Int)) = 255 * (l0.length : Int) := IntWalk.wrap64_in _ (by omega)
  by_cases c : R.2.2 = 0
  · have h := hB.2.2 c
    rw [if_pos c, e2, Option.bind_some, if_pos h.2.1, hw, if_pos h.2.2, if_pos h.1, hN]
    rfl
  · rw [if_neg c, if_pos (show (R.1.length : Int) = 0 by have := hB.2.1 c; omega), if_pos (show R.2.1 ≥ 0 from hB.1.1), decide_eq_true hB.1.2]
end Go.Proofs.Ytnomebkdhjigjaa.Pure
