/- get and Read of volumes: blocks that are written field by field; a postcondition put away. -/
import Derived.Test.YtnkcbkfccbfjpaaVz
namespace Go.Proofs.Ytnkcbkfccbfjpaa.XxhW
open Go.RowKit Go.Proofs.Ytnkcbkfccbfjpaa.QVolumesCuts Go.Proofs.YtnkcbkfccbfjpaaW.PrintWords Go.Proofs.YtnkcbkfccbfjpaaW.PrintLast Go.Proofs.YtnkcbkfccbfjpaaW.PrintMore
set_option linter.unusedVariables false
set_option linter.unusedSimpArgs false
theorem numP_in4 (l : List Int) (hb : ∀ q, 0 ≤ l.getD q 0 ∧ l.getD q 0 < 256) : 0 ≤ numP l 4 ∧ numP l 4 < 4294967296 := numP_in l hb 4
theorem wrap_u4 {x : Int} (h : 0 ≤ x ∧ x < 4294967296) : wrap64 x = x := by
  unfold wrap64
  omega
set_option maxHeartbeats 4000000 in
theorem set8 {w : World} {g : Nat} {t : TypeId} {o0 o1 o2 o3 o4 o5 o6 o7 : Value} (h : w.heap[g]? = some (.cells #[o0, o1, o2, o3, o4, o5, o6, o7] t (0, 0))) (v0 v1 v2 v3 v4 v5 v6 v7 : Value) :
    ((((((((w.setCell ⟨g, 0, none⟩ (v0)).setCell ⟨g, 1, none⟩ (v1)).setCell ⟨g, 2, none⟩ (v2)).setCell ⟨g, 3, none⟩ (v3)).setCell ⟨g, 4, none⟩ (v4)).setCell ⟨g, 5, none⟩ (v5)).setCell ⟨g, 6, none⟩ (v6)).setCell ⟨g, 7, none⟩ (v7)).heap[g]? = some (.cells #[v0, v1, v2, v3, v4, v5, v6, v7] t (0, 0)) ∧ Fr w ((((((((w.setCell ⟨g, 0, none⟩ (v0)).setCell ⟨g, 1, none⟩ (v1)).setCell ⟨g, 2, none⟩ (v2)).setCell ⟨g, 3, none⟩ (v3)).setCell ⟨g, 4, none⟩ (v4)).setCell ⟨g, 5, none⟩ (v5)).setCell ⟨g, 6, none⟩ (v6)).setCell ⟨g, 7, none⟩ (v7)) (fun i => i ≠ g) := by
  have c0 := blk_set h 0 v0
  have c1 := blk_set c0 1 v1
  have c2 := blk_set c1 2 v2
  have c3 := blk_set c2 3 v3
  have c4 := blk_set c3 4 v4
  have c5 := blk_set c4 5 v5
  have c6 := blk_set c5 6 v6
  have c7 := blk_set c6 7 v7
  exact ⟨c7, (((((((Fr.set ⟨g, 0, none⟩ v0).then (Fr.set ⟨g, 1, none⟩ v1)).then (Fr.set ⟨g, 2, none⟩ v2)).then (Fr.set ⟨g, 3, none⟩ v3)).then (Fr.set ⟨g, 4, none⟩ v4)).then (Fr.set ⟨g, 5, none⟩ v5)).then (Fr.set ⟨g, 6, none⟩ v6)).then (Fr.set ⟨g, 7, none⟩ v7)⟩
theorem hide_post {P : Program} {f : FuncId} {args : Array Value} {w : World} {Q0 : Ending → World → Prop} (H : ∀ Q : Ending → World → Prop, Aside0 (∀ e w', Q0 e w' → Q e w') → Calls P f args w Q) : Calls P f args w Q0 := H Q0 ⟨fun _ _ h => h⟩
set_option maxHeartbeats 4000000 in
theorem set7 {w : World} {g : Nat} {t : TypeId} {o0 o1 o2 o3 o4 o5 o6 : Value} (h : w.heap[g]? = some (.cells #[o0, o1, o2, o3, o4, o5, o6] t (0, 0))) (v0 v1 v2 v3 v4 v5 v6 : Value) :
    (((((((w.setCell ⟨g, 0, none⟩ (v0)).setCell ⟨g, 1, none⟩ (v1)).setCell ⟨g, 2, none⟩ (v2)).setCell ⟨g, 3, none⟩ (v3)).setCell ⟨g, 4, none⟩ (v4)).setCell ⟨g, 5, none⟩ (v5)).setCell ⟨g, 6, none⟩ (v6)).heap[g]? = some (.cells #[v0, v1, v2, v3, v4, v5, v6] t (0, 0)) ∧ Fr w (((((((w.setCell ⟨g, 0, none⟩ (v0)).setCell ⟨g, 1, none⟩ (v1)).setCell ⟨g, 2, none⟩ (v2)).setCell ⟨g, 3, none⟩ (v3)).setCell ⟨g, 4, none⟩ (v4)).setCell ⟨g, 5, none⟩ (v5)).setCell ⟨g, 6, none⟩ (v6)) (fun i => i ≠ g) := by
  have c0 := blk_set h 0 v0
  have c1 := blk_set c0 1 v1
  have c2 := blk_set c1 2 v2
  have c3 := blk_set c2 3 v3
  have c4 := blk_set c3 4 v4
  have c5 := blk_set c4 5 v5
  have c6 := blk_set c5 6 v6
  exact ⟨c6, ((((((Fr.set ⟨g, 0, none⟩ v0).then (Fr.set ⟨g, 1, none⟩ v1)).then (Fr.set ⟨g, 2, none⟩ v2)).then (Fr.set ⟨g, 3, none⟩ v3)).then (Fr.set ⟨g, 4, none⟩ v4)).then (Fr.set ⟨g, 5, none⟩ v5)).then (Fr.set ⟨g, 6, none⟩ v6)⟩
end Go.Proofs.Ytnkcbkfccbfjpaa.XxhW
