/- What the condition 'the two listed variables read as laid' gives the walks: the two cells that header.Cut reads; and a start that meets the condition. No condition besides. -/
import Derived.Test.YtanbicpkdkcpbaaDoorRows
import Derived.ProofKit
import Derived.LaidMore
import Derived.OpenShut
import Derived.ChangeSame
import Derived.Stop.Joined
import Derived.MakeChecks
namespace Go.Proofs.YtanbicpkdkcpbaaDoor.Laid
open Go.ChangeShapes Go.WideShapes Go.ChangeAt Go.RowKit
theorem gName : Tryd.prog.globalNamed "satchel/header.atName" = some 0 := by kernel_rfl
theorem gPrefix : Tryd.prog.globalNamed "satchel/header.atPrefix" = some 1 := by kernel_rfl
theorem tName : (Tryd.prog.globals[0]?).map (·.type) = some 33 := by kernel_rfl
theorem tPrefix : (Tryd.prog.globals[1]?).map (·.type) = some 33 := by kernel_rfl
theorem c3 : Tryd.prog.cellsOf 3 = 1 := by kernel_rfl
theorem c33 : Tryd.prog.cellsOf 33 = 2 := by kernel_rfl
abbrev laid : List (String × DataW Unit) := [("satchel/header.atName", Rows.laid_satchel_header_atName), ("satchel/header.atPrefix", Rows.laid_satchel_header_atPrefix)]
theorem door_met (os : Os) (args : Array Value) : laidMetH Tryd.prog laid ((World.doorLaid Tryd.prog 400 os).forCall (fun _ _ => 0) ⟨#[], args, []⟩).memory :=
  laidMetH_of_parts3 (fuel := 8) (laidMet_of_run' 8 (by kernel_rfl) (by kernel_rfl)) (by kernel_rfl) (by kernel_rfl)

/-- A span of two whole numbers, by its cells. -/
theorem span_cells {H : Type} {enc : TypeId × Value → H} {W : World} {sp : Nat → Bool} {held : Bool} {f : Nat} {cs : List Value} {a b : Int} {p : List MemPlace}
    (h : DataW.trod enc Tryd.prog W 0 sp held f 33 cs = some (.agg [.lit (.int .i64 a), .lit (.int .i64 b)], p)) : cs = [.int .i64 a, .int .i64 b] := by
  obtain ⟨y0, y1, n, hx, hl, h0, h1⟩ := trod_struct2 Tryd.underlying33 h
  rw [c33] at hl
  match cs, hl with
  | [v0, v1], _ =>
    simp [c3] at h0 h1
    obtain ⟨k0, e0, e1, _⟩ := DataW.trod_int Tryd.underlying3 h0
    obtain ⟨k1, e2, e3, _⟩ := DataW.trod_int Tryd.underlying3 h1
    simp at e0 e2
    subst e0 e2
    rw [e1, e3] at hx
    simp at hx
    obtain ⟨⟨rfl, rfl⟩, _⟩ := hx
    rfl

theorem of_laid {W : World} (h : laidMetH Tryd.prog laid W) : W.cell? ⟨0, 1, none⟩ = some (.int .i64 100) ∧ W.cell? ⟨1, 1, none⟩ = some (.int .i64 155) := by
  rw [MakeChecks.laidMetH_plain _ _ _ (by kernel_rfl)] at h
  obtain ⟨ps, ⟨g0, t0, cs0, f0, p0, q0, hg0, ht0, hv0, hd0, ⟨g1, t1, cs1, f1, p1, q1, hg1, ht1, hv1, hd1, _, _⟩, _⟩, _, _⟩ := h
  obtain rfl := Option.some.inj (gName.symm.trans hg0)
  obtain rfl := Option.some.inj (gPrefix.symm.trans hg1)
  obtain rfl := Option.some.inj (tName.symm.trans ht0)
  obtain rfl := Option.some.inj (tPrefix.symm.trans ht1)
  have e0 := span_cells hd0
  have e1 := span_cells hd1
  obtain ⟨l0⟩ := cs0
  obtain ⟨l1⟩ := cs1
  simp only at e0 e1
  subst e0 e1
  exact ⟨by simpa using World.var?_cell hg0 hv0 1, by simpa using World.var?_cell hg1 hv1 1⟩
end Go.Proofs.YtanbicpkdkcpbaaDoor.Laid
