/- change of sizes.Ranges (f48); what Add and Cut leave. -/
import Derived.Test.YtanbicpkdkcpbaaGa
namespace Go.Proofs.Ytanbicpkdkcpbaa.RSizesRanges
open Go.RowKit Go.Proofs.YtanbicpkdkcpbaaW.PrintWords Go.Proofs.YtanbicpkdkcpbaaW.PrintLast Go.Proofs.YtanbicpkdkcpbaaW.PrintMore
attribute [local go_sem] max2_int min2_int max_two min_two max_three min_three max_four min_four   -- for this text's walks alone
set_option linter.unusedVariables false
set_option linter.unusedSimpArgs false
/-- A block of a set of ranges holds this slice. -/
def Holds (w : World) (g : Nat) (v : Value) : Prop := w.heap[g]? = some (.cells #[v] 65 (0, 0))
theorem slice_of_R {w : World} {base : Nat} {ok : Nat → Prop} {v : Value} {xs : List S67} (h : Kd.R k67 67 w base ok v xs) : ∃ (A : Option Addr) (c : Nat), v = .slice A xs.length c ∧ xs.length ≤ c ∧ (65536 < xs.length ∨ xs.length ≤ 65536) := by
  have hd : 65536 < xs.length ∨ xs.length ≤ 65536 := by omega
  obtain ⟨A, c, rfl, hc, _⟩ := Kd.R_reads h
  exact ⟨A, c, rfl, hc, hd⟩
set_option maxHeartbeats 4000000 in
theorem change_long (g : Nat) (A : Option Addr) (n c : Nat) (w : World) (hn : 65536 < n) :
    Calls Try.prog 48 #[.pointer (some ⟨g, 0, none⟩), .slice A n c] w fun e w' => e = .returned (.int .i64 2) ∧ w' = w := by
  have d0 : decide (65536 < (n : Int)) = true := decide_eq_true (by omega)
  clear hn
  go_enter Try.func48, Try.ntmps48
  go_wp2
  go_ret
  exact ⟨rfl, rfl⟩
set_option maxHeartbeats 4000000 in
theorem change_ok (g : Nat) (A : Option Addr) (n c : Nat) (w : World) (v : Value) (hr : Holds w g v) (hn : n ≤ 65536) :
    Calls Try.prog 48 #[.pointer (some ⟨g, 0, none⟩), .slice A n c] w fun e w' => e = .returned (.int .i64 0) ∧ w' = w.setCell ⟨g, 0, none⟩ (.slice A n c) := by
  have d0 : decide (65536 < (n : Int)) = false := decide_eq_false (by omega)
  have hc : w.cell? ⟨g, 0, none⟩ = some v := (blk_cell hr 0).trans rfl
  have hz := blk_frozen hr 0
  clear hn hr
  go_enter Try.func48, Try.ntmps48
  go_wp2
  go_ret
  exact ⟨rfl, rfl⟩
/-- What Add and Cut leave: r is the list that they would put in (nothing else is told of the list where they change nothing). -/
def AddPost (w : World) (g : Nat) (cn : Bool) (a b : Int) (r : List S67) (e : Ending) (w' : World) : Prop :=
  (cn = false ∧ e = .returned (.int .i64 12) ∧ Below w.heap.size w w') ∨ (cn = true ∧ a = b ∧ e = .returned (.int .i64 0) ∧ Below w.heap.size w w') ∨
  (cn = true ∧ a ≠ b ∧ 65536 < r.length ∧ e = .returned (.int .i64 2) ∧ Below w.heap.size w w') ∨
  (cn = true ∧ a ≠ b ∧ r.length ≤ 65536 ∧ e = .returned (.int .i64 0) ∧ ∃ v w1, Below w.heap.size w w1 ∧ w' = w1.setCell ⟨g, 0, none⟩ v ∧ Kd.R k67 67 w1 w.heap.size (fun _ => True) v r)
end Go.Proofs.Ytanbicpkdkcpbaa.RSizesRanges
