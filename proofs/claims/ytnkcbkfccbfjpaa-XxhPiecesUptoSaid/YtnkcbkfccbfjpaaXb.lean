/- Contract of slices.Clone at []byte: the same bytes, in memory of the call's own. Condition: fewer than 2^47 bytes. -/
import Derived.Test.YtnkcbkfccbfjpaaXa
import Derived.WalkSpells
namespace Go.Proofs.Ytnkcbkfccbfjpaa.XxhW
open Go.RowKit Go.Proofs.YtnkcbkfccbfjpaaW.PrintWords Go.Proofs.YtnkcbkfccbfjpaaW.PrintLast Go.Proofs.YtnkcbkfccbfjpaaW.PrintMore
set_option linter.unusedVariables false
set_option linter.unusedSimpArgs false
theorem info5 : (Try.prog.info? 5).map (fun i => (i.zero, i.size, i.bytes)) = some (some (.int .u8 0), 1, 1) := by kernel_rfl

theorem clone_nil (n c : Nat) (w : World) : Calls Try.prog 68 #[.slice none n c] w fun e w' => e = .returned (.slice none 0 0) ∧ w' = w := by
  have hq := @Lib.run_eql_slice_nil Try.prog
  go_enter Try.func68, Try.ntmps68
  go_wp2
  go_ret
  exact ⟨rfl, rfl⟩

theorem clone_some (ad : Addr) (c : Nat) (l : List Int) (w : World) (hr : ReadsInt w .u8 (some ad) l.length l) (hl : l.length ≤ 140737488355327) :
    Calls Try.prog 68 #[.slice (some ad) l.length c] w fun e w' => ∃ v, e = .returned v ∧ w'.ownsRow w.heap.size 5 1 v l.length (nums .u8 l) ∧ Below w.heap.size w w' := by
  have hq := @Lib.run_eql_slice_nil Try.prog
  have hb : Below w.heap.size w (w.alloc (.cells #[] 5)) := below_alloc (Below.refl _ _) _
  have ho : (w.alloc (.cells #[] 5)).ownsRow w.heap.size 5 1 (.slice (some ⟨w.heap.size, 0, none⟩) 0 0) ([] : List Int).length (nums .u8 []) := own_lit w w.heap.size 5 .u8 [] (Nat.le_refl _) (by simp)
  go_enter Try.func68, Try.ntmps68
  go_wp2_with (first | (at_builtin; refine print_append_row (w0 := w) w.heap.size rfl (.tmp 5) (.tmp 6) 22 5 .u8 1 rfl Try.underlying22 info5 (by decide) (.slice (some ⟨w.heap.size, 0, none⟩) 0 0) [] l (some ad) l.length c rfl rfl ho (hr.below hb) hb (by simp) (by simp; omega) ?_; intro v1 w1 hO hB hG hA))
  go_ret
  exact ⟨v1, rfl, by simpa using hO, hB⟩

/-- Whatever the slice: what it reads is owned by the result. -/
theorem clone_any (A : Option Addr) (c : Nat) (l : List Int) (w : World) (hr : ReadsInt w .u8 A l.length l) (hl : l.length ≤ 140737488355327) :
    Calls Try.prog 68 #[.slice A l.length c] w fun e w' => ∃ A' c', e = .returned (.slice A' l.length c') ∧ w'.ownsRow w.heap.size 5 1 (.slice A' l.length c') l.length (nums .u8 l) ∧ Below w.heap.size w w' := by
  cases A with
  | some ad =>
    refine (clone_some ad c l w hr hl).mono fun e w' ⟨v, he, ho, hb⟩ => ?_
    obtain ⟨A', c', rfl⟩ := own_slice ho
    exact ⟨A', c', he, ho, hb⟩
  | none =>
    have h0 : l.length = 0 := by
      rcases Nat.eq_zero_or_pos l.length with h | h
      · exact h
      · obtain ⟨ad, e, _⟩ := hr.2.2 h; cases e
    obtain rfl : l = [] := List.eq_nil_of_length_eq_zero h0
    exact (clone_nil _ c w).mono fun e w' ⟨he, hw⟩ => by
      subst he hw
      exact ⟨_, _, rfl, own_nil _ _ _ _, Below.refl _ _⟩
end Go.Proofs.Ytnkcbkfccbfjpaa.XxhW
