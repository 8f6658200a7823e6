/- The statement SizesSums, about numbers alone: Add, Mul and Up of the program and of the document give the same answers, at all whole numbers of 64 bits. No condition. -/
import Derived.Test.YtanbicpkdkcpbaaSb
namespace Go.Proofs.Ytanbicpkdkcpbaa.Pure
open Go.RowKit Go.Proofs.Ytanbicpkdkcpbaa.PSizesSums Go.Proofs.YtanbicpkdkcpbaaW.PrintWords Go.Proofs.YtanbicpkdkcpbaaW.PrintLast

theorem add_eq (a b : Int) : sizes_Add.f 3 a b = satchelref01_Add.f 3 a b := by
  simp only [sizes_Add.f, satchelref01_Add.f, sizes_Add.j0, satchelref01_Add.j0]
theorem add_eq2 (a b : Int) : sizes_Add.f 2 a b = satchelref01_Add.f 2 a b := by
  simp only [sizes_Add.f, satchelref01_Add.f, sizes_Add.j0, satchelref01_Add.j0]
theorem mul_eq (a b : Int) : sizes_Mul.f 3 a b = satchelref01_Mul.f 3 a b := by
  simp only [sizes_Mul.f, satchelref01_Mul.f, sizes_Mul.j0, satchelref01_Mul.j0]
theorem up_eq (a b : Int) : sizes_Up.f 3 a b = satchelref01_Up.f 3 a b := by
  simp only [sizes_Up.f, satchelref01_Up.f, sizes_Up.j0, satchelref01_Up.j0, add_eq2]
theorem add_some2 (a b : Int) : ∃ x, satchelref01_Add.f 2 a b = some x := by
  simp only [satchelref01_Add.f, satchelref01_Add.j0]
  repeat' split
  all_goals exact ⟨_, rfl⟩
theorem add_some (a b : Int) : ∃ x, satchelref01_Add.f 3 a b = some x := by
  simp only [satchelref01_Add.f, satchelref01_Add.j0]
  repeat' split
  all_goals exact ⟨_, rfl⟩
theorem mul_some (a b : Int) : ∃ x, satchelref01_Mul.f 3 a b = some x := by
  simp only [satchelref01_Mul.f, satchelref01_Mul.j0]
  repeat' split
  all_goals first | exact ⟨_, rfl⟩ | (exfalso; omega)
theorem up_some (a b : Int) : ∃ x, satchelref01_Up.f 3 a b = some x := by
  obtain ⟨x, hx⟩ := add_some2 a (wrap64 (b - Int.tmod a b))
  simp only [satchelref01_Up.f, satchelref01_Up.j0, hx, Option.bind_some]
  by_cases h1 : a < 0
  · rw [if_pos h1]; exact ⟨_, rfl⟩
  · rw [if_neg h1]
    by_cases h2 : b < 1
    · simp [h2]
    · have h3 : ¬ b = 0 := by omega
      simp only [h2, h3, decide_false, Bool.false_eq_true, if_false]
      split <;> exact ⟨_, rfl⟩
theorem up_one : sizes_Up.f 3 513 512 = some (1024, 0) := by
  simp only [sizes_Up.f, sizes_Up.j0, sizes_Add.f, sizes_Add.j0, wrap64]
  decide

theorem SizesSums : satchellaw01_SizesSums.Pure := by
  intro a b _ _
  refine ⟨3, ?_⟩
  obtain ⟨x, hx⟩ := add_some a b
  obtain ⟨y, hy⟩ := mul_some a b
  obtain ⟨z, hz⟩ := up_some a b
  unfold satchellaw01_SizesSums.f
  rw [add_eq, mul_eq, up_eq, up_one, hx, hy, hz]
  simp

end Go.Proofs.Ytanbicpkdkcpbaa.Pure
