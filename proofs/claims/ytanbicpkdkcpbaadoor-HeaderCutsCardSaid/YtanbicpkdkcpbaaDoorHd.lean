/- The statement HeaderCuts, about numbers and bytes alone: Cut, Records and Pad of the program and of the document give the same answers; at every name of at most 140737488351232 bytes (the form's own reach) and every size. -/
import Derived.Test.YtanbicpkdkcpbaaDoorHc
import Derived.OpenShut
namespace Go.Proofs.YtanbicpkdkcpbaaDoor.Cuts
open Go.RowKit Go.Proofs.YtanbicpkdkcpbaaDoor.MHeaderCuts Go.Proofs.YtanbicpkdkcpbaaDoorW.PrintWords Go.Proofs.YtanbicpkdkcpbaaDoorW.PrintLast Go.Proofs.YtanbicpkdkcpbaaDoorW.PrintMore
set_option linter.unusedVariables false

theorem wrap_id {x : Int} (h0 : -9223372036854775808 ≤ x) (h1 : x ≤ 9223372036854775807) : wrap64 x = x := by unfold wrap64; omega

/-- One round, the same in both. -/
theorem round_eq (k : Nat) (s : ByteArray) (i : Int) (h0 : 0 ≤ i) (hlt : i < s.size) (h : header_Cut.l0 k s (wrap64 (i - 1)) = satchelref13_Cut.l0 k s (wrap64 (i - 1))) :
    header_Cut.l0 (k + 1) s i = satchelref13_Cut.l0 (k + 1) s i := by
  rw [header_Cut.l0, satchelref13_Cut.l0, if_pos h0, if_pos hlt, if_pos hlt, if_pos h0, h]

theorem loop_eq (s : ByteArray) (d : Nat) (hd : d ≤ 155) : ∀ (k : Nat), (d : Int) < s.size → header_Cut.l0 k s d = satchelref13_Cut.l0 k s d := by
  induction d with
  | zero =>
    intro k hlt
    cases k with
    | zero => rfl
    | succ k => rw [header_Cut.l0, satchelref13_Cut.l0, if_neg (by omega), if_neg (by omega)]
  | succ d ih =>
    intro k hlt
    cases k with
    | zero => rfl
    | succ k =>
      refine round_eq k s _ (by omega) hlt ?_
      have e : wrap64 (((d + 1 : Nat) : Int) - 1) = (d : Int) := by rw [wrap_id (by omega) (by omega)]; omega
      rw [e]
      exact ih (by omega) k (by omega)

/-- The document's loop runs down to the name's length first. -/
theorem loop_down (s : ByteArray) (j : Nat) : ∀ (k d : Nat), d = s.size + j → d ≤ 155 → 1 ≤ s.size → satchelref13_Cut.l0 (k + j + 1) s d = satchelref13_Cut.l0 k s ((s.size : Int) - 1) := by
  induction j with
  | zero =>
    intro k d hd h1 h2
    rw [satchelref13_Cut.l0, if_pos (by omega), if_neg (by omega), wrap_id (by omega) (by omega)]
    congr 1
    omega
  | succ j ih =>
    intro k d hd h1 h2
    rw [show k + (j + 1) + 1 = (k + j + 1) + 1 from by omega, satchelref13_Cut.l0, if_pos (by omega), if_neg (by omega), wrap_id (by omega) (by omega)]
    have e : (d : Int) - 1 = ((d - 1 : Nat) : Int) := by omega
    rw [e]
    exact ih k (d - 1) (by omega) (by omega) h2

theorem some_loop (s : ByteArray) (d : Nat) (hd : d ≤ 155) (hs : s.size ≤ 140737488351232) : ∀ (k : Nat), d < k → (d : Int) < s.size → ∃ r, header_Cut.l0 k s d = some r := by
  induction d with
  | zero =>
    intro k hk hlt
    obtain ⟨k, rfl⟩ : ∃ m, k = m + 1 := ⟨k - 1, by omega⟩
    exact ⟨_, by rw [header_Cut.l0, if_neg (by omega)]⟩
  | succ d ih =>
    intro k hk hlt
    obtain ⟨k, rfl⟩ : ∃ m, k = m + 1 := ⟨k - 1, by omega⟩
    obtain ⟨r, hr⟩ := ih (by omega) k (by omega) (by omega)
    have e : wrap64 (((d + 1 : Nat) : Int) - 1) = (d : Int) := by rw [wrap_id (by omega) (by omega)]; omega
    rw [header_Cut.l0, if_pos (by omega), if_pos (by omega), if_pos hlt, e, hr]
    have e4 : wrap64 (((d + 1 : Nat) : Int) + 1) = ((d + 1 : Nat) : Int) + 1 := wrap_id (by omega) (by omega)
    rw [e4, if_pos (show ((d + 1 : Nat) : Int) ≤ s.size by omega), if_pos (show 0 ≤ ((d + 1 : Nat) : Int) + 1 by omega), if_pos (show ((d + 1 : Nat) : Int) + 1 ≤ s.size by omega)]
    repeat' split
    all_goals exact ⟨_, rfl⟩

theorem cut_eq (s : ByteArray) (hs : s.size ≤ 140737488351232) : header_Cut.f 400 s = satchelref13_Cut.f 400 s ∧ ∃ r, header_Cut.f 400 s = some r := by
  unfold header_Cut.f satchelref13_Cut.f
  by_cases h100 : (s.size : Int) ≤ 100
  · rw [if_pos h100, if_pos h100]; exact ⟨rfl, _, rfl⟩
  · rw [if_neg h100, if_neg h100, wrap_id (x := (s.size : Int) - 1) (by omega) (by omega)]
    by_cases h : 155 < s.size
    · have e : mn 155 ((s.size : Int) - 1) = ((155 : Nat) : Int) := by unfold mn; rw [if_neg (by omega)]; rfl
      rw [e]
      exact ⟨loop_eq s 155 (by omega) 400 (by omega), some_loop s 155 (by omega) hs 400 (by omega) (by omega)⟩
    · have e : mn 155 ((s.size : Int) - 1) = ((s.size - 1 : Nat) : Int) := by unfold mn; rw [if_pos (by omega)]; omega
      rw [e]
      obtain ⟨r, hr⟩ := some_loop s (s.size - 1) (by omega) hs 400 (by omega) (by omega)
      refine ⟨?_, r, hr⟩
      have e2 : satchelref13_Cut.l0 400 s 155 = satchelref13_Cut.l0 (400 - (155 - s.size) - 1) s ((s.size - 1 : Nat) : Int) := by
        have := loop_down s (155 - s.size) (400 - (155 - s.size) - 1) 155 (by omega) (by omega) (by omega)
        rw [show 400 - (155 - s.size) - 1 + (155 - s.size) + 1 = 400 by omega] at this
        rw [show ((s.size - 1 : Nat) : Int) = (s.size : Int) - 1 by omega]
        exact this
      rw [e2, ← loop_eq s (s.size - 1) (by omega) _ (by omega), hr]
      obtain ⟨r2, hr2⟩ := some_loop s (s.size - 1) (by omega) hs (400 - (155 - s.size) - 1) (by omega) (by omega)
      rw [hr2]
      have := at_rounds (fun k => header_Cut.mono_l k s ((s.size - 1 : Nat) : Int)) (show 400 - (155 - s.size) - 1 ≤ 400 by omega) hr2
      rw [hr] at this
      exact this

theorem HeaderCuts : satchellaw13_HeaderCuts.Pure := by
  intro s n hs _
  refine ⟨400, ?_⟩
  unfold satchellaw13_HeaderCuts.f
  obtain ⟨h1, r, h2⟩ := cut_eq s hs
  rw [← h1, h2]
  simp only [Option.bind_some, if_true]
  have a : ∃ x, header_Records.f n = some x ∧ satchelref13_Records.f n = some x := by
    unfold header_Records.f satchelref13_Records.f
    split <;> exact ⟨_, rfl, rfl⟩
  have b : ∃ x, header_Pad.f n = some x ∧ satchelref13_Pad.f n = some x := by
    unfold header_Pad.f satchelref13_Pad.f
    split <;> exact ⟨_, rfl, rfl⟩
  obtain ⟨x, x1, x2⟩ := a
  obtain ⟨y, y1, y2⟩ := b
  have z : header_Records.f 513 = some 2 := by unfold header_Records.f wrap64; decide
  rw [x1, x2, y1, y2, z]
  simp

end Go.Proofs.YtanbicpkdkcpbaaDoor.Cuts
