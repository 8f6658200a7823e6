/- Whether sequences end as a block must: the document's function at Encode's sequences. -/
import Derived.Test.YtnomebkdhjigjaaEh
import Derived.Test.YtnomebkdhjigjaaZg
namespace Go.Proofs.Ytnomebkdhjigjaa.W
open Go.RowKit Go.Proofs.Ytnomebkdhjigjaa.Z
set_option linter.unusedVariables false
set_option linter.unusedSimpArgs false
theorem ends_at : ∀ l : List S44, 2 ≤ l.length → endsP l = true → 5 ≤ ((l.getD (l.length - 1) z44).f0.length : Int) ∧ 12 ≤ (l.getD (l.length - 2) z44).f2 + ((l.getD (l.length - 1) z44).f0.length : Int) := by
  intro l
  induction l with
  | nil => intro h; simp at h
  | cons s t ih =>
    intro h1 h2
    match t, h1, h2, ih with
    | [], h1, _, _ => simp at h1
    | [u], _, h2, _ => exact of_decide_eq_true h2
    | u :: v :: r, _, h2, ih =>
      have h := ih (by simp) h2
      have e1 : (s :: u :: v :: r).getD ((s :: u :: v :: r).length - 1) z44 = (u :: v :: r).getD ((u :: v :: r).length - 1) z44 := by
        show (s :: u :: v :: r).getD (r.length + 2) z44 = (u :: v :: r).getD (r.length + 1) z44
        rw [List.getD_cons_succ]
      have e2 : (s :: u :: v :: r).getD ((s :: u :: v :: r).length - 2) z44 = (u :: v :: r).getD ((u :: v :: r).length - 2) z44 := by
        show (s :: u :: v :: r).getD (r.length + 1) z44 = (u :: v :: r).getD r.length z44
        rw [List.getD_cons_succ]
      rw [e1, e2]
      exact h
theorem ends_f (l : List S44) (h : endsP l = true) (hl : l.length ≤ 1099511627776) (hs : ∀ s ∈ l, s.f0.length ≤ 4259839 ∧ 0 ≤ s.f2 ∧ s.f2 ≤ 4259839) : satchelref03_Ends.f l = some true := by
  unfold satchelref03_Ends.f
  by_cases c0 : (l.length : Int) = 0
  · have : l = [] := List.eq_nil_of_length_eq_zero (by omega)
    rw [this] at h
    cases h
  rw [if_neg c0]
  by_cases c1 : (l.length : Int) = 1
  · rw [if_pos c1]
  rw [if_neg c1]
  have w1 : wrap64 ((l.length : Int) - 1) = ((l.length - 1 : Nat) : Int) := by rw [IntWalk.wrap64_in _ (by omega)]; omega
  have w2 : wrap64 ((l.length : Int) - 2) = ((l.length - 2 : Nat) : Int) := by rw [IntWalk.wrap64_in _ (by omega)]; omega
  rw [w1, w2, rd_at, rd_at]
  clear w1 w2
  have hm : ∀ i, i < l.length → l.getD i z44 ∈ l := fun i hi => by rw [List.getD_eq_getElem?_getD, List.getElem?_eq_getElem hi]; exact List.getElem_mem hi
  have b1 := hs _ (hm (l.length - 1) (by omega))
  have b2 := hs _ (hm (l.length - 2) (by omega))
  have he := ends_at l (by omega) h
  rw [if_pos (by omega), if_pos (by omega), if_pos he.1, if_pos (by omega), if_pos (by omega), IntWalk.wrap64_in _ (by omega), decide_eq_true he.2]
end Go.Proofs.Ytnomebkdhjigjaa.W
