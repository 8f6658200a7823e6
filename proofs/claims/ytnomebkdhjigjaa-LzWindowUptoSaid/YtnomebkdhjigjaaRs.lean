/- Sequences in memory of their own are read as a list. -/
import Derived.Test.YtnomebkdhjigjaaLy
import Derived.Test.YtnomebkdhjigjaaAd
namespace Go.Proofs.Ytnomebkdhjigjaa.W
open Go.RowKit Go.Proofs.Ytnomebkdhjigjaa.Z Go.Proofs.Ytnomebkdhjigjaa.MLzDecodes Go.Proofs.YtnomebkdhjigjaaW.PrintWords Go.Proofs.YtnomebkdhjigjaaW.PrintLast Go.Proofs.YtnomebkdhjigjaaW.PrintMore
set_option linter.unusedVariables false
set_option linter.unusedSimpArgs false
theorem cells3_at : ∀ (L : List (Value × S44)) (j : Nat) (p : Value × S44), L[j]? = some p → ∀ i, i < 3 → (cells3 L)[j * 3 + i]? = ([p.1, .int .i64 p.2.f1, .int .i64 p.2.f2] : List Value)[i]? := by
  intro L
  induction L with
  | nil => intro j p h; simp at h
  | cons a t ih =>
    intro j p h i hi
    have e : cells3 (a :: t) = [a.1, .int .i64 a.2.f1, .int .i64 a.2.f2] ++ cells3 t := rfl
    rw [e]
    cases j with
    | zero =>
      simp at h
      subst h
      rw [List.getElem?_append_left (by simp; omega)]
      congr 1
      omega
    | succ j =>
      rw [List.getElem?_append_right (by simp; omega)]
      have := ih j p (by simpa using h) i hi
      rw [← this]
      congr 1
      simp
      omega
theorem add_zero (g j : Nat) : (⟨g, 0, none⟩ : Addr).add j = ⟨g, j, none⟩ := by
  unfold Addr.add
  split
  · rename_i h; rw [h]
  · simp
/-- Sequences in memory of their own are read as a list. -/
theorem seq_reads {w : World} {B : Nat} {v : Value} {L : List (Value × S44)} (h1 : w.ownsRow B 44 3 v L.length (cells3 L)) (h2 : ∀ p ∈ L, ∃ B', w.ownsRow B' 5 1 p.1 p.2.f0.length (nums .u8 p.2.f0)) :
    ∃ A c, v = .slice A (L.map (·.2)).length c ∧ (L.map (·.2)).length ≤ c ∧ Kd.C k44 w A (L.map (·.2)).length (L.map (·.2)) := by
  rcases h1.2 with ⟨rfl, h0⟩ | ⟨g, cap, cur, rfl, hg, hh, hcap, hmax, hsz, hcur⟩
  · rw [List.eq_nil_of_length_eq_zero h0]
    exact ⟨none, 0, rfl, Nat.le_refl _, rfl, by decide, fun h => absurd h (Nat.lt_irrefl 0)⟩
  · refine ⟨some ⟨g, 0, none⟩, cap, by rw [List.length_map], by rw [List.length_map]; exact hcap, rfl, by rw [List.length_map]; exact Nat.le_trans hcap (Nat.le_trans hmax (by decide)), fun h0 => ⟨_, rfl, fun j s hs => ?_⟩⟩
    rw [List.getElem?_map, Option.map_eq_some_iff] at hs
    obtain ⟨p, hp, rfl⟩ := hs
    obtain ⟨B', ho⟩ := h2 p (List.mem_of_getElem? hp)
    obtain ⟨A0, c0, e0, hr0, hc0⟩ := own_reads' ho
    have hj : j < L.length := (List.getElem?_eq_some_iff.1 hp).1
    refine ⟨[p.1, .int .i64 p.2.f1, .int .i64 p.2.f2], rfl, by rw [e0]; exact k44_mk w p.2 hc0 (Kd.C_of_reads (enc := Value.int .u8) (d := (0 : Int)) (h1 := fun _ => rfl) hr0), fun i u hu => ?_⟩
    have hi : i < 3 := (List.getElem?_eq_some_iff.1 hu).1
    show w.cell? (Addr.add _ (j * 3 + i)) = some u
    rw [add_zero, World.ownsRow.cellAt h1 (j * 3 + i) (by omega), cells3_at L j p hp i hi]
    exact hu
theorem Sep.seq {w0 w : World} {l : List Res} {B : Nat} {v : Value} {L : List (Value × S44)} (h : Sep w0 w l) (hs : ∀ r ∈ SeqL B v L, r ∈ l) : ∃ A c, v = .slice A (L.map (·.2)).length c ∧ (L.map (·.2)).length ≤ c ∧ Kd.C k44 w A (L.map (·.2)).length (L.map (·.2)) :=
  seq_reads (h.h _ (hs _ List.mem_cons_self)) (fun p hp => ⟨B, h.h _ (hs _ (List.mem_cons_of_mem _ (List.mem_map.2 ⟨p, hp, rfl⟩)))⟩)
end Go.Proofs.Ytnomebkdhjigjaa.W
