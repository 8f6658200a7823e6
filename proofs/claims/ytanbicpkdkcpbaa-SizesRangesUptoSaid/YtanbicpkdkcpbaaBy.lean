/- An argument of ranges, opened: as the print reads it. -/
import Derived.Test.YtanbicpkdkcpbaaBu
import Derived.Test.YtanbicpkdkcpbaaGa
import Derived.Deep.Strs
namespace Go.Proofs.Ytanbicpkdkcpbaa.Bu
open Go.RowKit Go.ChangeShapes Go.WideShapes Go.Deep Go.Proofs.Ytanbicpkdkcpbaa.RSizesRanges Go.Proofs.YtanbicpkdkcpbaaW.PrintWords
set_option linter.unusedVariables false
set_option linter.unusedSimpArgs false
instance : Inhabited S67 := ⟨z67⟩
theorem slice_shape {H : Type} {enc : TypeId × Value → H} {P : Program} {w : World} {base : Nat} {held : Bool} {t e : TypeId} {n : Nat} {v : Value} {y : DataW H × List MemPlace} (ht : P.underlying t = some (.slice e)) (h : DataW.trod enc P w base (fun _ => true) held n t [v] = some y) : ∃ A len cap, v = .slice A len cap := by
  rcases open_slice ht h with ⟨hcs, hx⟩ | ⟨a, l, c, m, n, D, Pl, hcs, _⟩
  · simp at hcs
    exact ⟨none, 0, 0, hcs⟩
  · simp at hcs
    exact ⟨some a, l, c, hcs⟩
section
variable {H : Type} {enc : TypeId × Value → H} {w : World} {base : Nat} {held : Bool}
set_option maxRecDepth 100000 in
theorem open_ranges {A : Option Addr} {len cap : Nat} {d : DataW H} {ps : List MemPlace} (h : DataW.Trod enc Try.prog w base (fun _ => true) held 43 (.slice A len cap) d ps) :
    ∃ l : List S67, l.length = len ∧ len ≤ cap ∧ len ≤ Rows.uptoBulk d ∧ Kd.C k67 w A len l := by
  obtain ⟨fuel, hf⟩ := h
  rcases open_slice Try.underlying43 hf with ⟨hcs, hx⟩ | ⟨a, l, c, m, n, D, Pl, hcs, _, hl, hm, hmm, hx, hr⟩
  · simp [Value.cells] at hcs
    obtain ⟨rfl, rfl, rfl⟩ := hcs
    exact ⟨[], rfl, Nat.le_refl _, Nat.zero_le _, ⟨rfl, by decide, fun h => absurd h (Nat.lt_irrefl 0)⟩⟩
  · simp [Value.cells] at hcs
    obtain ⟨rfl, rfl, rfl⟩ := hcs
    simp only [Prod.mk.injEq] at hx
    obtain ⟨rfl, _⟩ := hx
    simp only [if_true] at hmm
    subst hmm
    have hc2 : Try.prog.cellsOf 67 = 2 := by kernel_rfl
    have hc1 : Try.prog.cellsOf 2 = 1 := by kernel_rfl
    rw [hc2] at hr
    obtain ⟨f, hf⟩ := choose_lt (α := S67) (n := len) (p := fun i s => w.cell? (a.add (i * 2)) = some (.int .i64 s.f0) ∧ w.cell? ((a.add (i * 2)).add 1) = some (.int .i64 s.f1)) (fun i hi => by
      obtain ⟨cs, h1, h2⟩ := hr i (Nat.lt_of_lt_of_le hi hl)
      obtain ⟨y0, y1, q, hD, hlen, t0, t1⟩ := trod_struct2 Try.underlying67 h2
      rw [hc2] at hlen
      match cs, hlen with
      | [c0, c1], _ =>
        have t0' : DataW.trod enc Try.prog w base (fun _ => true) held q 2 [c0] = some y0 := by
          have e : (([c0, c1] : List Value).drop 0).take (Try.prog.cellsOf 2) = [c0] := by rw [hc1]; rfl
          rw [← e]; exact t0
        have t1' : DataW.trod enc Try.prog w base (fun _ => true) held q 2 [c1] = some y1 := by
          have e : (([c0, c1] : List Value).drop 1).take (Try.prog.cellsOf 2) = [c1] := by rw [hc1]; rfl
          rw [← e]; exact t1
        clear t0 t1
        have hcell := (World.cells?_some h1).2.2
        obtain ⟨z1, e1, d1, w1⟩ := DataW.trod_int Try.underlying2 t0'
        obtain ⟨z2, e2, d2, w2⟩ := DataW.trod_int Try.underlying2 t1'
        simp only [List.cons.injEq, and_true] at e1 e2
        subst e1 e2
        have g1 : w.cell? ((a.add (i * 2)).add 1) = some (.int .i64 z2) := hcell 1 (by omega)
        have g0 : w.cell? (a.add (i * 2)) = some (.int .i64 z1) := by have := hcell 0 (by omega); simpa [Addr.add] using this
        exact ⟨⟨z1, z2⟩, g0, g1⟩)
    have hget : ∀ i, i < len → ((List.range len).map f).getD i z67 = f i := fun i hi => by simp [List.getD, hi]
    have hbulk : ∀ r : List (DataW H), Rows.uptoBulkAll ((List.range len).map D) ≤ Rows.uptoBulk (DataW.slice ((List.range len).map D) r) := fun r => by
      simp only [Rows.uptoBulk]
      omega
    refine ⟨(List.range len).map f, by simp, hl, ?_, ⟨by simp, Nat.le_trans hl (Nat.le_trans hm (by decide)), fun h0 => ⟨a, rfl, fun j p hp => ?_⟩⟩⟩
    · have h := len_le (H := H) ((List.range len).map D)
      rw [List.length_map, List.length_range] at h
      exact Nat.le_trans h (hbulk _)
    · have hj : j < len := by
        have := (List.getElem?_eq_some_iff.1 hp).1
        simpa using this
      have hp' : p = f j := by
        have := hget j hj
        rw [List.getD_eq_getElem?_getD, hp] at this
        simpa using this
      subst hp'
      obtain ⟨g0, g1⟩ := hf j hj
      refine ⟨[.int .i64 (f j).f0, .int .i64 (f j).f1], rfl, k67_mk w (f j), fun i u hu => ?_⟩
      rcases i with _ | _ | i
      · simp at hu; subst hu; exact g0
      · simp at hu; subst hu
        rw [Addr.add_add] at g1
        exact g1
      · simp at hu
end
end Go.Proofs.Ytanbicpkdkcpbaa.Bu
