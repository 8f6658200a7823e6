/- An argument of acts, opened. -/
import Derived.Test.YtanbicpkdkcpbaaBy
import Derived.Test.YtanbicpkdkcpbaaGx
import Derived.Deep.Strs
namespace Go.Proofs.Ytanbicpkdkcpbaa.Bu
open Go.RowKit Go.ChangeShapes Go.WideShapes Go.Deep Go.Proofs.Ytanbicpkdkcpbaa.RSizesRanges Go.Proofs.Ytanbicpkdkcpbaa.Rng Go.Proofs.YtanbicpkdkcpbaaW.PrintWords
set_option linter.unusedVariables false
set_option linter.unusedSimpArgs false
instance : Inhabited Rng.Act := ⟨actZ⟩
theorem add_at (a : Addr) (m k : Nat) (hk : 0 < k) : (a.add m).add k = ⟨(a.add m).block, (a.add m).off + k, none⟩ := by
  rw [Addr.add_add]
  exact add_field a m k hk
section
variable {H : Type} {enc : TypeId × Value → H} {w : World} {base : Nat} {held : Bool}
theorem range_cells {q : Nat} {c0 c1 : Value} {y : DataW H × List MemPlace} (h : DataW.trod enc Try.prog w base (fun _ => true) held q 67 [c0, c1] = some y) : ∃ a b : Int, c0 = .int .i64 a ∧ c1 = .int .i64 b := by
  have hc1 : Try.prog.cellsOf 2 = 1 := by kernel_rfl
  obtain ⟨y0, y1, q', hD, hlen, t0, t1⟩ := trod_struct2 Try.underlying67 h
  have t0' : DataW.trod enc Try.prog w base (fun _ => true) held q' 2 [c0] = some y0 := by
    have e : (([c0, c1] : List Value).drop 0).take (Try.prog.cellsOf 2) = [c0] := by rw [hc1]; rfl
    rw [← e]; exact t0
  have t1' : DataW.trod enc Try.prog w base (fun _ => true) held q' 2 [c1] = some y1 := by
    have e : (([c0, c1] : List Value).drop 1).take (Try.prog.cellsOf 2) = [c1] := by rw [hc1]; rfl
    rw [← e]; exact t1
  obtain ⟨z1, e1, _, _⟩ := DataW.trod_int Try.underlying2 t0'
  obtain ⟨z2, e2, _, _⟩ := DataW.trod_int Try.underlying2 t1'
  simp only [List.cons.injEq, and_true] at e1 e2
  exact ⟨z1, z2, e1, e2⟩
set_option maxRecDepth 100000 in
theorem open_acts {A : Option Addr} {len cap : Nat} {d : DataW H} {ps : List MemPlace} (h : DataW.Trod enc Try.prog w base (fun _ => true) held 62 (.slice A len cap) d ps) :
    ∃ l : List Rng.Act, l.length = len ∧ len ≤ Rows.uptoBulk d ∧ Acts w A l := by
  obtain ⟨fuel, hf⟩ := h
  rcases open_slice Try.underlying62 hf with ⟨hcs, hx⟩ | ⟨a, l, c, m, n, D, Pl, hcs, _, hl, hm, hmm, hx, hr⟩
  · simp [Value.cells] at hcs
    obtain ⟨rfl, rfl, rfl⟩ := hcs
    exact ⟨[], rfl, Nat.zero_le _, fun i hi => absurd hi (Nat.not_lt_zero _)⟩
  · simp [Value.cells] at hcs
    obtain ⟨rfl, rfl, rfl⟩ := hcs
    simp only [Prod.mk.injEq] at hx
    obtain ⟨rfl, _⟩ := hx
    simp only [if_true] at hmm
    subst hmm
    have hc5 : Try.prog.cellsOf 69 = 5 := by kernel_rfl
    have hc1 : Try.prog.cellsOf 4 = 1 := by kernel_rfl
    have hc2 : Try.prog.cellsOf 67 = 2 := by kernel_rfl
    rw [hc5] at hr
    obtain ⟨f, hf⟩ := choose_lt (α := Rng.Act) (n := len) (p := fun i s => ActAt w (a.add (i * 5)) s) (fun i hi => by
      obtain ⟨cs, h1, h2⟩ := hr i (Nat.lt_of_lt_of_le hi hl)
      obtain ⟨y0, y1, y2, q, hD, hlen, t0, t1, t2⟩ := trod_struct3 Try.underlying69 h2
      rw [hc5] at hlen
      match cs, hlen with
      | [c0, c1, c2, c3, c4], _ =>
        have t0' : DataW.trod enc Try.prog w base (fun _ => true) held q 4 [c0] = some y0 := by
          have e : (([c0, c1, c2, c3, c4] : List Value).drop 0).take (Try.prog.cellsOf 4) = [c0] := by rw [hc1]; rfl
          rw [← e]; exact t0
        have t1' : DataW.trod enc Try.prog w base (fun _ => true) held q 67 [c1, c2] = some y1 := by
          have e : (([c0, c1, c2, c3, c4] : List Value).drop 1).take (Try.prog.cellsOf 67) = [c1, c2] := by rw [hc2]; rfl
          rw [← e]; exact t1
        have t2' : DataW.trod enc Try.prog w base (fun _ => true) held q 67 [c3, c4] = some y2 := by
          have e : (([c0, c1, c2, c3, c4] : List Value).drop 3).take (Try.prog.cellsOf 67) = [c3, c4] := by rw [hc2]; rfl
          rw [← e]; exact t2
        clear t0 t1 t2
        have hcell := (World.cells?_some h1).2.2
        obtain ⟨sc, e0, _⟩ := DataW.trod_bool Try.underlying4 t0'
        simp only [List.cons.injEq, and_true] at e0
        subst e0
        obtain ⟨x0, x1, rfl, rfl⟩ := range_cells t1'
        obtain ⟨z0, z1, rfl, rfl⟩ := range_cells t2'
        refine ⟨⟨sc, x0, x1, z0, z1⟩, ?_, ?_, ?_, ?_, ?_⟩
        · have := hcell 0 (by omega); simpa [Addr.add] using this
        · rw [← add_at a (i * 5) 1 (by decide)]; exact hcell 1 (by omega)
        · rw [← add_at a (i * 5) 2 (by decide)]; exact hcell 2 (by omega)
        · rw [← add_at a (i * 5) 3 (by decide)]; exact hcell 3 (by omega)
        · rw [← add_at a (i * 5) 4 (by decide)]; exact hcell 4 (by omega))
    have hget : ∀ i, i < len → ((List.range len).map f).getD i actZ = f i := fun i hi => by simp [List.getD, hi]
    refine ⟨(List.range len).map f, by simp, ?_, fun i hi => ⟨a, rfl, ?_⟩⟩
    · have h := len_le (H := H) ((List.range len).map D)
      rw [List.length_map, List.length_range] at h
      simp only [Rows.uptoBulk]
      omega
    · have hi' : i < len := by simpa using hi
      rw [hget i hi']
      exact hf i hi'
end
end Go.Proofs.Ytanbicpkdkcpbaa.Bu
