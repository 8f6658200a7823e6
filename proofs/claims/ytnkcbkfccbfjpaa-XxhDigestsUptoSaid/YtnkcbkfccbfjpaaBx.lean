/- An argument of steps (whole number, whole number, bytes), opened. -/
import Derived.Test.YtnkcbkfccbfjpaaBw
import Derived.Test.YtnkcbkfccbfjpaaUg
import Derived.Deep.Strs
namespace Go.Proofs.Ytnkcbkfccbfjpaa.Bu
open Go.RowKit Go.ChangeShapes Go.WideShapes Go.Deep Go.Proofs.Ytnkcbkfccbfjpaa.XxhW Go.Proofs.YtnkcbkfccbfjpaaW.PrintWords
set_option linter.unusedVariables false
set_option linter.unusedSimpArgs false
instance : Inhabited OpZ := ⟨opZ⟩
section
variable {H : Type} {enc : TypeId × Value → H} {w : World} {base : Nat} {held : Bool}
theorem bytes_wf8 {l : List Int} (h : ∀ n ∈ l, (Lit.int .u8 n).wf = true) : Bytes l := fun i => by
  show 0 ≤ l.getD i 0 ∧ l.getD i 0 < 256
  rcases Nat.lt_or_ge i l.length with c | c
  · have hm : l.getD i 0 ∈ l := by rw [List.getD_eq_getElem?_getD, List.getElem?_eq_getElem c, Option.getD_some]; exact List.getElem_mem c
    exact wf_u8 (h _ hm)
  · rw [List.getD_eq_getElem?_getD, List.getElem?_eq_none c]
    decide
set_option maxRecDepth 100000 in
theorem open_ops {A : Option Addr} {len cap : Nat} {d : DataW H} {ps : List MemPlace} (hd : Rows.uptoBulk d ≤ 1048576) (h : DataW.Trod enc Try.prog w base (fun _ => true) held 53 (.slice A len cap) d ps) :
    ∃ l : List OpZ, l.length = len ∧ len ≤ cap ∧ len ≤ Rows.uptoBulk d ∧ Script w A l := by
  obtain ⟨fuel, hf⟩ := h
  rcases open_slice Try.underlying53 hf with ⟨hcs, hx⟩ | ⟨a, l, c, m, n, D, Pl, hcs, _, hl, hm, hmm, hx, hr⟩
  · simp [Value.cells] at hcs
    obtain ⟨rfl, rfl, rfl⟩ := hcs
    exact ⟨[], rfl, Nat.le_refl _, Nat.zero_le _, fun i hi => absurd hi (Nat.not_lt_zero _)⟩
  · simp [Value.cells] at hcs
    obtain ⟨rfl, rfl, rfl⟩ := hcs
    simp only [Prod.mk.injEq] at hx
    obtain ⟨rfl, _⟩ := hx
    simp only [if_true] at hmm
    subst hmm
    have hbulk : ∀ r : List (DataW H), Rows.uptoBulkAll ((List.range len).map D) ≤ Rows.uptoBulk (DataW.slice ((List.range len).map D) r) := fun r => by
      simp only [Rows.uptoBulk]
      omega
    have hc3 : Try.prog.cellsOf 59 = 3 := by kernel_rfl
    have hc1 : Try.prog.cellsOf 22 = 1 := by kernel_rfl
    have hc2 : Try.prog.cellsOf 3 = 1 := by kernel_rfl
    rw [hc3] at hr
    obtain ⟨f, hf⟩ := choose_lt (α := OpZ) (n := len) (p := fun i s => OpAt w (a.add (i * 3)) s) (fun i hi => by
      obtain ⟨cs, h1, h2⟩ := hr i (Nat.lt_of_lt_of_le hi hl)
      obtain ⟨y0, y1, y2, q, hD, hlen, t0, t1, t2⟩ := trod_struct3 Try.underlying59 h2
      rw [hc3] at hlen
      match cs, hlen with
      | [c0, c1, c2], _ =>
        have t0' : DataW.trod enc Try.prog w base (fun _ => true) held q 3 [c0] = some y0 := by
          have e : (([c0, c1, c2] : List Value).drop 0).take (Try.prog.cellsOf 3) = [c0] := by rw [hc2]; rfl
          rw [← e]; exact t0
        have t1' : DataW.trod enc Try.prog w base (fun _ => true) held q 3 [c1] = some y1 := by
          have e : (([c0, c1, c2] : List Value).drop 1).take (Try.prog.cellsOf 3) = [c1] := by rw [hc2]; rfl
          rw [← e]; exact t1
        have t2' : DataW.trod enc Try.prog w base (fun _ => true) held q 22 [c2] = some y2 := by
          have e : (([c0, c1, c2] : List Value).drop 2).take (Try.prog.cellsOf 22) = [c2] := by rw [hc1]; rfl
          rw [← e]; exact t2
        clear t0 t1 t2
        have hcell := (World.cells?_some h1).2.2
        obtain ⟨z1, e1, d1, w1⟩ := DataW.trod_int Try.underlying3 t0'
        obtain ⟨z2, e2, d2, w2⟩ := DataW.trod_int Try.underlying3 t1'
        simp only [List.cons.injEq, and_true] at e1 e2
        subst e1 e2
        have g1 : w.cell? ((a.add (i * 3)).add 1) = some (.int .i64 z2) := hcell 1 (by omega)
        have g2 : w.cell? ((a.add (i * 3)).add 2) = some c2 := hcell 2 (by omega)
        have g0 : w.cell? (a.add (i * 3)) = some (.int .i64 z1) := by have := hcell 0 (by omega); simpa [Addr.add] using this
        have hDy : D i = .agg [y0.1, y1.1, y2.1] := congrArg Prod.fst hD
        have hB : Rows.uptoBulk y2.1 ≤ 1048576 := by
          have h1 : Rows.uptoBulk y2.1 ≤ Rows.uptoBulk (D i) := by
            rw [hDy]
            simp only [Rows.uptoBulk]
            exact Nat.le_trans (part_le (by simp)) (Nat.le_succ _)
          have h2 : Rows.uptoBulk (D i) ≤ Rows.uptoBulkAll ((List.range len).map D) := part_le (List.mem_map.2 ⟨i, List.mem_range.2 hi, rfl⟩)
          exact Nat.le_trans h1 (Nat.le_trans h2 (Nat.le_trans (hbulk _) hd))
        rcases open_ints Try.underlying22 Try.underlying5 (by kernel_rfl) t2' with ⟨hcs, hx0⟩ | ⟨x, l', c', zs, hcs, _, hl', hm', hz, hx0, hcell0, hwz⟩
        · simp only [List.cons.injEq, and_true] at hcs
          subst hcs
          exact ⟨⟨z1, z2, []⟩, g0, g1, ⟨none, 0, g2, Nat.le_refl _, ⟨rfl, Nat.zero_le _, fun h => absurd h (Nat.lt_irrefl 0)⟩⟩, bytes_nil, Nat.zero_le _⟩
        · simp only [List.cons.injEq, and_true] at hcs
          subst hcs
          have hz' : zs.length = c' := by simpa using hz
          have hlt : (zs.take l').length = l' := by rw [List.length_take]; omega
          have hb0 : l' ≤ Rows.uptoBulk y2.1 := by
            rw [hx0]
            have h := len_le (H := H) (lits .u8 (zs.take l'))
            have e : (lits (H := H) .u8 (zs.take l')).length = l' := by simp [lits]; omega
            simp only [Rows.uptoBulk]
            omega
          refine ⟨⟨z1, z2, zs.take l'⟩, g0, g1, ⟨some x, c', by rw [hlt]; exact g2, by rw [hlt]; exact hl', ⟨rfl, by rw [hlt]; exact Nat.le_trans hl' (Nat.le_trans hm' (by decide)), fun h0 => ⟨x, rfl, fun j hj => ?_⟩⟩⟩, bytes_wf8 (fun n hn => hwz n (List.mem_of_mem_take hn)), by rw [hlt]; exact Nat.le_trans hb0 hB⟩
          rw [hlt] at hj
          rw [hcell0 j (by omega), List.getD_eq_getElem?_getD, List.getD_eq_getElem?_getD, List.getElem?_take, if_pos hj])
    have hget : ∀ i, i < len → ((List.range len).map f).getD i opZ = f i := fun i hi => by simp [List.getD, hi]
    refine ⟨(List.range len).map f, by simp, hl, ?_, fun i hi => ⟨a, rfl, ?_⟩⟩
    · have h := len_le (H := H) ((List.range len).map D)
      rw [List.length_map, List.length_range] at h
      exact Nat.le_trans h (hbulk _)
    · have hi' : i < len := by simpa using hi
      rw [hget i hi']
      exact hf i hi'
end
end Go.Proofs.Ytnkcbkfccbfjpaa.Bu
