/- An argument of sequences, opened: as the print reads it; how long each is. -/
import Derived.Test.YtnomebkdhjigjaaBu
import Derived.Test.YtnomebkdhjigjaaZa
import Derived.Deep.Strs
namespace Go.Proofs.Ytnomebkdhjigjaa.Bu
open Go.RowKit Go.ChangeShapes Go.WideShapes Go.Deep Go.Proofs.Ytnomebkdhjigjaa.Z Go.Proofs.YtnomebkdhjigjaaW.PrintWords
set_option linter.unusedVariables false
set_option linter.unusedSimpArgs false
instance : Inhabited S44 := ⟨z44⟩
section
variable {H : Type} {enc : TypeId × Value → H} {w : World} {base : Nat} {held : Bool}
/-- A sequence that lies at an address. -/
structure SeqAt (w : World) (a : Addr) (s : S44) (B : Nat) (A0 : Option Addr) (c0 : Nat) : Prop where
  x0 : w.cell? a = some (.slice A0 s.f0.length c0)
  x1 : w.cell? (a.add 1) = some (.int .i64 s.f1)
  x2 : w.cell? (a.add 2) = some (.int .i64 s.f2)
  le : s.f0.length ≤ c0
  rd : ReadsInt w .u8 A0 s.f0.length s.f0
  bulk : s.f0.length ≤ B
  wf0 : ∀ n ∈ s.f0, (Lit.int .u8 n).wf = true
  wf1 : (Lit.int .i64 s.f1).wf = true
  wf2 : (Lit.int .i64 s.f2).wf = true
set_option maxRecDepth 100000 in
theorem open_seqs {A : Option Addr} {len cap : Nat} {d : DataW H} {ps : List MemPlace} (h : DataW.Trod enc Try.prog w base (fun _ => true) held 37 (.slice A len cap) d ps) :
    ∃ l : List S44, l.length = len ∧ len ≤ cap ∧ cap ≤ maxLen ∧ len ≤ Rows.uptoBulk d ∧ Kd.C k44 w A len l ∧ ∀ i, i < len → (l.getD i z44).f0.length ≤ Rows.uptoBulk d ∧ (∀ n ∈ (l.getD i z44).f0, (Lit.int .u8 n).wf = true) ∧ (Lit.int .i64 (l.getD i z44).f1).wf = true ∧ (Lit.int .i64 (l.getD i z44).f2).wf = true := by
  obtain ⟨fuel, hf⟩ := h
  rcases open_slice Try.underlying37 hf with ⟨hcs, hx⟩ | ⟨a, l, c, m, n, D, Pl, hcs, _, hl, hm, hmm, hx, hr⟩
  · simp [Value.cells] at hcs
    obtain ⟨rfl, rfl, rfl⟩ := hcs
    exact ⟨[], rfl, Nat.le_refl _, Nat.zero_le _, Nat.zero_le _, ⟨rfl, by decide, fun h => absurd h (Nat.lt_irrefl 0)⟩, fun i hi => absurd hi (Nat.not_lt_zero _)⟩
  · simp [Value.cells] at hcs
    obtain ⟨rfl, rfl, rfl⟩ := hcs
    simp only [Prod.mk.injEq] at hx
    obtain ⟨rfl, _⟩ := hx
    simp only [if_true] at hmm
    subst hmm
    have hc3 : Try.prog.cellsOf 44 = 3 := by kernel_rfl
    have hc1 : Try.prog.cellsOf 22 = 1 := by kernel_rfl
    have hc2 : Try.prog.cellsOf 3 = 1 := by kernel_rfl
    rw [hc3] at hr
    obtain ⟨f, hf⟩ := choose_lt (α := S44) (n := len) (p := fun i s => ∃ A0 c0, SeqAt w (a.add (i * 3)) s (Rows.uptoBulk (D i)) A0 c0) (fun i hi => by
      obtain ⟨cs, h1, h2⟩ := hr i (Nat.lt_of_lt_of_le hi hl)
      obtain ⟨y0, y1, y2, q, hD, hlen, t0, t1, t2⟩ := trod_struct3 Try.underlying44 h2
      rw [hc3] at hlen
      match cs, hlen with
      | [c0, c1, c2], _ =>
        have t0' : DataW.trod enc Try.prog w base (fun _ => true) held q 22 [c0] = some y0 := by
          have e : (([c0, c1, c2] : List Value).drop 0).take (Try.prog.cellsOf 22) = [c0] := by rw [hc1]; rfl
          rw [← e]; exact t0
        have t1' : DataW.trod enc Try.prog w base (fun _ => true) held q 3 [c1] = some y1 := by
          have e : (([c0, c1, c2] : List Value).drop 1).take (Try.prog.cellsOf 3) = [c1] := by rw [hc2]; rfl
          rw [← e]; exact t1
        have t2' : DataW.trod enc Try.prog w base (fun _ => true) held q 3 [c2] = some y2 := by
          have e : (([c0, c1, c2] : List Value).drop 2).take (Try.prog.cellsOf 3) = [c2] := by rw [hc2]; rfl
          rw [← e]; exact t2
        clear t0 t1 t2
        have hcell := (World.cells?_some h1).2.2
        obtain ⟨z1, e1, d1, w1⟩ := DataW.trod_int Try.underlying3 t1'
        obtain ⟨z2, e2, d2, w2⟩ := DataW.trod_int Try.underlying3 t2'
        simp only [List.cons.injEq, and_true] at e1 e2
        subst e1 e2
        have g1 : w.cell? ((a.add (i * 3)).add 1) = some (.int .i64 z1) := hcell 1 (by omega)
        have g2 : w.cell? ((a.add (i * 3)).add 2) = some (.int .i64 z2) := hcell 2 (by omega)
        have g0 : w.cell? (a.add (i * 3)) = some c0 := by have := hcell 0 (by omega); simpa [Addr.add] using this
        have hDy : D i = .agg [y0.1, y1.1, y2.1] := congrArg Prod.fst hD
        have hB : Rows.uptoBulk y0.1 ≤ Rows.uptoBulk (D i) := by
          rw [hDy]
          simp only [Rows.uptoBulk]
          exact Nat.le_trans (part_le (by simp)) (Nat.le_succ _)
        rcases open_ints Try.underlying22 Try.underlying5 (by kernel_rfl) t0' with ⟨hcs, hx0⟩ | ⟨x, l', c', zs, hcs, _, hl', hm', hz, hx0, hcell0, hwz⟩
        · simp only [List.cons.injEq, and_true] at hcs
          subst hcs
          exact ⟨⟨[], z1, z2⟩, none, 0, g0, g1, g2, Nat.le_refl _, ⟨rfl, Nat.zero_le _, fun h => absurd h (Nat.lt_irrefl 0)⟩, Nat.zero_le _, by simp, w1, w2⟩
        · simp only [List.cons.injEq, and_true] at hcs
          subst hcs
          have hz' : zs.length = c' := by simpa using hz
          have hlt : (zs.take l').length = l' := by rw [List.length_take]; omega
          have hb0 : l' ≤ Rows.uptoBulk y0.1 := by
            rw [hx0]
            have h := len_le (H := H) (lits .u8 (zs.take l'))
            have e : (lits (H := H) .u8 (zs.take l')).length = l' := by simp [lits]; omega
            simp only [Rows.uptoBulk]
            omega
          refine ⟨⟨zs.take l', z1, z2⟩, some x, c', by rw [hlt]; exact g0, g1, g2, by rw [hlt]; exact hl', ⟨rfl, by rw [hlt]; exact Nat.le_trans hl' (Nat.le_trans hm' (by decide)), fun h0 => ⟨x, rfl, fun j hj => ?_⟩⟩, by rw [hlt]; exact Nat.le_trans hb0 hB, fun n hn => hwz n (List.mem_of_mem_take hn), w1, w2⟩
          rw [hlt] at hj
          rw [hcell0 j (by omega), List.getD_eq_getElem?_getD, List.getD_eq_getElem?_getD, List.getElem?_take, if_pos hj])
    have hget : ∀ i, i < len → ((List.range len).map f).getD i z44 = f i := fun i hi => by simp [List.getD, hi]
    have hbulk : ∀ r : List (DataW H), Rows.uptoBulkAll ((List.range len).map D) ≤ Rows.uptoBulk (DataW.slice ((List.range len).map D) r) := fun r => by
      simp only [Rows.uptoBulk]
      omega
    refine ⟨(List.range len).map f, by simp, hl, hm, ?_, ⟨by simp, Nat.le_trans hl (Nat.le_trans hm (by decide)), fun h0 => ⟨a, rfl, fun j p hp => ?_⟩⟩, fun i hi => ?_⟩
    · have h := len_le (H := H) ((List.range len).map D)
      rw [List.length_map, List.length_range] at h
      exact Nat.le_trans h (hbulk _)
    · have hj : j < len := by
        have := (List.getElem?_eq_some_iff.1 hp).1
        simpa using this
      have hp' : p = f j := by
        have := hget j hj
        rw [List.getD_eq_getElem?_getD, hp] at this
        simpa using this
      subst hp'
      obtain ⟨A0, c0, hs⟩ := hf j hj
      refine ⟨[.slice A0 (f j).f0.length c0, .int .i64 (f j).f1, .int .i64 (f j).f2], rfl, k44_mk w (f j) hs.le (Kd.C_of_reads (enc := Value.int .u8) (d := (0 : Int)) (h1 := fun _ => rfl) hs.rd), fun i u hu => ?_⟩
      rcases i with _ | _ | _ | i
      · simp at hu; subst hu; exact hs.x0
      · simp at hu; subst hu
        have := hs.x1
        rw [Addr.add_add] at this
        exact this
      · simp at hu; subst hu
        have := hs.x2
        rw [Addr.add_add] at this
        exact this
      · simp at hu
    · obtain ⟨A0, c0, hs⟩ := hf i hi
      rw [hget i hi]
      exact ⟨Nat.le_trans hs.bulk (Nat.le_trans (part_le (H := H) (d := D i) (l := (List.range len).map D) (List.mem_map.2 ⟨i, List.mem_range.2 hi, rfl⟩)) (hbulk _)), hs.wf0, hs.wf1, hs.wf2⟩
end
theorem slice_shape {H : Type} {enc : TypeId × Value → H} {P : Program} {w : World} {base : Nat} {held : Bool} {t e : TypeId} {n : Nat} {v : Value} {y : DataW H × List MemPlace} (ht : P.underlying t = some (.slice e)) (h : DataW.trod enc P w base (fun _ => true) held n t [v] = some y) : ∃ A l c, v = .slice A l c := by
  rcases open_slice ht h with ⟨hcs, hx⟩ | ⟨a, l, c, m, n, D, Pl, hcs, _⟩
  · simp only [List.cons.injEq, and_true] at hcs
    exact ⟨_, _, _, hcs⟩
  · simp only [List.cons.injEq, and_true] at hcs
    exact ⟨_, _, _, hcs⟩
theorem wf_u8 {x : Int} (h : (Lit.int .u8 x).wf = true) : 0 ≤ x ∧ x < 256 := by
  simp only [Lit.wf, show IntKind.u8.min = 0 from rfl, show IntKind.u8.max = 255 from rfl, Bool.and_eq_true, decide_eq_true_eq] at h
  omega
theorem wf_i64 {x : Int} (h : (Lit.int .i64 x).wf = true) : -9223372036854775808 ≤ x ∧ x ≤ 9223372036854775807 := by
  simp only [Lit.wf, show IntKind.i64.min = -9223372036854775808 from rfl, show IntKind.i64.max = 9223372036854775807 from rfl, Bool.and_eq_true, decide_eq_true_eq] at h
  omega
end Go.Proofs.Ytnomebkdhjigjaa.Bu
