/- Bytes that are bytes; a row that is read, as the print says it. Plain facts of reading. -/
import Derived.Test.YtnomebkdhjigjaaLb
namespace Go.Proofs.Ytnomebkdhjigjaa.W
open Go.RowKit Go.Proofs.YtnomebkdhjigjaaW.PrintWords Go.Proofs.YtnomebkdhjigjaaW.PrintLast Go.Proofs.YtnomebkdhjigjaaW.PrintMore
set_option linter.unusedVariables false
set_option linter.unusedSimpArgs false
def bytesB (l : List Int) : Bool := l.all fun x => decide (0 ≤ x ∧ x < 256)
theorem byt_of (l : List Int) (h : bytesB l = true) : Byt l := fun i => by
  unfold bytesB at h
  rw [List.all_eq_true] at h
  rw [List.getD_eq_getElem?_getD]
  by_cases hi : i < l.length
  · have := h l[i] (List.getElem_mem hi)
    simpa [List.getElem?_eq_getElem hi] using this
  · rw [List.getElem?_eq_none (by omega)]
    exact ⟨by decide, by decide⟩
theorem bytesB_wf {l : List Int} (h : ∀ x ∈ l, (Lit.int .u8 x).wf = true) : bytesB l = true := by
  unfold bytesB
  rw [List.all_eq_true]
  intro x hx
  have := h x hx
  simp only [Lit.wf, show IntKind.u8.min = 0 from rfl, show IntKind.u8.max = 255 from rfl, Bool.and_eq_true, decide_eq_true_eq] at this
  simp
  omega
theorem reads_of_C {w : World} {A : Option Addr} {l : List Int} (h : Kd.C (Kd.int .u8) w A l.length l) : ReadsInt w .u8 A l.length l :=
  ⟨rfl, h.2.1, fun h0 => by
    obtain ⟨ad, e, hc⟩ := Kd.at_int h 0 (by omega) (by omega)
    refine ⟨ad, e, fun i hi => ?_⟩
    obtain ⟨ad', e', hc'⟩ := Kd.at_int h (i : Int) (by omega) (by omega)
    rw [e] at e'
    cases e'
    simpa [rd] using hc'⟩
theorem bytesB_of {l : List Int} (h : Byt l) : bytesB l = true := by
  unfold bytesB
  rw [List.all_eq_true]
  intro x hx
  obtain ⟨i, hi, rfl⟩ := List.mem_iff_getElem.1 hx
  have := h i
  rw [List.getD_eq_getElem?_getD, List.getElem?_eq_getElem hi] at this
  simpa using this
theorem rd_nat (b : List Int) (p : Nat) : rd b (p : Int) = b.getD p 0 := by simp [rd]
theorem ext_cons (b : List Int) (p : Nat) (hp : p < b.length) : b.drop p = b.getD p 0 :: b.drop (p + 1) := by
  rw [List.getD_eq_getElem?_getD, List.getElem?_eq_getElem hp]
  exact List.drop_eq_getElem_cons hp
/-- What room answers. -/
def roomE (all : List Int) (bg most n : Int) : Int := if n > most - ((all.length : Int) - bg) then 32 else 0
theorem drewN_fr {w w' : World} (h : ∃ k, w' = w.drewN k) (ok : Nat → Prop) : Fr w w' ok := by
  obtain ⟨k, rfl⟩ := h
  exact Fr.drewN _ _
theorem add_pos (ad : Addr) (i : Nat) (h : 0 < i) : ad.add i = ⟨ad.block, ad.off + i, none⟩ := by
  unfold Addr.add; split
  · omega
  · rfl
end Go.Proofs.Ytnomebkdhjigjaa.W
