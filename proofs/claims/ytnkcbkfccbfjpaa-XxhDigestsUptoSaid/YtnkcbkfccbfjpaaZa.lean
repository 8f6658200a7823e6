/- The four sums' contracts in the print's form: a function to Option (none where a condition falls), and the walk. -/
import Derived.Test.YtnkcbkfccbfjpaaYY
namespace Go.Proofs.Ytnkcbkfccbfjpaa.XxhP
open Go.RowKit Go.Proofs.YtnkcbkfccbfjpaaW.PrintWords Go.Proofs.YtnkcbkfccbfjpaaW.PrintLast Go.Proofs.YtnkcbkfccbfjpaaW.PrintMore Go.Proofs.Ytnkcbkfccbfjpaa.XxhW
set_option linter.unusedVariables false
set_option linter.unusedSimpArgs false
/-- every element a byte -/
def bytesB (l : List Int) : Bool := l.all fun x => decide (0 ≤ x ∧ x < 256)
theorem bytes_of (l : List Int) (h : bytesB l = true) : Bytes l := fun i => by
  unfold bytesB at h
  rw [List.all_eq_true] at h
  by_cases hi : i < l.length
  · have := h l[i] (List.getElem_mem hi)
    simpa [X.at', List.getD_eq_getElem?_getD, List.getElem?_eq_getElem hi] using this
  · have : X.at' l i = 0 := by simp [X.at', List.getD_eq_getElem?_getD, List.getElem?_eq_none (Nat.not_lt.mp hi)]
    omega
theorem bytesB_wf {l : List Int} (h : ∀ x ∈ l, (Lit.int .u8 x).wf = true) : bytesB l = true := by
  unfold bytesB
  rw [List.all_eq_true]
  intro x hx
  have := h x hx
  simp only [Lit.wf, show IntKind.u8.min = 0 from rfl, show IntKind.u8.max = 255 from rfl, Bool.and_eq_true, decide_eq_true_eq] at this
  simp
  omega
def sum32f (s : Int) (l : List Int) : Option Int := if (0 ≤ s ∧ s < 4294967296) ∧ l.length ≤ 140737488355327 ∧ bytesB l = true then some (X.sum32 s l) else none
def sum64f (s : Int) (l : List Int) : Option Int := if (0 ≤ s ∧ s < 18446744073709551616) ∧ l.length ≤ 140737488355327 ∧ bytesB l = true then some (X.sum64 s l) else none
theorem sum32f_some {s : Int} {l : List Int} {r : Int} (h : sum32f s l = some r) : W32 s ∧ l.length ≤ 140737488355327 ∧ Bytes l ∧ X.sum32 s l = r := by
  unfold sum32f at h
  by_cases c : (0 ≤ s ∧ s < 4294967296) ∧ l.length ≤ 140737488355327 ∧ bytesB l = true
  · rw [if_pos c] at h; exact ⟨c.1, c.2.1, bytes_of l c.2.2, Option.some.inj h⟩
  · rw [if_neg c] at h; cases h
theorem sum64f_some {s : Int} {l : List Int} {r : Int} (h : sum64f s l = some r) : W64 s ∧ l.length ≤ 140737488355327 ∧ Bytes l ∧ X.sum64 s l = r := by
  unfold sum64f at h
  by_cases c : (0 ≤ s ∧ s < 18446744073709551616) ∧ l.length ≤ 140737488355327 ∧ bytesB l = true
  · rw [if_pos c] at h; exact ⟨c.1, c.2.1, bytes_of l c.2.2, Option.some.inj h⟩
  · rw [if_neg c] at h; cases h
theorem reads_of_C {w : World} {A : Option Addr} {l : List Int} (h : Kd.C (Kd.int .u8) w A l.length l) : ReadsInt w .u8 A l.length l :=
  ⟨rfl, h.2.1, fun h0 => by
    obtain ⟨ad, e, hc⟩ := Kd.at_int h 0 (by omega) (by omega)
    refine ⟨ad, e, fun i hi => ?_⟩
    obtain ⟨ad', e', hc'⟩ := at_int h i hi
    rw [e] at e'
    cases e'
    exact hc'⟩
theorem Sum32_p (a0 : Int) (A1 : Option Addr) (c1 : Nat) (l1 : List Int) (r : Int) (w : World) (hr1 : Kd.C (Kd.int .u8) w A1 l1.length l1) (hc1 : l1.length ≤ c1) (h : sum32f a0 l1 = some r) :
    Calls Try.prog 21 #[.int .u32 a0, .slice A1 l1.length c1] w fun e w' => e = .returned (.int .u32 r) ∧ Below w.heap.size w w' := by
  obtain ⟨h1, h2, h3, rfl⟩ := sum32f_some h
  exact Sum32_calls A1 c1 l1 a0 w (reads_of_C hr1) h3 h1 h2
theorem Sum64_p (a0 : Int) (A1 : Option Addr) (c1 : Nat) (l1 : List Int) (r : Int) (w : World) (hr1 : Kd.C (Kd.int .u8) w A1 l1.length l1) (hc1 : l1.length ≤ c1) (h : sum64f a0 l1 = some r) :
    Calls Try.prog 22 #[.int .u64 a0, .slice A1 l1.length c1] w fun e w' => e = .returned (.int .u64 r) ∧ Below w.heap.size w w' := by
  obtain ⟨h1, h2, h3, rfl⟩ := sum64f_some h
  exact Sum64_calls A1 c1 l1 a0 w (reads_of_C hr1) h3 h1 h2
theorem rSum32_p (a0 : Int) (A1 : Option Addr) (c1 : Nat) (l1 : List Int) (r : Int) (w : World) (hr1 : Kd.C (Kd.int .u8) w A1 l1.length l1) (hc1 : l1.length ≤ c1) (h : sum32f a0 l1 = some r) :
    Calls Try.prog 23 #[.int .u32 a0, .slice A1 l1.length c1] w fun e w' => e = .returned (.int .u32 r) ∧ Below w.heap.size w w' := by
  obtain ⟨h1, h2, h3, rfl⟩ := sum32f_some h
  exact rSum32_calls A1 c1 l1 a0 w (reads_of_C hr1) hc1 h3 h1 h2
theorem rSum64_p (a0 : Int) (A1 : Option Addr) (c1 : Nat) (l1 : List Int) (r : Int) (w : World) (hr1 : Kd.C (Kd.int .u8) w A1 l1.length l1) (hc1 : l1.length ≤ c1) (h : sum64f a0 l1 = some r) :
    Calls Try.prog 24 #[.int .u64 a0, .slice A1 l1.length c1] w fun e w' => e = .returned (.int .u64 r) ∧ Below w.heap.size w w' := by
  obtain ⟨h1, h2, h3, rfl⟩ := sum64f_some h
  exact rSum64_calls A1 c1 l1 a0 w (reads_of_C hr1) hc1 h3 h1 h2
end Go.Proofs.Ytnkcbkfccbfjpaa.XxhP
