/- Plain helpers: ranges of literals, the sums' functions at good arguments, strings of bytes. -/
import Derived.Test.YtnkcbkfccbfjpaaZa
import Derived.Lib.Bytes
namespace Go.Proofs.Ytnkcbkfccbfjpaa.XxhP
open Go.RowKit
set_option linter.unusedVariables false
theorem u32_of {a : Int} (h : (Lit.int .u32 a).wf = true) : 0 ≤ a ∧ a < 4294967296 := by
  simp only [Lit.wf, show IntKind.u32.min = 0 from rfl, show IntKind.u32.max = 4294967295 from rfl, Bool.and_eq_true, decide_eq_true_eq] at h
  omega
theorem u64_of {a : Int} (h : (Lit.int .u64 a).wf = true) : 0 ≤ a ∧ a < 18446744073709551616 := by
  simp only [Lit.wf, show IntKind.u64.min = 0 from rfl, show IntKind.u64.max = 18446744073709551615 from rfl, Bool.and_eq_true, decide_eq_true_eq] at h
  omega
theorem u8_of {a : Int} (h : (Lit.int .u8 a).wf = true) : 0 ≤ a ∧ a < 256 := by
  simp only [Lit.wf, show IntKind.u8.min = 0 from rfl, show IntKind.u8.max = 255 from rfl, Bool.and_eq_true, decide_eq_true_eq] at h
  omega
theorem sum32f_eq {s : Int} {l : List Int} (h : 0 ≤ s ∧ s < 4294967296) (hl : l.length ≤ 140737488355327) (hb : bytesB l = true) : sum32f s l = some (X.sum32 s l) := by
  unfold sum32f
  exact if_pos ⟨h, hl, hb⟩
theorem sum64f_eq {s : Int} {l : List Int} (h : 0 ≤ s ∧ s < 18446744073709551616) (hl : l.length ≤ 140737488355327) (hb : bytesB l = true) : sum64f s l = some (X.sum64 s l) := by
  unfold sum64f
  exact if_pos ⟨h, hl, hb⟩
theorem str_app (l : List Int) : (strOfNums (l ++ [1, 2, 3])).toList = (strOfNums l ++ (⟨#[1, 2, 3]⟩ : ByteArray)).toList := by
  congr 1
  simp [strOfNums]
  rfl
end Go.Proofs.Ytnkcbkfccbfjpaa.XxhP
