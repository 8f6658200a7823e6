/- LzWindow: what Encode makes hangs on the last 65535 bytes ahead alone: plain. -/
import Derived.Test.YtnomebkdhjigjaaJw
import Derived.Test.YtnomebkdhjigjaaEh
namespace Go.Proofs.Ytnomebkdhjigjaa.W
open Go.RowKit Go.Proofs.Ytnomebkdhjigjaa.Z Go.Proofs.Ytnomebkdhjigjaa.MLzDecodes Go.Proofs.Ytnomebkdhjigjaa.QLzWindow Go.Proofs.YtnomebkdhjigjaaW.PrintWords
set_option linter.unusedVariables false
set_option linter.unusedSimpArgs false
theorem window_small (l : List Int) (h : l.length ≤ 65535) : window l = l := if_neg (by omega)
theorem encA_window (plain a b : List Int) (h : window a = window b) : encA plain a = encA plain b := by
  unfold encA
  rw [h]
theorem window_last (far l : List Int) (h : 65535 ≤ l.length) : window (far ++ l.drop (l.length - 65535)) = l.drop (l.length - 65535) ∧ window l = l.drop (l.length - 65535) ∧ window (l.drop (l.length - 65535)) = l.drop (l.length - 65535) := by
  have hl : (l.drop (l.length - 65535)).length = 65535 := by rw [List.length_drop]; omega
  refine ⟨?_, ?_, ?_⟩
  · unfold window
    rw [List.length_append, hl]
    split
    · rw [List.drop_append_of_le_length (by omega), List.drop_eq_nil_of_le (by omega), List.nil_append]
    · have : far = [] := List.eq_nil_of_length_eq_zero (by omega)
      rw [this, List.nil_append]
  · unfold window
    split
    · rfl
    · have : l.length - 65535 = 0 := by omega
      rw [this, List.drop_zero]
  · exact window_small _ (by omega)
theorem bytM_endOf {l : List Int} (h : BytM l) : BytM (endOf l) := by
  unfold endOf
  split
  · refine BytM.append (fun x hx => ?_) h
    rw [List.eq_of_mem_replicate hx]
    decide
  · exact h
theorem bytM_wf2 {l : List Int} (h : ∀ x ∈ l, (Lit.int .u8 x).wf = true) : BytM l := fun x hx => by
  have h := h x hx
  simp only [Lit.wf, show IntKind.u8.min = 0 from rfl, show IntKind.u8.max = 255 from rfl, Bool.and_eq_true, decide_eq_true_eq] at h
  omega
theorem bytM_bytesB {l : List Int} (h : BytM l) : bytesB l = true := bytesB_of h.byt
theorem window_f (l0 l9 l2 : List Int) (h0 : l0.length ≤ 1048576) (h9 : l9.length ≤ 1048576) (h2 : l2.length ≤ 1048576) (hb0 : BytM l0) (hb9 : BytM l9) (hb2 : BytM l2) : ∃ k, satchellaw03_LzWindow.f k l0 (endOf l9) l2 = some true := by
  have hge := endOf_ge l9
  have hle := endOf_le l9
  have hbe := bytM_endOf hb9
  generalize endOf l9 = l1 at hge hle hbe ⊢
  have hw := window_last l2 l1 hge
  have hdl : (l1.drop (l1.length - 65535)).length = 65535 := by rw [List.length_drop]; omega
  have hbl : BytM (l1.drop (l1.length - 65535)) := fun x hx => hbe x (List.mem_of_mem_drop hx)
  have hw1 : wrap64 ((l1.length : Int) - 65535) = ((l1.length - 65535 : Nat) : Int) := by rw [IntWalk.wrap64_in _ (by omega)]; omega
  obtain ⟨q, hq⟩ : ∃ q, q = l1.drop (l1.length - 65535) := ⟨_, rfl⟩
  rw [← hq] at hw hdl hbl
  have hER := enc_round l0 q (by omega) hb0 hbl
  have hA1 : encA l0 (l2 ++ q) = encA l0 q := encA_window _ _ _ (hw.1.trans hw.2.2.symm)
  have hA2 : encA l0 l1 = encA l0 q := encA_window _ _ _ (hw.2.1.trans hw.2.2.symm)
  obtain ⟨b, hbb⟩ : ∃ b, b = (encA l0 q).flatMap putP := ⟨_, rfl⟩
  rw [← hbb] at hER
  obtain ⟨-, -, hbn, hd1, hd2, hby, -, -⟩ := hER
  have e1 : lz_Encode.f l0 l1 = some (b, 0) := by
    unfold lz_Encode.f
    rw [if_pos ⟨by omega, by omega, bytM_bytesB hb0, bytM_bytesB hbe⟩, encode, if_neg (by omega), hA2, hbb]
  have e2 : lz_Encode.f l0 (l2 ++ q) = some (b, 0) := by
    unfold lz_Encode.f
    rw [if_pos ⟨by omega, by rw [List.length_append]; omega, bytM_bytesB hb0, bytM_bytesB (hb2.append hbl)⟩, encode, if_neg (by omega), hA1, hbb]
  have hbl2 : b.length ≤ 2097152 := by omega
  have e3 : lz_Decode.f b q (l0.length : Int) = some (l0, (decode b q (l0.length : Int)).2.1, 0) := by
    show decodeF b q (l0.length : Int) = _
    unfold decodeF
    rw [if_pos ⟨by omega, by omega, bytesB_of hby⟩]
    exact congrArg some (Prod.ext hd1 (Prod.ext rfl hd2))
  have s1 : ∀ m, satchellaw03_same.f (b.length + 1 + m) b b = some true := fun m => by
    induction m with
    | zero => exact same_f b (by omega)
    | succ m ih => exact satchellaw03_same.mono _ _ _ _ ih
  have s2 : ∀ m, satchellaw03_same.f (l0.length + 1 + m) l0 l0 = some true := fun m => by
    induction m with
    | zero => exact same_f l0 (by omega)
    | succ m ih => exact satchellaw03_same.mono _ _ _ _ ih
  have hj : satchellaw03_LzWindow.j0 (b.length + l0.length + 2) l0 l1 b false = some true := by
    rw [satchellaw03_LzWindow.j0, if_neg (by decide), Option.bind_some, hw1, if_pos (by omega), if_pos (by omega), Int.toNat_natCast, ← hq, if_pos (by simp only [List.length_nil]; omega), List.nil_append, e3, Option.bind_some]
    dsimp only
    rw [if_pos rfl, show b.length + l0.length + 1 = l0.length + 1 + b.length by omega, s2, Option.bind_some]
  refine ⟨b.length + l0.length + 2, ?_⟩
  unfold satchellaw03_LzWindow.f
  rw [if_neg (by omega), Option.bind_some, if_pos (by simp only [List.length_nil]; omega), Option.bind_some, if_pos (by simp only [List.length_nil]; omega), List.nil_append, List.nil_append, e1, Option.bind_some, Option.bind_some, if_pos (by simp only [List.length_nil]; omega), Option.bind_some, if_pos (by simp only [List.length_nil]; omega), Option.bind_some, hw1, if_pos (by omega), if_pos (by omega), Int.toNat_natCast, ← hq, if_pos (by simp only [List.nil_append]; omega), List.nil_append, List.nil_append, e2, Option.bind_some]
  dsimp only
  rw [if_pos rfl, if_pos rfl]
  by_cases c : (l1.length : Int) = 65535
  · rw [if_pos c, show b.length + l0.length + 2 = b.length + 1 + (l0.length + 1) by omega, s1, Option.bind_some, show b.length + 1 + (l0.length + 1) = b.length + l0.length + 2 by omega]
    exact hj
  · rw [if_neg c]
    exact hj
end Go.Proofs.Ytnomebkdhjigjaa.W
