/- What Encode packs is unpacked: plain facts. -/
import Derived.Test.YtnomebkdhjigjaaAe
import Derived.Test.YtnomebkdhjigjaaRa
namespace Go.Proofs.Ytnomebkdhjigjaa.W
open Go.RowKit Go.Proofs.Ytnomebkdhjigjaa.Z
set_option linter.unusedVariables false
set_option linter.unusedSimpArgs false
theorem enc_round (plain ahead : List Int) (h : plain.length ≤ 4194304) (hb : BytM plain) (hb2 : BytM ahead) :
    parse ((encA plain ahead).flatMap putP) = (encA plain ahead, 0, 0) ∧ endsP (encA plain ahead) = true ∧ ((((encA plain ahead).flatMap putP).length : Int) ≤ (plain.length : Int) + (plain.length : Int) / 255 + 2) ∧
      (decode ((encA plain ahead).flatMap putP) ahead (plain.length : Int)).1 = plain ∧ (decode ((encA plain ahead).flatMap putP) ahead (plain.length : Int)).2.2 = 0 ∧ Byt ((encA plain ahead).flatMap putP) ∧ madeP (encA plain ahead) = true ∧
      ∀ s ∈ encA plain ahead, s.f0.length ≤ 4259839 ∧ 0 ≤ s.f2 ∧ s.f2 ≤ 4259839 := by
  have hwl := (window_len ahead).1
  have hwb : BytM (window ahead) := fun x hx => by
    unfold window at hx
    split at hx
    · exact hb2 x (List.mem_of_mem_drop hx)
    · exact hb2 x hx
  have hal : (window ahead ++ plain).length = (window ahead).length + plain.length := List.length_append
  obtain ⟨f1, f2, f3, f4, f5⟩ := encL_facts (window ahead ++ plain) ((window ahead).length : Int) (plain.length : Int) (by omega) ((window ahead ++ plain).length + 1) (window ahead).length (window ahead).length (Nat.le_refl _) (by omega)
  have f1' : madeP (encA plain ahead) = true := f1
  have f2' : playL ((window ahead).length : Int) (plain.length : Int) (encA plain ahead) ((window ahead ++ plain).take (window ahead).length) = (0, window ahead ++ plain) := f2
  have f3' : (((encA plain ahead).flatMap putP).length : Int) ≤ (((window ahead ++ plain).length : Int) - ((window ahead).length : Int)) + (((window ahead ++ plain).length : Int) - ((window ahead).length : Int)) / 255 + 2 := f3
  have f5' : ∀ s ∈ encA plain ahead, s.f0.length ≤ (window ahead ++ plain).length ∧ 0 ≤ s.f2 ∧ s.f2 ≤ ((window ahead ++ plain).length : Int) ∧ ∀ x ∈ s.f0, x ∈ window ahead ++ plain := f5
  rw [List.take_left] at f2'
  have hpm := parse_make (encA plain ahead) f1'
  have hok : ∀ s ∈ encA plain ahead, OkS s := fun s hs => by
    obtain ⟨i, hi, e⟩ := List.mem_iff_getElem.1 hs
    have := (ok_at f1' i hi).1
    rw [List.getD_eq_getElem?_getD, List.getElem?_eq_getElem hi, Option.getD_some, e] at this
    exact this
  have hbyt : Byt ((encA plain ahead).flatMap putP) := (bytM_flat _ (fun s hs => ⟨hok s hs, fun x hx => (hwb.append hb) x ((f5' s hs).2.2.2 x hx)⟩)).byt
  have hpo := (parse_ok _ hbyt (by rw [hpm])).2.2.2 ahead (plain.length : Int)
  rw [hpm] at hpo
  have hpl : play (encA plain ahead) ahead (plain.length : Int) = (plain, 0) := by
    unfold play
    have hno : ¬ ((plain.length : Int) < 0 ∨ (plain.length : Int) > 4194304 ∨ madeP (encA plain ahead) = false) := by
      rintro (h1 | h1 | h1)
      · omega
      · omega
      · rw [f1'] at h1; cases h1
    rw [if_neg hno, f2']
    rw [if_neg (by simp), List.drop_left]
  rw [hpl] at hpo
  refine ⟨hpm, f4, ?_, hpo.2.symm, hpo.1.symm, hbyt, f1', fun s hs => ?_⟩
  · have : ((window ahead ++ plain).length : Int) - ((window ahead).length : Int) = (plain.length : Int) := by omega
    rw [this] at f3'
    exact f3'
  · have := f5' s hs
    omega
end Go.Proofs.Ytnomebkdhjigjaa.W
