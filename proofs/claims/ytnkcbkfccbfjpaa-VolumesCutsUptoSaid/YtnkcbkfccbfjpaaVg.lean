/- lent, kept, same and full of the volumes' laws (turned from the texts of lz's laws). -/
import Derived.Test.YtnkcbkfccbfjpaaVa
import Derived.Test.YtnkcbkfccbfjpaaVf
import Derived.Test.YtnkcbkfccbfjpaaVs
import Derived.Test.YtnkcbkfccbfjpaaSp
import Derived.Laws.MakeOwn
namespace Go.Proofs.Ytnkcbkfccbfjpaa.XxhW
open Go.RowKit Go.Proofs.YtnkcbkfccbfjpaaW.PrintWords Go.Proofs.YtnkcbkfccbfjpaaW.PrintLast Go.Proofs.YtnkcbkfccbfjpaaW.PrintMore
set_option linter.unusedVariables false
set_option linter.unusedSimpArgs false
/-- The marks behind what is lent. -/
def marks (n : Nat) : List Int := (List.range n).map fun i : Nat => 171 + (i : Int)
theorem marks_succ (n : Nat) : marks (n + 1) = marks n ++ [171 + (n : Int)] := by
  unfold marks
  rw [List.range_succ, List.map_append]
  rfl
theorem own_some {w : World} {B n : Nat} {v : Value} {xs : List Value} (h : w.ownsRow B 5 1 v n xs) (hn : 0 < n) : ∃ g c, v = .slice (some ⟨g, 0, none⟩) n c ∧ B ≤ g ∧ n ≤ c := by
  rcases h.2 with ⟨_, h0⟩ | ⟨g, cap, cur, rfl, h1, _, h2, _⟩
  · omega
  · exact ⟨g, cap, rfl, h1, h2⟩
set_option maxHeartbeats 4000000 in
set_option maxRecDepth 100000 in
theorem lent_calls (A : Option Addr) (c : Nat) (b : List Int) (w : World) (hr : ReadsInt w .u8 A b.length b) (hl : b.length ≤ 140737488351232) :
    Calls Try.prog 14 #[.slice A b.length c] w fun e w' => ∃ g cp, e = .returned (.tuple #[.slice (some ⟨g, 0, none⟩) b.length cp, .slice (some ⟨g, 0, none⟩) (b ++ marks 32).length cp]) ∧ w.heap.size ≤ g ∧ (b ++ marks 32).length ≤ cp ∧
      w'.ownsRow w.heap.size 5 1 (.slice (some ⟨g, 0, none⟩) (b ++ marks 32).length cp) (b ++ marks 32).length (nums .u8 (b ++ marks 32)) ∧ Below w.heap.size w w' := by
  obtain ⟨i0, hi, hz0, hz1, hz2⟩ := info_parts info5
  have hmk : (Instr.makeSlice 22 (.int .i64 0) (.int .i64 ((b.length : Int) + 32))).run Try.prog w = .ok (.slice (some ⟨w.heap.size, 0, none⟩) 0 (b.length + 32)) (w.alloc (.cells (madeCells #[.int .u8 0] (b.length + 32)) 5)) := by
    have h := run_make (P := Try.prog) w 22 5 i0 (.int .u8 0) Try.underlying22 hi hz0 .i64 .i64 0 ((b.length : Int) + 32) (by omega) (by omega) (by rw [hz2]; omega) (by omega)
    have e : ((b.length : Int) + 32).toNat = b.length + 32 := by omega
    rw [e] at h
    simpa [hz1, Value.cells] using h
  have HO := Aside0.mk (show (w.alloc (.cells (madeCells #[.int .u8 0] (b.length + 32)) 5)).ownsRow w.heap.size 5 1 (.slice (some ⟨w.heap.size, 0, none⟩) 0 (b.length + 32)) ([] : List Int).length (nums .u8 []) from
    ⟨by simp [nums], .inr ⟨w.heap.size, b.length + 32, madeCells #[.int .u8 0] (b.length + 32), rfl, Nat.le_refl _, heap_alloc_new w _, by simp, Nat.le_trans (show b.length + 32 ≤ 140737488355328 by omega) (by decide), by simp [madeCells], by simp [nums]⟩⟩)
  have HB := Aside0.mk (below_alloc (Below.refl w.heap.size w) (.cells (madeCells #[.int .u8 0] (b.length + 32)) 5))
  have HR := Aside0.mk (hr.below HB.out)
  clear hr hi hz0 hz1 hz2
  obtain ⟨L32, hL32⟩ : ∃ L, L = b ++ marks 32 := ⟨_, rfl⟩
  rw [← hL32]
  have HL32 := Aside0.mk hL32
  clear hL32
  go_enter Try.func14, Try.ntmps14
  go_wp2_with (first | (at_builtin; refine print_append_row (w0 := w) w.heap.size rfl (.tmp 10) (.tmp 11) 22 5 .u8 1 rfl Try.underlying22 info5 (by decide) _ [] b A b.length c rfl rfl HO.out HR.out HB.out HB.out.size (by simp; omega) ?_; intro v1 w1 hO hB hG hA; have HO1 := Aside0.mk hO; have HB1 := Aside0.mk hB; clear hO hB hG hA))
  have HO2 := Aside0.mk (show w1.ownsRow w.heap.size 5 1 v1 (b ++ marks 0).length (nums .u8 (b ++ marks 0)) by
    have h := HO1.out
    rw [List.nil_append] at h
    rw [show b ++ marks 0 = b from List.append_nil b]
    exact h)
  clear HO1 HO HR HB hmk
  go_loopg [4, 5] 32 (fun kq v4 v5 wc => ∃ (i : Nat), kq + i = 32 ∧ v5 = .int .i64 i ∧ Aside0 (wc.ownsRow w.heap.size 5 1 v4 (b ++ marks i).length (nums .u8 (b ++ marks i))) ∧ Aside0 (Below w.heap.size w wc))
  case atStart => exact ⟨0, by omega, rfl, HO2, HB1⟩
  case round =>
    clear HO2 HB1
    obtain ⟨i, hk, rfl, HO, HB⟩ := hrel
    have hml : (b ++ marks i).length = b.length + i := by simp [marks]
    cases gk with
    | zero =>
      have hi : i = 32 := by omega
      subst hi
      obtain ⟨g, cp, rfl, hg, hcp⟩ := own_some HO.out (by omega)
      have hb1 : (b.length : Int) ≤ (cp : Int) := by omega
      have hb0 : (0 : Int) ≤ (b.length : Int) := by omega
      rw [← HL32.out] at HO hcp ⊢
      clear hml
      go_wp2
      go_ret2
      exact ⟨g, cp, rfl, hg, hcp, HO.out, HB.out⟩
    | succ k1 =>
      obtain ⟨L, hL⟩ : ∃ L, L = b ++ marks i := ⟨_, rfl⟩
      rw [← hL] at HO hml
      have hll : L.length + 1 ≤ 140737488355328 := by omega
      have HX := Aside0.mk (show b ++ marks (i + 1) = L ++ [171 + (i : Int)] by rw [marks_succ, hL, List.append_assoc])
      have hlt : (i : Int) < 32 := by omega
      have hi0 : (0 : Int) ≤ (i : Int) := by omega
      have hmod : (171 + (i : Int)) % 256 = 171 + (i : Int) := by omega
      obtain ⟨A4, c4, rfl⟩ := own_slice HO.out
      clear hml hL
      go_wp2_with (first | (at_builtin; refine print_append_num (w0 := w) w.heap.size rfl (.tmp 17) (.tmp 21) 22 5 .u8 1 rfl Try.underlying22 info5 (by decide) _ L (171 + (i : Int)) rfl rfl HO.out HB.out HB.out.size (by omega) ?_; intro v5 w5 hO hB hG hA; have HO5 := Aside0.mk hO; have HB5 := Aside0.mk hB; clear hO hB hG hA))
      go_roundg k1
      case measure => omega
      case rel => exact ⟨i + 1, by omega, by simp, by rw [HX.out]; exact HO5, HB5⟩
end Go.Proofs.Ytnkcbkfccbfjpaa.XxhW
namespace Go.Proofs.Ytnkcbkfccbfjpaa.XxhW
open Go.RowKit Go.Proofs.Ytnkcbkfccbfjpaa.QVolumesCuts Go.Proofs.YtnkcbkfccbfjpaaW.PrintWords Go.Proofs.YtnkcbkfccbfjpaaW.PrintLast
set_option linter.unusedVariables false
set_option linter.unusedSimpArgs false
theorem rd_nat' (b : List Int) (p : Nat) : rd b (p : Int) = b.getD p 0 := by simp [rd]
theorem marks_at (i : Nat) (hi : i < 32) : (marks 32).getD i 0 = 171 + (i : Int) := by
  unfold marks
  simp [List.getD_eq_getElem?_getD, List.getElem?_map, List.getElem?_range, hi]
theorem marks_len : (marks 32).length = 32 := by simp [marks]
theorem kept_l0 (b : List Int) (hl : b.length ≤ 140737488355327) : ∀ (j k i : Nat), i + j = b.length + 32 → j < k → satchellaw27_kept.l0 k (b ++ marks 32) b (i : Int) = some true := by
  intro j
  induction j with
  | zero =>
    intro k i hi hk
    obtain ⟨k, rfl⟩ : ∃ q, k = q + 1 := ⟨k - 1, by omega⟩
    rw [satchellaw27_kept.l0, if_neg (by rw [List.length_append, marks_len]; omega)]
  | succ j ih =>
    intro k i hi hk
    obtain ⟨k, rfl⟩ : ∃ q, k = q + 1 := ⟨k - 1, by omega⟩
    have w1 : wrap64 ((i : Int) + 1) = ((i + 1 : Nat) : Int) := by rw [IntWalk.wrap64_in _ (by omega)]; omega
    rw [satchellaw27_kept.l0, if_pos (by clear w1; rw [List.length_append, marks_len]; omega), rd_nat', rd_nat', w1]
    clear w1
    by_cases c : i < b.length
    · have e : (b ++ marks 32).getD i 0 = b.getD i 0 := by
        rw [List.getD_eq_getElem?_getD, List.getD_eq_getElem?_getD, List.getElem?_append_left c]
      rw [if_pos (by omega), if_pos (by omega), e, if_pos rfl, if_neg (by omega)]
      exact ih k (i + 1) (by omega) (by omega)
    · have e : (b ++ marks 32).getD i 0 = 171 + ((i - b.length : Nat) : Int) := by
        rw [List.getD_eq_getElem?_getD, List.getElem?_append_right (by omega), ← List.getD_eq_getElem?_getD, marks_at _ (by omega)]
      have w2 : wrap64 (171 + (i : Int)) = 171 + (i : Int) := IntWalk.wrap64_in _ (by omega)
      have w3 : wrap64 (171 + (i : Int) - (b.length : Int)) = 171 + ((i - b.length : Nat) : Int) := by clear w2; rw [IntWalk.wrap64_in _ (by omega)]; omega
      rw [if_neg (by clear w2 w3; omega), if_pos (by clear w2 w3; omega), if_pos (by clear w2 w3; omega), e, w2, w3]
      clear w2 w3
      rw [if_pos (by omega)]
      exact ih k (i + 1) (by omega) (by omega)
theorem kept_f (b : List Int) (hl : b.length ≤ 140737488355327) : satchellaw27_kept.f (b.length + 33) (b ++ marks 32) b = some true := kept_l0 b hl (b.length + 32) _ 0 (by omega) (by omega)
theorem same_l0 (b : List Int) (hl : b.length ≤ 140737488355327) : ∀ (j k i : Nat), i + j = b.length → j < k → satchellaw27_same.l0 k b b (i : Int) = some true := by
  intro j
  induction j with
  | zero =>
    intro k i hi hk
    obtain ⟨k, rfl⟩ : ∃ q, k = q + 1 := ⟨k - 1, by omega⟩
    rw [satchellaw27_same.l0, if_neg (by omega)]
  | succ j ih =>
    intro k i hi hk
    obtain ⟨k, rfl⟩ : ∃ q, k = q + 1 := ⟨k - 1, by omega⟩
    have w1 : wrap64 ((i : Int) + 1) = ((i + 1 : Nat) : Int) := by rw [IntWalk.wrap64_in _ (by omega)]; omega
    rw [satchellaw27_same.l0, w1]
    clear w1
    rw [if_pos (by omega), if_pos (by omega), if_pos (by omega), if_pos rfl]
    exact ih k (i + 1) (by omega) (by omega)
theorem same_f (b : List Int) (hl : b.length ≤ 140737488355327) : satchellaw27_same.f (b.length + 1) b b = some true := by
  unfold satchellaw27_same.f
  rw [if_pos rfl]
  exact same_l0 b hl b.length _ 0 (by omega) (by omega)
theorem full_l1 (x1 : Int) : ∀ (j k i : Nat) (l : List Int), i + j = 90 → j < k → l.length + j ≤ 140737488355327 → satchellaw27_full.l1 k l x1 (i : Int) = some () := by
  intro j
  induction j with
  | zero =>
    intro k i l hi hk hl
    obtain ⟨k, rfl⟩ : ∃ q, k = q + 1 := ⟨k - 1, by omega⟩
    rw [satchellaw27_full.l1, if_neg (by omega)]
  | succ j ih =>
    intro k i l hi hk hl
    obtain ⟨k, rfl⟩ : ∃ q, k = q + 1 := ⟨k - 1, by omega⟩
    have w1 : wrap64 ((i : Int) + 1) = ((i + 1 : Nat) : Int) := by rw [IntWalk.wrap64_in _ (by omega)]; omega
    rw [satchellaw27_full.l1, w1]
    clear w1
    rw [if_pos (by omega), if_pos (by omega)]
    exact ih k (i + 1) _ (by omega) (by omega) (by rw [List.length_append]; simp; omega)
theorem full_l0 (x1 : Int) : ∀ (j k i : Nat) (l : List Int), i + j = l.length → j + 91 < k → l.length + 90 ≤ 140737488355327 → satchellaw27_full.l0 k l x1 (i : Int) = some () := by
  intro j
  induction j with
  | zero =>
    intro k i l hi hk hl
    obtain ⟨k, rfl⟩ : ∃ q, k = q + 1 := ⟨k - 1, by omega⟩
    rw [satchellaw27_full.l0, if_neg (by omega)]
    exact full_l1 x1 90 k 0 l (by omega) (by omega) hl
  | succ j ih =>
    intro k i l hi hk hl
    obtain ⟨k, rfl⟩ : ∃ q, k = q + 1 := ⟨k - 1, by omega⟩
    have w1 : wrap64 ((i : Int) + 1) = ((i + 1 : Nat) : Int) := by rw [IntWalk.wrap64_in _ (by omega)]; omega
    rw [satchellaw27_full.l0, w1]
    clear w1
    rw [if_pos (by omega), if_pos (by omega)]
    exact ih k (i + 1) _ (by rw [List.length_set]; omega) (by omega) (by rw [List.length_set]; exact hl)
theorem full_f (l : List Int) (x1 : Int) (hl : l.length + 90 ≤ 140737488355327) : satchellaw27_full.f (l.length + 92) l x1 = some () := full_l0 x1 l.length _ 0 l (by omega) (by omega) hl
end Go.Proofs.Ytnkcbkfccbfjpaa.XxhW
