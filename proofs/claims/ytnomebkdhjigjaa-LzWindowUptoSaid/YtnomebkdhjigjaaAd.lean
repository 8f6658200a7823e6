/- Texts of mine made one: Lh, Li, Lt, Lr, Za, Zs, Zb. -/
import Derived.Test.YtnomebkdhjigjaaAb
import Derived.Laws.MakeOwn
import Derived.Test.YtnomebkdhjigjaaAa
/- Contract of lent (lz's laws): a copy with marked room behind it, and all of that. Condition: fewer than 2^47 - 4096 bytes. -/
namespace Go.Proofs.Ytnomebkdhjigjaa.W
open Go.RowKit Go.Proofs.YtnomebkdhjigjaaW.PrintWords Go.Proofs.YtnomebkdhjigjaaW.PrintLast Go.Proofs.YtnomebkdhjigjaaW.PrintMore
set_option linter.unusedVariables false
set_option linter.unusedSimpArgs false
/-- The marks behind what is lent. -/
def marks (n : Nat) : List Int := (List.range n).map fun i : Nat => 171 + (i : Int)
theorem marks_succ (n : Nat) : marks (n + 1) = marks n ++ [171 + (n : Int)] := by
  unfold marks
  rw [List.range_succ, List.map_append]
  rfl
theorem own_some {w : World} {B n : Nat} {v : Value} {xs : List Value} (h : w.ownsRow B 5 1 v n xs) (hn : 0 < n) : ∃ g c, v = .slice (some ⟨g, 0, none⟩) n c ∧ B ≤ g ∧ n ≤ c := by
  rcases h.2 with ⟨_, h0⟩ | ⟨g, cap, cur, rfl, h1, _, h2, _⟩
  · omega
  · exact ⟨g, cap, rfl, h1, h2⟩
set_option maxHeartbeats 4000000 in
set_option maxRecDepth 100000 in
theorem lent_calls (A : Option Addr) (c : Nat) (b : List Int) (w : World) (hr : ReadsInt w .u8 A b.length b) (hl : b.length ≤ 140737488351232) :
    Calls Try.prog 20 #[.slice A b.length c] w fun e w' => ∃ g cp, e = .returned (.tuple #[.slice (some ⟨g, 0, none⟩) b.length cp, .slice (some ⟨g, 0, none⟩) (b ++ marks 32).length cp]) ∧ w.heap.size ≤ g ∧ (b ++ marks 32).length ≤ cp ∧
      w'.ownsRow w.heap.size 5 1 (.slice (some ⟨g, 0, none⟩) (b ++ marks 32).length cp) (b ++ marks 32).length (nums .u8 (b ++ marks 32)) ∧ Below w.heap.size w w' := by
  obtain ⟨i0, hi, hz0, hz1, hz2⟩ := info_parts info5
  have hmk : (Instr.makeSlice 22 (.int .i64 0) (.int .i64 ((b.length : Int) + 32))).run Try.prog w = .ok (.slice (some ⟨w.heap.size, 0, none⟩) 0 (b.length + 32)) (w.alloc (.cells (madeCells #[.int .u8 0] (b.length + 32)) 5)) := by
    have h := run_make (P := Try.prog) w 22 5 i0 (.int .u8 0) Try.underlying22 hi hz0 .i64 .i64 0 ((b.length : Int) + 32) (by omega) (by omega) (by rw [hz2]; omega) (by omega)
    have e : ((b.length : Int) + 32).toNat = b.length + 32 := by omega
    rw [e] at h
    simpa [hz1, Value.cells] using h
  have HO := Aside0.mk (show (w.alloc (.cells (madeCells #[.int .u8 0] (b.length + 32)) 5)).ownsRow w.heap.size 5 1 (.slice (some ⟨w.heap.size, 0, none⟩) 0 (b.length + 32)) ([] : List Int).length (nums .u8 []) from
    ⟨by simp [nums], .inr ⟨w.heap.size, b.length + 32, madeCells #[.int .u8 0] (b.length + 32), rfl, Nat.le_refl _, heap_alloc_new w _, by simp, Nat.le_trans (show b.length + 32 ≤ 140737488355328 by omega) (by decide), by simp [madeCells], by simp [nums]⟩⟩)
  have HB := Aside0.mk (below_alloc (Below.refl w.heap.size w) (.cells (madeCells #[.int .u8 0] (b.length + 32)) 5))
  have HR := Aside0.mk (hr.below HB.out)
  clear hr hi hz0 hz1 hz2
  obtain ⟨L32, hL32⟩ : ∃ L, L = b ++ marks 32 := ⟨_, rfl⟩
  rw [← hL32]
  have HL32 := Aside0.mk hL32
  clear hL32
  go_enter Try.func20, Try.ntmps20
  go_wp2_with (first | (at_builtin; refine print_append_row (w0 := w) w.heap.size rfl (.tmp 10) (.tmp 11) 22 5 .u8 1 rfl Try.underlying22 info5 (by decide) _ [] b A b.length c rfl rfl HO.out HR.out HB.out HB.out.size (by simp; omega) ?_; intro v1 w1 hO hB hG hA; have HO1 := Aside0.mk hO; have HB1 := Aside0.mk hB; clear hO hB hG hA))
  have HO2 := Aside0.mk (show w1.ownsRow w.heap.size 5 1 v1 (b ++ marks 0).length (nums .u8 (b ++ marks 0)) by
    have h := HO1.out
    rw [List.nil_append] at h
    rw [show b ++ marks 0 = b from List.append_nil b]
    exact h)
  clear HO1 HO HR HB hmk
  go_loopg [4, 5] 32 (fun kq v4 v5 wc => ∃ (i : Nat), kq + i = 32 ∧ v5 = .int .i64 i ∧ Aside0 (wc.ownsRow w.heap.size 5 1 v4 (b ++ marks i).length (nums .u8 (b ++ marks i))) ∧ Aside0 (Below w.heap.size w wc))
  case atStart => exact ⟨0, by omega, rfl, HO2, HB1⟩
  case round =>
    clear HO2 HB1
    obtain ⟨i, hk, rfl, HO, HB⟩ := hrel
    have hml : (b ++ marks i).length = b.length + i := by simp [marks]
    cases gk with
    | zero =>
      have hi : i = 32 := by omega
      subst hi
      obtain ⟨g, cp, rfl, hg, hcp⟩ := own_some HO.out (by omega)
      have hb1 : (b.length : Int) ≤ (cp : Int) := by omega
      have hb0 : (0 : Int) ≤ (b.length : Int) := by omega
      rw [← HL32.out] at HO hcp ⊢
      clear hml
      go_wp2
      go_ret2
      exact ⟨g, cp, rfl, hg, hcp, HO.out, HB.out⟩
    | succ k1 =>
      obtain ⟨L, hL⟩ : ∃ L, L = b ++ marks i := ⟨_, rfl⟩
      rw [← hL] at HO hml
      have hll : L.length + 1 ≤ 140737488355328 := by omega
      have HX := Aside0.mk (show b ++ marks (i + 1) = L ++ [171 + (i : Int)] by rw [marks_succ, hL, List.append_assoc])
      have hlt : (i : Int) < 32 := by omega
      have hi0 : (0 : Int) ≤ (i : Int) := by omega
      have hmod : (171 + (i : Int)) % 256 = 171 + (i : Int) := by omega
      obtain ⟨A4, c4, rfl⟩ := own_slice HO.out
      clear hml hL
      go_wp2_with (first | (at_builtin; refine print_append_num (w0 := w) w.heap.size rfl (.tmp 17) (.tmp 21) 22 5 .u8 1 rfl Try.underlying22 info5 (by decide) _ L (171 + (i : Int)) rfl rfl HO.out HB.out HB.out.size (by omega) ?_; intro v5 w5 hO hB hG hA; have HO5 := Aside0.mk hO; have HB5 := Aside0.mk hB; clear hO hB hG hA))
      go_roundg k1
      case measure => omega
      case rel => exact ⟨i + 1, by omega, by simp, by rw [HX.out]; exact HO5, HB5⟩
end Go.Proofs.Ytnomebkdhjigjaa.W
/- kept, same and full of lz's laws (as printed): what they answer at good arguments: plain facts. -/
namespace Go.Proofs.Ytnomebkdhjigjaa.W
open Go.RowKit Go.Proofs.Ytnomebkdhjigjaa.MLzDecodes Go.Proofs.YtnomebkdhjigjaaW.PrintWords Go.Proofs.YtnomebkdhjigjaaW.PrintLast
set_option linter.unusedVariables false
set_option linter.unusedSimpArgs false
theorem rd_nat' (b : List Int) (p : Nat) : rd b (p : Int) = b.getD p 0 := by simp [rd]
theorem marks_at (i : Nat) (hi : i < 32) : (marks 32).getD i 0 = 171 + (i : Int) := by
  unfold marks
  simp [List.getD_eq_getElem?_getD, List.getElem?_map, List.getElem?_range, hi]
theorem marks_len : (marks 32).length = 32 := by simp [marks]
theorem kept_l0 (b : List Int) (hl : b.length ≤ 140737488355327) : ∀ (j k i : Nat), i + j = b.length + 32 → j < k → satchellaw03_kept.l0 k (b ++ marks 32) b (i : Int) = some true := by
  intro j
  induction j with
  | zero =>
    intro k i hi hk
    obtain ⟨k, rfl⟩ : ∃ q, k = q + 1 := ⟨k - 1, by omega⟩
    rw [satchellaw03_kept.l0, if_neg (by rw [List.length_append, marks_len]; omega)]
  | succ j ih =>
    intro k i hi hk
    obtain ⟨k, rfl⟩ : ∃ q, k = q + 1 := ⟨k - 1, by omega⟩
    have w1 : wrap64 ((i : Int) + 1) = ((i + 1 : Nat) : Int) := by rw [IntWalk.wrap64_in _ (by omega)]; omega
    rw [satchellaw03_kept.l0, if_pos (by clear w1; rw [List.length_append, marks_len]; omega), rd_nat', rd_nat', w1]
    clear w1
    by_cases c : i < b.length
    · have e : (b ++ marks 32).getD i 0 = b.getD i 0 := by
        rw [List.getD_eq_getElem?_getD, List.getD_eq_getElem?_getD, List.getElem?_append_left c]
      rw [if_pos (by omega), if_pos (by omega), e, if_pos rfl, if_neg (by omega)]
      exact ih k (i + 1) (by omega) (by omega)
    · have e : (b ++ marks 32).getD i 0 = 171 + ((i - b.length : Nat) : Int) := by
        rw [List.getD_eq_getElem?_getD, List.getElem?_append_right (by omega), ← List.getD_eq_getElem?_getD, marks_at _ (by omega)]
      have w2 : wrap64 (171 + (i : Int)) = 171 + (i : Int) := IntWalk.wrap64_in _ (by omega)
      have w3 : wrap64 (171 + (i : Int) - (b.length : Int)) = 171 + ((i - b.length : Nat) : Int) := by clear w2; rw [IntWalk.wrap64_in _ (by omega)]; omega
      rw [if_neg (by clear w2 w3; omega), if_pos (by clear w2 w3; omega), if_pos (by clear w2 w3; omega), e, w2, w3]
      clear w2 w3
      rw [if_pos (by omega)]
      exact ih k (i + 1) (by omega) (by omega)
theorem kept_f (b : List Int) (hl : b.length ≤ 140737488355327) : satchellaw03_kept.f (b.length + 33) (b ++ marks 32) b = some true := kept_l0 b hl (b.length + 32) _ 0 (by omega) (by omega)
theorem same_l0 (b : List Int) (hl : b.length ≤ 140737488355327) : ∀ (j k i : Nat), i + j = b.length → j < k → satchellaw03_same.l0 k b b (i : Int) = some true := by
  intro j
  induction j with
  | zero =>
    intro k i hi hk
    obtain ⟨k, rfl⟩ : ∃ q, k = q + 1 := ⟨k - 1, by omega⟩
    rw [satchellaw03_same.l0, if_neg (by omega)]
  | succ j ih =>
    intro k i hi hk
    obtain ⟨k, rfl⟩ : ∃ q, k = q + 1 := ⟨k - 1, by omega⟩
    have w1 : wrap64 ((i : Int) + 1) = ((i + 1 : Nat) : Int) := by rw [IntWalk.wrap64_in _ (by omega)]; omega
    rw [satchellaw03_same.l0, w1]
    clear w1
    rw [if_pos (by omega), if_pos (by omega), if_pos (by omega), if_pos rfl]
    exact ih k (i + 1) (by omega) (by omega)
theorem same_f (b : List Int) (hl : b.length ≤ 140737488355327) : satchellaw03_same.f (b.length + 1) b b = some true := by
  unfold satchellaw03_same.f
  rw [if_pos rfl]
  exact same_l0 b hl b.length _ 0 (by omega) (by omega)
theorem full_l1 (x1 : Int) : ∀ (j k i : Nat) (l : List Int), i + j = 90 → j < k → l.length + j ≤ 140737488355327 → satchellaw03_full.l1 k l x1 (i : Int) = some () := by
  intro j
  induction j with
  | zero =>
    intro k i l hi hk hl
    obtain ⟨k, rfl⟩ : ∃ q, k = q + 1 := ⟨k - 1, by omega⟩
    rw [satchellaw03_full.l1, if_neg (by omega)]
  | succ j ih =>
    intro k i l hi hk hl
    obtain ⟨k, rfl⟩ : ∃ q, k = q + 1 := ⟨k - 1, by omega⟩
    have w1 : wrap64 ((i : Int) + 1) = ((i + 1 : Nat) : Int) := by rw [IntWalk.wrap64_in _ (by omega)]; omega
    rw [satchellaw03_full.l1, w1]
    clear w1
    rw [if_pos (by omega), if_pos (by omega)]
    exact ih k (i + 1) _ (by omega) (by omega) (by rw [List.length_append]; simp; omega)
theorem full_l0 (x1 : Int) : ∀ (j k i : Nat) (l : List Int), i + j = l.length → j + 91 < k → l.length + 90 ≤ 140737488355327 → satchellaw03_full.l0 k l x1 (i : Int) = some () := by
  intro j
  induction j with
  | zero =>
    intro k i l hi hk hl
    obtain ⟨k, rfl⟩ : ∃ q, k = q + 1 := ⟨k - 1, by omega⟩
    rw [satchellaw03_full.l0, if_neg (by omega)]
    exact full_l1 x1 90 k 0 l (by omega) (by omega) hl
  | succ j ih =>
    intro k i l hi hk hl
    obtain ⟨k, rfl⟩ : ∃ q, k = q + 1 := ⟨k - 1, by omega⟩
    have w1 : wrap64 ((i : Int) + 1) = ((i + 1 : Nat) : Int) := by rw [IntWalk.wrap64_in _ (by omega)]; omega
    rw [satchellaw03_full.l0, w1]
    clear w1
    rw [if_pos (by omega), if_pos (by omega)]
    exact ih k (i + 1) _ (by rw [List.length_set]; omega) (by omega) (by rw [List.length_set]; exact hl)
theorem full_f (l : List Int) (x1 : Int) (hl : l.length + 90 ≤ 140737488355327) : satchellaw03_full.f (l.length + 92) l x1 = some () := full_l0 x1 l.length _ 0 l (by omega) (by omega) hl
end Go.Proofs.Ytnomebkdhjigjaa.W
/- lent of lz's laws as the print says it: two lists of new memory, read alone. -/
namespace Go.Proofs.Ytnomebkdhjigjaa.MLzDecodes
open Go.RowKit Go.Proofs.YtnomebkdhjigjaaW.PrintWords Go.Proofs.YtnomebkdhjigjaaW.PrintLast Go.Proofs.YtnomebkdhjigjaaW.PrintMore
set_option linter.unusedVariables false
set_option linter.unusedSimpArgs false
def satchellaw03_lent.f (l0 : List Int) : Option (List Int × List Int) := if l0.length ≤ 140737488351232 then some (l0, l0 ++ W.marks 32) else none
theorem satchellaw03_lent.calls (A0 : Option Addr) (c0 : Nat) (l0 : List Int) (r1 : List Int) (r2 : List Int) (w : World) (hr0 : Kd.C (Kd.int .u8) w A0 l0.length l0) (hc0 : l0.length ≤ c0) (h : satchellaw03_lent.f l0 = some (r1, r2)) :
    Calls Try.prog 20 #[.slice A0 l0.length c0] w fun e w' => ∃ v0_ v1_ : Value, e = .returned (.tuple #[v0_, v1_]) ∧ Kd.R (Kd.int .u8) 5 w' w.heap.size (fun k_ => k_ = k_) v0_ r1 ∧ Kd.R (Kd.int .u8) 5 w' w.heap.size (fun k_ => k_ = k_) v1_ r2 ∧ Below w.heap.size w w' := by
  unfold satchellaw03_lent.f at h
  by_cases c : l0.length ≤ 140737488351232
  · rw [if_pos c] at h
    obtain ⟨rfl, rfl⟩ := Option.some.inj h
    refine (W.lent_calls A0 c0 l0 w (W.reads_of_C hr0) c).mono ?_
    rintro e w' ⟨g, cp, he, hg, hcp, ho, hb⟩
    refine ⟨_, _, he, Kd.R_of_own ?_ (fun _ _ => rfl), Kd.R_of_own ho (fun _ _ => rfl), hb⟩
    obtain ⟨h1, h2⟩ := ho
    rcases h2 with ⟨h3, _⟩ | ⟨g', cap, cur, e1, h3, h4, h5, h6, h7, h8⟩
    · cases h3
    · cases e1
      have hn : ∀ q : List Int, (nums .u8 q).length = q.length := fun q => by unfold nums; exact List.length_map ..
      refine ⟨(hn l0).trans (Nat.mul_one _).symm, .inr ⟨g, cp, cur, rfl, h3, h4, Nat.le_trans (by rw [List.length_append]; omega) h5, h6, h7, ?_⟩⟩
      have h9 : (cur.toList.take ((l0 ++ W.marks 32).length * 1)).take (l0.length * 1) = cur.toList.take (l0.length * 1) := by
        rw [List.take_take, Nat.min_eq_left (by rw [List.length_append]; omega)]
      show _ = nums .u8 l0
      rw [← h9, h8, nums_append, List.take_append_of_le_length (by rw [hn]; omega), List.take_of_length_le (by rw [hn]; omega)]
  · rw [if_neg c] at h
    cases h
end Go.Proofs.Ytnomebkdhjigjaa.MLzDecodes
/- The document's window and copied (as printed): plain facts. -/
namespace Go.Proofs.Ytnomebkdhjigjaa.W
open Go.RowKit Go.Proofs.Ytnomebkdhjigjaa.MLzDecodes Go.Proofs.YtnomebkdhjigjaaW.PrintWords Go.Proofs.YtnomebkdhjigjaaW.PrintLast
set_option linter.unusedVariables false
theorem ref_copied (back : Nat) (h1 : 1 ≤ back) (n : Nat) (hn : n ≤ 1099511627776) : ∀ (j k i : Nat) (l : List Int), i + j = n → j < k → back ≤ l.length → l.length + j ≤ 1099511627776 → satchelref03_copied.l0 k l (back : Int) (n : Int) (i : Int) = some (copied back j l) := by
  intro j
  induction j with
  | zero =>
    intro k i l hi hk hb hl
    obtain ⟨k, rfl⟩ : ∃ q, k = q + 1 := ⟨k - 1, by omega⟩
    rw [satchelref03_copied.l0, if_neg (by omega)]
    rfl
  | succ j ih =>
    intro k i l hi hk hb hl
    obtain ⟨k, rfl⟩ : ∃ q, k = q + 1 := ⟨k - 1, by omega⟩
    have w1 : wrap64 ((l.length : Int) - (back : Int)) = ((l.length - back : Nat) : Int) := by rw [IntWalk.wrap64_in _ (by omega)]; omega
    have w2 : wrap64 ((i : Int) + 1) = ((i + 1 : Nat) : Int) := by clear w1; rw [IntWalk.wrap64_in _ (by omega)]; omega
    rw [satchelref03_copied.l0, if_pos (by clear w1 w2; omega), w1, w2]
    clear w1 w2
    rw [if_pos (by omega), if_pos (by omega), if_pos (by omega), rd_nat, ih k (i + 1) _ (by omega) (by omega) (by simp; omega) (by simp; omega)]
    rfl
theorem ref_window (l : List Int) (hl : l.length ≤ 140737488355327) : satchelref03_window.f l = some (window l) := by
  unfold satchelref03_window.f window
  by_cases c : 65536 ≤ l.length
  · have w1 : wrap64 ((l.length : Int) - 65535) = ((l.length - 65535 : Nat) : Int) := by rw [IntWalk.wrap64_in _ (by omega)]; omega
    rw [if_pos (by omega), if_pos c, w1]
    clear w1
    rw [if_pos (by omega), if_pos (by omega), Option.bind_some, Int.toNat_natCast, List.nil_append, List.length_nil, if_pos (by rw [List.length_drop]; omega)]
  · rw [if_neg (by omega), if_neg c, Option.bind_some, List.nil_append, List.length_nil, if_pos (by omega)]
end Go.Proofs.Ytnomebkdhjigjaa.W
/- Contracts of functions (most of it printed by a program of the kit's): struct types. -/
namespace Go.Proofs.Ytnomebkdhjigjaa.Z
open Go.RowKit Go.Proofs.YtnomebkdhjigjaaW.PrintWords Go.Proofs.YtnomebkdhjigjaaW.PrintLast Go.Proofs.YtnomebkdhjigjaaW.PrintMore
open Go.Proofs.Ytnomebkdhjigjaa.MLzDecodes
attribute [local go_sem] max2_int min2_int max_two min_two max_three min_three max_four min_four   -- for this text's walks alone
set_option linter.unusedVariables false
set_option linter.unusedSimpArgs false
theorem info44 : (Try.prog.info? 44).map (fun i => (i.zero, i.size, i.bytes)) = some (some (.agg #[(.slice none 0 0), (.int .i64 0), (.int .i64 0)]), 3, 40) := by kernel_rfl
-- the values' own types
def rd_L1 (xs : List (List Int)) (i : Int) : (List Int) := xs.getD i.toNat ([] : List Int)
theorem at_L1 {w : World} {A : Option Addr} {n : Nat} {xs : List (List Int)} (h : Kd.C (Kd.slice 5 (Kd.int .u8)) w A n xs) (i : Int) (h0 : 0 ≤ i) (h1 : i < n) : ∃ ad A0 c0, A = some ad ∧ w.cell? (ad.add i.toNat) = some (.slice A0 (rd_L1 xs i).length c0) ∧ (rd_L1 xs i).length ≤ c0 ∧ (Kd.int .u8).C w A0 (rd_L1 xs i).length (rd_L1 xs i) := by
  obtain ⟨ad, c, e, _, hK, hc0⟩ := Kd.C_get h ([] : List Int) i h0 h1
  have hc : ∀ j u, c[j]? = some u → w.cell? (ad.add (i.toNat * 1 + j)) = some u := hc0
  obtain ⟨A0, c0, rfl, l0, g0⟩ := hK
  exact ⟨ad, A0, c0, e, by have hq := hc 0 _ rfl; rwa [Nat.mul_one, Nat.add_zero] at hq, l0, g0⟩

/-! #### struct type 44 -/
structure S44 where
  f0 : (List Int)
  f1 : Int
  f2 : Int
def z44 : S44 := ⟨([] : List Int), (0 : Int), (0 : Int)⟩
def k44 : Kd S44 := Kd.iso (Kd.pair (Kd.slice 5 (Kd.int .u8)) (Kd.pair (Kd.int .i64) (Kd.int .i64))) (fun x : S44 => (x.f0, x.f1, x.f2))
theorem k44_heap : Kd.Heap k44 := Kd.heap_iso _ (Kd.heap_pair (Kd.heap_slice 5 (Kd.heap_int .u8)) (Kd.heap_pair (Kd.heap_int .i64) (Kd.heap_int .i64)))
theorem k44_open {w : World} {x : S44} {cs : List Value} (h : k44.K w x cs) : ∃ A0 c0, cs = [.slice A0 x.f0.length c0, .int .i64 x.f1, .int .i64 x.f2] ∧ x.f0.length ≤ c0 ∧ (Kd.int .u8).C w A0 x.f0.length x.f0 := by
  obtain ⟨_, _, rfl, ⟨A0, c0, rfl, l0, g0⟩, ⟨_, _, rfl, rfl, rfl⟩⟩ := h
  exact ⟨A0, c0, rfl, l0, g0⟩
theorem k44_openM {w : World} {base : Nat} {ok : Nat → Prop} {x : S44} {cs : List Value} (h : k44.M w base ok x cs) : ∃ v0, cs = [v0, .int .i64 x.f1, .int .i64 x.f2] ∧ (Kd.int .u8).R 5 w base ok v0 x.f0 := by
  obtain ⟨_, _, rfl, ⟨v0, rfl, g0⟩, ⟨_, _, rfl, rfl, rfl⟩⟩ := h
  exact ⟨v0, rfl, g0⟩
theorem k44_mk (w : World) (x : S44) {A0 : Option Addr} {c0 : Nat} (l0 : x.f0.length ≤ c0) (g0 : (Kd.int .u8).C w A0 x.f0.length x.f0) : k44.K w x [.slice A0 x.f0.length c0, .int .i64 x.f1, .int .i64 x.f2] := ⟨[.slice A0 x.f0.length c0], [.int .i64 x.f1, .int .i64 x.f2], rfl, ⟨A0, c0, rfl, l0, g0⟩, ⟨[.int .i64 x.f1], [.int .i64 x.f2], rfl, rfl, rfl⟩⟩
theorem k44_mkM (w : World) (base : Nat) (ok : Nat → Prop) (x : S44) {v0 : Value} (g0 : (Kd.int .u8).R 5 w base ok v0 x.f0) : k44.M w base ok x [v0, .int .i64 x.f1, .int .i64 x.f2] := ⟨[v0], [.int .i64 x.f1, .int .i64 x.f2], rfl, ⟨v0, rfl, g0⟩, ⟨[.int .i64 x.f1], [.int .i64 x.f2], rfl, rfl, rfl⟩⟩
def rd_T44 (xs : List S44) (i : Int) : S44 := xs.getD i.toNat z44
theorem at_T44 {w : World} {A : Option Addr} {n : Nat} {xs : List S44} (h : Kd.C k44 w A n xs) (i : Int) (h0 : 0 ≤ i) (h1 : i < n) : ∃ ad A0 c0, A = some ad ∧ w.cell? (ad.add (i.toNat * 3)) = some (.slice A0 (rd_T44 xs i).f0.length c0) ∧ w.cell? ⟨(ad.add (i.toNat * 3)).block, (ad.add (i.toNat * 3)).off + 1, none⟩ = some (.int .i64 (rd_T44 xs i).f1) ∧ w.cell? ⟨(ad.add (i.toNat * 3)).block, (ad.add (i.toNat * 3)).off + 2, none⟩ = some (.int .i64 (rd_T44 xs i).f2) ∧ (rd_T44 xs i).f0.length ≤ c0 ∧ (Kd.int .u8).C w A0 (rd_T44 xs i).f0.length (rd_T44 xs i).f0 := by
  obtain ⟨ad, c, e, _, hK, hc0⟩ := Kd.C_get h z44 i h0 h1
  have hc : ∀ j u, c[j]? = some u → w.cell? (ad.add (i.toNat * 3 + j)) = some u := hc0
  obtain ⟨A0, c0, rfl, l0, g0⟩ := k44_open hK
  exact ⟨ad, A0, c0, e, hc 0 _ rfl, by rw [← add_field _ _ 1 (by omega)]; exact hc 1 _ rfl, by rw [← add_field _ _ 2 (by omega)]; exact hc 2 _ rfl, l0, g0⟩


end Go.Proofs.Ytnomebkdhjigjaa.Z
/- seqs of lz's laws at one and the same list, walked by hand: it answers yes. -/
namespace Go.Proofs.Ytnomebkdhjigjaa.Z
open Go.RowKit Go.Proofs.Ytnomebkdhjigjaa.MLzDecodes Go.Proofs.YtnomebkdhjigjaaW.PrintWords Go.Proofs.YtnomebkdhjigjaaW.PrintLast Go.Proofs.YtnomebkdhjigjaaW.PrintMore
set_option linter.unusedVariables false
set_option linter.unusedSimpArgs false
def shortS (l : List S44) : Bool := l.all fun s => decide (s.f0.length ≤ 140737488355327)
theorem shortS_at {l : List S44} (h : shortS l = true) (i : Nat) (hi : i < l.length) : ((l.getD i z44).f0.length : Int) ≤ 140737488355327 := by
  unfold shortS at h
  rw [List.all_eq_true] at h
  have := h _ (List.getElem_mem hi)
  rw [List.getD_eq_getElem?_getD, List.getElem?_eq_getElem hi]
  have := of_decide_eq_true this
  simp only [Option.getD_some]
  omega
theorem rd_at' (l : List S44) (i : Nat) : rd_T44 l (i : Int) = l.getD i z44 := by simp [rd_T44]
set_option maxHeartbeats 8000000 in
set_option maxRecDepth 100000 in
theorem seqs_yes (A0 : Option Addr) (c0 : Nat) (l : List S44) (A1 : Option Addr) (c1 : Nat) (w : World) (hr0 : Kd.C k44 w A0 l.length l) (hc0 : l.length ≤ c0) (hr1 : Kd.C k44 w A1 l.length l) (hc1 : l.length ≤ c1) (hl : l.length ≤ 140737488355327) (hs : shortS l = true) :
    Calls Try.prog 23 #[.slice A0 l.length c0, .slice A1 l.length c1] w fun e w' => e = .returned (.bool true) ∧ ∃ m, w' = w.drewN m := by
  have H0 := Aside0.mk hr0
  have H1 := Aside0.mk hr1
  have HS := Aside0.mk hs
  clear hr0 hr1 hs
  go_enter Try.func23, Try.ntmps23
  go_wp2
  go_loopg [5] l.length (fun kq v5 wc => ∃ (i : Nat), kq + i = l.length ∧ v5 = .int .i64 i ∧ Aside0 (∃ m, wc = w.drewN m))
  case atStart => exact ⟨0, by omega, rfl, ⟨0, rfl⟩⟩
  case round =>
    obtain ⟨i, hk, rfl, HW⟩ := hrel
    cases gk with
    | zero =>
      have hge : ¬ ((i : Int) < (l.length : Int)) := by omega
      go_wp2
      go_ret
      exact ⟨rfl, HW.out⟩
    | succ k1 =>
      have hi0 : (0 : Int) ≤ (i : Int) := by omega
      have hilt : (i : Int) < (l.length : Int) := by omega
      obtain ⟨ad, As, cs, rfl, xs0, xs1, xs2, hcs, hrs⟩ := at_T44 H0.out (i : Int) hi0 hilt
      obtain ⟨bd, Bs, ds, rfl, ys0, ys1, ys2, hds, hts⟩ := at_T44 H1.out (i : Int) hi0 hilt
      have hsl := shortS_at HS.out i (by omega)
      rw [rd_at'] at xs0 xs1 xs2 hcs hrs ys0 ys1 ys2 hds hts
      generalize l.getD i z44 = s at xs0 xs1 xs2 hcs hrs ys0 ys1 ys2 hds hts hsl
      obtain ⟨f0, f1, f2⟩ := s
      simp only at xs0 xs1 xs2 hcs hrs ys0 ys1 ys2 hds hts hsl
      rw [Int.toNat_natCast] at xs0 xs1 xs2 ys0 ys1 ys2
      obtain ⟨m0, hm0⟩ := HW.out
      have HM := Aside0.mk hm0
      have HC := Aside0.mk (fun m : Nat => satchellaw03_same.calls (f0.length + 1) As cs f0 Bs ds f0 true (wr.drewN m) (by rw [hm0]; exact hrs) hcs (by rw [hm0]; exact hts) hds (W.same_f f0 (by omega)))
      replace xs0 := (show wr.cell? _ = w.cell? _ by rw [hm0]; rfl).trans xs0
      replace xs1 := (show wr.cell? _ = w.cell? _ by rw [hm0]; rfl).trans xs1
      replace xs2 := (show wr.cell? _ = w.cell? _ by rw [hm0]; rfl).trans xs2
      replace ys0 := (show wr.cell? _ = w.cell? _ by rw [hm0]; rfl).trans ys0
      replace ys1 := (show wr.cell? _ = w.cell? _ by rw [hm0]; rfl).trans ys1
      replace ys2 := (show wr.cell? _ = w.cell? _ by rw [hm0]; rfl).trans ys2
      clear hrs hts hm0 HW
      go_upto_region 6 with fail
      go_quiet ((go_at_call 37; refine (HC.out _).mono ?_; rintro e w' ⟨rfl, ⟨nd, rfl⟩⟩; first | exact ⟨rfl, _, World.drewN_drewN _ _ _⟩ | exact ⟨rfl, _, rfl⟩))
      go_wp2
      go_roundg k1
      case measure => omega
      case rel => exact ⟨i + 1, by omega, by simp, ⟨m0 + nq, by rw [HM.out]; simp⟩⟩
instance decS44 : DecidableEq S44 := fun a b => decidable_of_iff (a.f0 = b.f0 ∧ a.f1 = b.f1 ∧ a.f2 = b.f2) (by
  cases a
  cases b
  simp)
def satchellaw03_seqs.f (k : Nat) (l0 : List (S44)) (l1 : List (S44)) : Option (Bool) := if l0 = l1 ∧ l0.length ≤ 140737488355327 ∧ shortS l0 = true then some true else none
theorem satchellaw03_seqs.mono : ∀ a0 a1 k, LeO (satchellaw03_seqs.f k a0 a1) (satchellaw03_seqs.f (k + 1) a0 a1) := fun _ _ _ => LeO.refl _
theorem satchellaw03_seqs.calls (k : Nat) (A0 : Option Addr) (c0 : Nat) (l0 : List (S44)) (A1 : Option Addr) (c1 : Nat) (l1 : List (S44)) (r : Bool) (w : World) (hr0 : Kd.C k44 w A0 l0.length l0) (hc0 : l0.length ≤ c0) (hr1 : Kd.C k44 w A1 l1.length l1) (hc1 : l1.length ≤ c1) (h : satchellaw03_seqs.f k l0 l1 = some r) :
    Calls Try.prog 23 #[.slice A0 l0.length c0, .slice A1 l1.length c1] w fun e w' => e = .returned (.bool r) ∧ Below w.heap.size w w' := by
  unfold satchellaw03_seqs.f at h
  by_cases c : l0 = l1 ∧ l0.length ≤ 140737488355327 ∧ shortS l0 = true
  · rw [if_pos c] at h
    obtain rfl := Option.some.inj h
    obtain ⟨rfl, c2, c3⟩ := c
    exact (seqs_yes A0 c0 l0 A1 c1 w hr0 hc0 hr1 hc1 c2 c3).mono fun e w' ⟨he, m, hm⟩ => ⟨he, by rw [hm]; exact pw_below_drewN (Below.refl _ _) m⟩
  · rw [if_neg c] at h
    cases h
end Go.Proofs.Ytnomebkdhjigjaa.Z
/- Contracts of functions (most of it printed by a program of the kit's): satchellaw03_copies. -/
namespace Go.Proofs.Ytnomebkdhjigjaa.Z
open Go.RowKit Go.Proofs.YtnomebkdhjigjaaW.PrintWords Go.Proofs.YtnomebkdhjigjaaW.PrintLast Go.Proofs.YtnomebkdhjigjaaW.PrintMore
open Go.Proofs.Ytnomebkdhjigjaa.MLzDecodes
attribute [local go_sem] max2_int min2_int max_two min_two max_three min_three max_four min_four   -- for this text's walks alone
set_option linter.unusedVariables false
set_option linter.unusedSimpArgs false
/-! ### satchellaw03_copies: function 32 -/
def satchellaw03_copies.l0 : Nat → List (S44) → List (S44) → Int → Option ((List (S44)))
  | 0, _, _, _ => none
  | k + 1, x0, x3, x4 => if x4 < (x0.length : Int) then ((some (([] : List Int) : List Int)).bind fun y133 => (if 0 ≤ x4 then (if y133.length + ((rd_T44 x0 x4).f0).length < 140737488355328 then (if x3.length < 3518437208883 then (satchellaw03_copies.l0 k x0 (x3 ++ [(⟨(y133 ++ ((rd_T44 x0 x4).f0)), (rd_T44 x0 x4).f1, (rd_T44 x0 x4).f2⟩ : S44)]) (wrap64 (x4 + 1))) else (none)) else (none)) else (none))) else (some x3)
def satchellaw03_copies.f (k : Nat) (l0 : List (S44)) : Option ((List (S44))) := satchellaw03_copies.l0 k l0 (([] : List (S44))) 0
theorem satchellaw03_copies.mono_l : ∀ k, (∀ y0 y1 y2, LeO (satchellaw03_copies.l0 k y0 y1 y2) (satchellaw03_copies.l0 (k + 1) y0 y1 y2))
  | 0 => fun _ _ _ r h => by simp [satchellaw03_copies.l0] at h
  | k + 1 => by
    have ih0 := satchellaw03_copies.mono_l k
    · intro y0 y1 y2
      unfold satchellaw03_copies.l0
      repeat' first
      | (with_reducible exact ih0 _ _ _)
      | (with_reducible exact LeO.refl _)
      | (with_reducible exact LeO.none _)
      | (with_reducible refine LeO.ite ?_ ?_)
      | (with_reducible refine LeO.bind ?_ (fun _ => ?_))
      | exact ih0 _ _ _
      | exact LeO.none _
      | refine LeO.ite ?_ ?_
      | refine LeO.bind ?_ (fun _ => ?_)
theorem satchellaw03_copies.mono : ∀ a0 k, LeO (satchellaw03_copies.f k a0) (satchellaw03_copies.f (k + 1) a0) := by
  intro a0 k
  have ih0 := satchellaw03_copies.mono_l k
  unfold satchellaw03_copies.f
  repeat' first
      | (with_reducible exact ih0 _ _ _)
      | (with_reducible exact LeO.refl _)
      | (with_reducible exact LeO.none _)
      | (with_reducible refine LeO.ite ?_ ?_)
      | (with_reducible refine LeO.bind ?_ (fun _ => ?_))
      | exact ih0 _ _ _
      | exact LeO.none _
      | refine LeO.ite ?_ ?_
      | refine LeO.bind ?_ (fun _ => ?_)
def satchellaw03_copies.T5 : Bool × List (List Nat × List Nat) := (true, [([], []), ([], []), ([], []), ([], []), ([2, 3], [2, 3]), ([4], [4]), ([5], [5]), ([1, 6], [1, 6]), ([], []), ([], []), ([8, 9], [8, 9]), ([10], [10]), ([11], [11]), ([], []), ([], []), ([13, 14], [13, 14]), ([15], [15]), ([16], [16]), ([7, 12, 17], [7, 12, 17]), ([18], [18]), ([0, 19, 7], [0, 19]), ([20, 20, 0, 1, 2, 3, 4, 5, 6, 7, 8, 9, 10, 11, 12, 13, 14, 15, 16, 17, 18, 19, 20], [0, 20])])
def satchellaw03_copies.B5 : List Nat := [0, 0, 0, 0, 12, 28, 60, 126, 0, 0, 768, 1792, 3840, 0, 0, 24576, 57344, 122880, 262142, 524286, 1048575, 2097151]
theorem satchellaw03_copies.tab5 : rtab .any (opsOf Try.f32 5) = satchellaw03_copies.T5 := by kernel_rfl
theorem satchellaw03_copies.bits5 : waitsOk satchellaw03_copies.T5.2 satchellaw03_copies.B5 = true := by kernel_rfl
set_option maxHeartbeats 8000000 in
set_option maxRecDepth 100000 in
theorem satchellaw03_copies.calls (k : Nat) (A0 : Option Addr) (c0 : Nat) (l0 : List (S44)) (r : List (S44)) (w : World) (hr0 : Kd.C k44 w A0 l0.length l0) (hc0 : l0.length ≤ c0) (h : satchellaw03_copies.f k l0 = some r) :
    Calls Try.prog 32 #[.slice A0 l0.length c0] w fun e w' => ∃ v0_ : Value, e = .returned (v0_) ∧ Kd.S k44 44 w' w.heap.size (fun _ => True) v0_ r ∧ Below w.heap.size w w' := by
  have hu44 := Try.underlying44
  have HR0 := Aside0.mk hr0
  have HC0 := Aside0.mk hc0
  clear hr0 hc0
  have HB := Aside0.mk (Below.refl w.heap.size w)
  have H : (satchellaw03_copies.l0 k l0 (([] : List (S44))) 0) = some r := h
  clear h
  obtain ⟨y130, hy130⟩ : ∃ y_ : List (S44), y_ = (([] : List (S44))) := ⟨_, rfl⟩
  replace H : (satchellaw03_copies.l0 k l0 y130 0) = some r := by first | (rw [hy130]; with_reducible exact H) | (have H2_ := (Option.bind_some _ _).symm.trans H; rw [hy130]; with_reducible exact H2_) | (have H2_ := (Option.bind_some _ _).symm.trans H; with_reducible exact H2_) | with_reducible exact H | (rw [hy130]; exact H) | exact H
  have Ny130 := Aside0.mk hy130
  clear hy130
  have H' := Aside0.mk H
  clear H
  go_enter Try.func32, Try.ntmps32
  go_wp2_with (first | ((with_reducible refine gate_dst (N := 5) rfl ?_); refine Kd.S_lit k44 _ 44 ?hg (N := 5) ?hd (xs := ([] : List (S44))) (inner := []) (ok := fun _ => True) (okp := fun _ => True) ?hr ?hp (fun _ hk => hk) trivial (Below.refl _ _) (Nat.le_refl _) (by simp) ?_; (case hd => rfl); (case hg => rfl); (case hr => first | (go_simp; done) | (go_simp; rfl)); (case hp => exact (Reps.none _ _)); intro v131 w2 ho3 hb hg_ hnew_; clear hg_ hnew_; (first | rw [← Ny130.out] at ho3 | (simp only [Int.reduceToNat] at ho3; rw [← Ny130.out] at ho3)); have n0_ := Aside0.mk (Kd.S_lower ho3 (below_size (by repeat (first | (with_reducible first | exact HB.out | apply below_alloc | apply pw_below_drewN | apply below_drew1) | exact HB.out)))); have n1_ := Aside0.mk (below_step (by repeat (first | (with_reducible first | exact HB.out | apply below_alloc | apply pw_below_drewN | apply below_drew1) | exact HB.out)) hb); clear HB; have HO132 := n0_; have HB := n1_; clear n0_ n1_; clear hb ho3))
  go_loopg [3, 4] k (fun kq v3 v4 w' => ∃ (x3_1 : List (S44)) (x4_1 : Int), v4 = .int .i64 x4_1 ∧ Aside0 (satchellaw03_copies.l0 kq l0 x3_1 x4_1 = some r) ∧ Aside0 (kq ≤ k) ∧ Aside0 (Kd.S k44 44 w' w.heap.size (fun _ => True) v3 x3_1) ∧ Aside0 (Below w.heap.size w w'))
  case atStart => exact ⟨(y130), (0), (by first | rfl | (simp; done) | (simp [*]; done)), H', ⟨Nat.le_refl _⟩, ⟨by (with_reducible repeat (first | apply Kd.S_alloc | apply Kd.S_drewN | apply Kd.S_drew)); exact HO132.out⟩, ⟨by repeat (first | (with_reducible first | exact HB.out | apply below_alloc | apply pw_below_drewN | apply below_drew1) | exact HB.out)⟩⟩
  case round =>
    clear H'
    try clear p2
    try clear c3
    obtain ⟨x3_1, x4_1, rfl, HA, HK1, HO_3, HB⟩ := hrel
    cases gk with
    | zero => exact absurd HA.out (by simp [satchellaw03_copies.l0])
    | succ k1 =>
      have H := HA.out
      clear HA
      simp only [satchellaw03_copies.l0] at H
      by_cases c4 : x4_1 < (l0.length : Int)
      · rw [if_pos c4] at H
        have c4b0 : decide (x4_1 < (l0.length : Int)) = true := decide_eq_true c4
        clear c4
        obtain ⟨y133, hy133⟩ : ∃ y_ : List Int, y_ = (([] : List Int)) := ⟨_, rfl⟩
        replace H : (if 0 ≤ x4_1 then (if y133.length + ((rd_T44 l0 x4_1).f0).length < 140737488355328 then (if x3_1.length < 3518437208883 then (satchellaw03_copies.l0 k1 l0 (x3_1 ++ [(⟨(y133 ++ ((rd_T44 l0 x4_1).f0)), (rd_T44 l0 x4_1).f1, (rd_T44 l0 x4_1).f2⟩ : S44)]) (wrap64 (x4_1 + 1))) else (none)) else (none)) else (none)) = some r := by first | (rw [hy133]; with_reducible exact H) | (have H2_ := (Option.bind_some _ _).symm.trans H; rw [hy133]; with_reducible exact H2_) | (have H2_ := (Option.bind_some _ _).symm.trans H; with_reducible exact H2_) | with_reducible exact H | (rw [hy133]; exact H) | exact H
        have Ny133 := Aside0.mk hy133
        clear hy133
        by_cases c5 : 0 ≤ x4_1
        · rw [if_pos c5] at H
          have c5b0 : decide (0 ≤ x4_1) = true := decide_eq_true c5
          clear c5
          by_cases c6 : y133.length + ((rd_T44 l0 x4_1).f0).length < 140737488355328
          · rw [if_pos c6] at H
            have LMc6 := Aside0.mk c6
            clear c6
            obtain ⟨y137, hy137⟩ : ∃ y_ : List Int, y_ = (y133 ++ ((rd_T44 l0 x4_1).f0)) := ⟨_, rfl⟩
            replace H : (if x3_1.length < 3518437208883 then (satchellaw03_copies.l0 k1 l0 (x3_1 ++ [(⟨y137, (rd_T44 l0 x4_1).f1, (rd_T44 l0 x4_1).f2⟩ : S44)]) (wrap64 (x4_1 + 1))) else (none)) = some r := by first | (rw [hy137]; with_reducible exact H) | (have H2_ := (Option.bind_some _ _).symm.trans H; rw [hy137]; with_reducible exact H2_) | (have H2_ := (Option.bind_some _ _).symm.trans H; with_reducible exact H2_) | with_reducible exact H | (rw [hy137]; exact H) | exact H
            have Ny137 := Aside0.mk hy137
            clear hy137
            by_cases c7 : x3_1.length < 3518437208883
            · rw [if_pos c7] at H
              have LMc7 := Aside0.mk c7
              clear c7
              obtain ⟨y142, hy142⟩ : ∃ y_ : List (S44), y_ = (x3_1 ++ [(⟨y137, (rd_T44 l0 x4_1).f1, (rd_T44 l0 x4_1).f2⟩ : S44)]) := ⟨_, rfl⟩
              replace H : (satchellaw03_copies.l0 k1 l0 y142 (wrap64 (x4_1 + 1))) = some r := by first | (rw [hy142]; with_reducible exact H) | (have H2_ := (Option.bind_some _ _).symm.trans H; rw [hy142]; with_reducible exact H2_) | (have H2_ := (Option.bind_some _ _).symm.trans H; with_reducible exact H2_) | with_reducible exact H | (rw [hy142]; exact H) | exact H
              have Ny142 := Aside0.mk hy142
              clear hy142
              have H' := Aside0.mk H
              clear H
              try go_wp2
              have n0_ := Aside0.mk (Kd.S_drew HO_3.out)
              have n1_ := Aside0.mk (below_drew1 HB.out)
              clear HO_3
              clear HB
              have HO_3 := n0_
              have HB := n1_
              clear n0_ n1_
              have p136 : 0 ≤ (x4_1 : Int) := of_decide_eq_true (by first | (with_reducible assumption) | assumption)
              have q136 : x4_1 < (l0.length : Int) := of_decide_eq_true (by first | (with_reducible assumption) | assumption)
              obtain ⟨ad136, A136_0, c136_0, e136, hx136_0, hx136_1, hx136_2, hl136_0, hi136_0⟩ := at_T44 HR0.out x4_1 p136 q136
              have hw136_2 := hx136_2
              have hw136_1 := hx136_1
              have hw136_0 := hx136_0
              cases e136
              replace hx136_0 := (HB.out.cell (World.block_lt_of_cell? w _ hx136_0)).trans hx136_0
              replace hx136_1 := (HB.out.cell (World.block_lt_of_cell? w _ hx136_1)).trans hx136_1
              replace hx136_2 := (HB.out.cell (World.block_lt_of_cell? w _ hx136_2)).trans hx136_2
              have HR136_0 := Aside0.mk hi136_0
              have HC136_0 := Aside0.mk hl136_0
              clear hi136_0 hl136_0
              replace p136 := eq_true p136
              replace q136 := eq_true q136
              have p140 : 0 ≤ (x4_1 : Int) := of_decide_eq_true (by first | (with_reducible assumption) | assumption)
              have q140 : x4_1 < (l0.length : Int) := of_decide_eq_true (by first | (with_reducible assumption) | assumption)
              obtain ⟨ad140, A140_0, c140_0, e140, hx140_0, hx140_1, hx140_2, hl140_0, hi140_0⟩ := at_T44 HR0.out x4_1 p140 q140
              have hw140_2 := hx140_2
              have hw140_1 := hx140_1
              have hw140_0 := hx140_0
              obtain rfl : ad136 = ad140 := (by injection e140)
              replace hx140_0 := (HB.out.cell (World.block_lt_of_cell? w _ hx140_0)).trans hx140_0
              replace hx140_1 := (HB.out.cell (World.block_lt_of_cell? w _ hx140_1)).trans hx140_1
              replace hx140_2 := (HB.out.cell (World.block_lt_of_cell? w _ hx140_2)).trans hx140_2
              have HR140_0 := Aside0.mk hi140_0
              have HC140_0 := Aside0.mk hl140_0
              clear hi140_0 hl140_0
              replace p140 := eq_true p140
              replace q140 := eq_true q140
              have ea_ := Option.some.inj (hx136_0.symm.trans hx140_0)
              injection ea_ with ea_ en_ ec_
              subst ea_
              subst ec_
              clear en_
              have p141 : 0 ≤ (x4_1 : Int) := of_decide_eq_true (by first | (with_reducible assumption) | assumption)
              have q141 : x4_1 < (l0.length : Int) := of_decide_eq_true (by first | (with_reducible assumption) | assumption)
              obtain ⟨ad141, A141_0, c141_0, e141, hx141_0, hx141_1, hx141_2, hl141_0, hi141_0⟩ := at_T44 HR0.out x4_1 p141 q141
              have hw141_2 := hx141_2
              have hw141_1 := hx141_1
              have hw141_0 := hx141_0
              obtain rfl : ad136 = ad141 := (by injection e141)
              replace hx141_0 := (HB.out.cell (World.block_lt_of_cell? w _ hx141_0)).trans hx141_0
              replace hx141_1 := (HB.out.cell (World.block_lt_of_cell? w _ hx141_1)).trans hx141_1
              replace hx141_2 := (HB.out.cell (World.block_lt_of_cell? w _ hx141_2)).trans hx141_2
              have HR141_0 := Aside0.mk hi141_0
              have HC141_0 := Aside0.mk hl141_0
              clear hi141_0 hl141_0
              replace p141 := eq_true p141
              replace q141 := eq_true q141
              have ea_ := Option.some.inj (hx136_0.symm.trans hx141_0)
              injection ea_ with ea_ en_ ec_
              subst ea_
              subst ec_
              clear en_
              refine start_ (n := 22) (S := fun w' => w'.cell? (ad136.add ((x4_1).toNat * 3)) = some (.slice A136_0 ((rd_T44 l0 x4_1).f0).length c136_0) ∧ w'.cell? ⟨(ad136.add ((x4_1).toNat * 3)).block, (ad136.add ((x4_1).toNat * 3)).off + 1, none⟩ = some (.int .i64 ((rd_T44 l0 x4_1).f1)) ∧ w'.cell? ⟨(ad136.add ((x4_1).toNat * 3)).block, (ad136.add ((x4_1).toNat * 3)).off + 2, none⟩ = some (.int .i64 ((rd_T44 l0 x4_1).f2)) ∧ w'.cell? (ad136.add ((x4_1).toNat * 3)) = some (.slice A136_0 ((rd_T44 l0 x4_1).f0).length c136_0) ∧ w'.cell? ⟨(ad136.add ((x4_1).toNat * 3)).block, (ad136.add ((x4_1).toNat * 3)).off + 1, none⟩ = some (.int .i64 ((rd_T44 l0 x4_1).f1)) ∧ w'.cell? ⟨(ad136.add ((x4_1).toNat * 3)).block, (ad136.add ((x4_1).toNat * 3)).off + 2, none⟩ = some (.int .i64 ((rd_T44 l0 x4_1).f2)) ∧ w'.cell? (ad136.add ((x4_1).toNat * 3)) = some (.slice A136_0 ((rd_T44 l0 x4_1).f0).length c136_0) ∧ w'.cell? ⟨(ad136.add ((x4_1).toNat * 3)).block, (ad136.add ((x4_1).toNat * 3)).off + 1, none⟩ = some (.int .i64 ((rd_T44 l0 x4_1).f1)) ∧ w'.cell? ⟨(ad136.add ((x4_1).toNat * 3)).block, (ad136.add ((x4_1).toNat * 3)).off + 2, none⟩ = some (.int .i64 ((rd_T44 l0 x4_1).f2))) (ds := []) #[false, false, false, false, false, false, false, false, false, false, false, false, false, false, false, false, false, false, false, false, false, false] (by kernel_rfl) rfl rfl ⟨((HB.out.cell (World.block_lt_of_cell? w _ hw136_0)).trans hw136_0), ((HB.out.cell (World.block_lt_of_cell? w _ hw136_1)).trans hw136_1), ((HB.out.cell (World.block_lt_of_cell? w _ hw136_2)).trans hw136_2), ((HB.out.cell (World.block_lt_of_cell? w _ hw140_0)).trans hw140_0), ((HB.out.cell (World.block_lt_of_cell? w _ hw140_1)).trans hw140_1), ((HB.out.cell (World.block_lt_of_cell? w _ hw140_2)).trans hw140_2), ((HB.out.cell (World.block_lt_of_cell? w _ hw141_0)).trans hw141_0), ((HB.out.cell (World.block_lt_of_cell? w _ hw141_1)).trans hw141_1), ((HB.out.cell (World.block_lt_of_cell? w _ hw141_2)).trans hw141_2)⟩ (fun hHeld => ?_); refine with_tabW satchellaw03_copies.tab5 satchellaw03_copies.bits5 (fun HT_ HW_ => ?_)
              generalize wr.drew = w8 at HO_3 HB HR136_0 HR140_0 HR141_0 hx136_0 hx136_1 hx136_2 hx140_0 hx140_1 hx140_2 hx141_0 hx141_1 hx141_2 hHeld ⊢
              refine pure_ (i := 0) (N := some 12) (v := ?_) (a' := ?_) #[true, false, false, false, false, false, false, false, false, false, false, false, false, false, false, false, false, false, false, false, false, false] rfl rfl (any_of HT_.out (by kernel_rfl)) (fun _ _ _ h => h) (Or.inl ⟨by rfl, ?_⟩) ?_ ?_
              rotate_left
              · intro w'
                go_simp
                with_reducible rfl
              rotate_left
              · simp only [Act.put, List.setIfInBounds_toArray, List.set_cons_zero, List.set_cons_succ, i64_w, i32_w]
                rfl
              refine pure_ (i := 2) (N := some 14) (v := ?_) (a' := ?_) #[true, false, true, false, false, false, false, false, false, false, false, false, false, false, false, false, false, false, false, false, false, false] rfl rfl (any_of HT_.out (by kernel_rfl)) (fun _ _ _ h => h) (Or.inl ⟨by rfl, ?_⟩) ?_ ?_
              rotate_left
              · intro w'
                go_simp
                with_reducible rfl
              rotate_left
              · simp only [Act.put, List.setIfInBounds_toArray, List.set_cons_zero, List.set_cons_succ, i64_w, i32_w]
                rfl
              refine pure_ (i := 3) (N := some 15) (v := ?_) (a' := ?_) #[true, false, true, true, false, false, false, false, false, false, false, false, false, false, false, false, false, false, false, false, false, false] rfl rfl (any_of HT_.out (by kernel_rfl)) (fun _ _ _ h => h) (Or.inl ⟨by rfl, ?_⟩) ?_ ?_
              rotate_left
              · intro w'
                go_simp
                with_reducible rfl
              rotate_left
              · simp only [Act.put, List.setIfInBounds_toArray, List.set_cons_zero, List.set_cons_succ, i64_w, i32_w]
                rfl
              refine pure_ (i := 4) (N := some 16) (v := ?_) (a' := ?_) #[true, false, true, true, true, false, false, false, false, false, false, false, false, false, false, false, false, false, false, false, false, false] rfl rfl (any_of HT_.out (by kernel_rfl)) (fun _ _ _ h => h) (Or.inl ⟨by rfl, ?_⟩) ?_ ?_
              rotate_left
              · intro w'
                go_simp
                with_reducible rfl
              rotate_left
              · simp only [Act.put, List.setIfInBounds_toArray, List.set_cons_zero, List.set_cons_succ, i64_w, i32_w]
                rfl
              refine pure_ (i := 5) (N := some 17) (v := ?_) (a' := ?_) #[true, false, true, true, true, true, false, false, false, false, false, false, false, false, false, false, false, false, false, false, false, false] rfl rfl (any_of HT_.out (by kernel_rfl)) (fun _ _ _ h => h) (Or.inl ⟨by rfl, ?_⟩) ?_ ?_
              rotate_left
              · intro w'
                go_simp
                with_reducible rfl
              rotate_left
              · simp only [Act.put, List.setIfInBounds_toArray, List.set_cons_zero, List.set_cons_succ, i64_w, i32_w]
                rfl
              refine pure_ (i := 8) (N := some 20) (v := ?_) (a' := ?_) #[true, false, true, true, true, true, false, false, true, false, false, false, false, false, false, false, false, false, false, false, false, false] rfl rfl (any_of HT_.out (by kernel_rfl)) (fun _ _ _ h => h) (Or.inl ⟨by rfl, ?_⟩) ?_ ?_
              rotate_left
              · intro w'
                go_simp
                with_reducible rfl
              rotate_left
              · simp only [Act.put, List.setIfInBounds_toArray, List.set_cons_zero, List.set_cons_succ, i64_w, i32_w]
                rfl
              refine pure_ (i := 9) (N := some 21) (v := ?_) (a' := ?_) #[true, false, true, true, true, true, false, false, true, true, false, false, false, false, false, false, false, false, false, false, false, false] rfl rfl (any_of HT_.out (by kernel_rfl)) (fun _ _ _ h => h) (Or.inl ⟨by rfl, ?_⟩) ?_ ?_
              rotate_left
              · intro w'
                go_simp
                with_reducible rfl
              rotate_left
              · simp only [Act.put, List.setIfInBounds_toArray, List.set_cons_zero, List.set_cons_succ, i64_w, i32_w]
                rfl
              refine pure_ (i := 10) (N := some 22) (v := ?_) (a' := ?_) #[true, false, true, true, true, true, false, false, true, true, true, false, false, false, false, false, false, false, false, false, false, false] rfl rfl (any_of HT_.out (by kernel_rfl)) (fun _ _ _ h => h) (Or.inl ⟨by rfl, ?_⟩) ?_ ?_
              rotate_left
              · intro w'
                go_simp
                with_reducible rfl
              rotate_left
              · simp only [Act.put, List.setIfInBounds_toArray, List.set_cons_zero, List.set_cons_succ, i64_w, i32_w]
                rfl
              refine pure_ (i := 11) (N := some 23) (v := ?_) (a' := ?_) #[true, false, true, true, true, true, false, false, true, true, true, true, false, false, false, false, false, false, false, false, false, false] rfl rfl (any_of HT_.out (by kernel_rfl)) (fun _ _ _ h => h) (Or.inl ⟨by rfl, ?_⟩) ?_ ?_
              rotate_left
              · intro w'
                go_simp
                with_reducible rfl
              rotate_left
              · simp only [Act.put, List.setIfInBounds_toArray, List.set_cons_zero, List.set_cons_succ, i64_w, i32_w]
                rfl
              refine pure_ (i := 13) (N := some 25) (v := ?_) (a' := ?_) #[true, false, true, true, true, true, false, false, true, true, true, true, false, true, false, false, false, false, false, false, false, false] rfl rfl (any_of HT_.out (by kernel_rfl)) (fun _ _ _ h => h) (Or.inl ⟨by rfl, ?_⟩) ?_ ?_
              rotate_left
              · intro w'
                go_simp
                with_reducible rfl
              rotate_left
              · simp only [Act.put, List.setIfInBounds_toArray, List.set_cons_zero, List.set_cons_succ, i64_w, i32_w]
                rfl
              refine pure_ (i := 14) (N := some 26) (v := ?_) (a' := ?_) #[true, false, true, true, true, true, false, false, true, true, true, true, false, true, true, false, false, false, false, false, false, false] rfl rfl (any_of HT_.out (by kernel_rfl)) (fun _ _ _ h => h) (Or.inl ⟨by rfl, ?_⟩) ?_ ?_
              rotate_left
              · intro w'
                go_simp
                with_reducible rfl
              rotate_left
              · simp only [Act.put, List.setIfInBounds_toArray, List.set_cons_zero, List.set_cons_succ, i64_w, i32_w]
                rfl
              refine pure_ (i := 15) (N := some 27) (v := ?_) (a' := ?_) #[true, false, true, true, true, true, false, false, true, true, true, true, false, true, true, true, false, false, false, false, false, false] rfl rfl (any_of HT_.out (by kernel_rfl)) (fun _ _ _ h => h) (Or.inl ⟨by rfl, ?_⟩) ?_ ?_
              rotate_left
              · intro w'
                go_simp
                with_reducible rfl
              rotate_left
              · simp only [Act.put, List.setIfInBounds_toArray, List.set_cons_zero, List.set_cons_succ, i64_w, i32_w]
                rfl
              refine pure_ (i := 16) (N := some 28) (v := ?_) (a' := ?_) #[true, false, true, true, true, true, false, false, true, true, true, true, false, true, true, true, true, false, false, false, false, false] rfl rfl (any_of HT_.out (by kernel_rfl)) (fun _ _ _ h => h) (Or.inl ⟨by rfl, ?_⟩) ?_ ?_
              rotate_left
              · intro w'
                go_simp
                with_reducible rfl
              rotate_left
              · simp only [Act.put, List.setIfInBounds_toArray, List.set_cons_zero, List.set_cons_succ, i64_w, i32_w]
                rfl
              refine take_ (i := 6) (N := some 18) (v := ?_) (a' := ?_) #[true, false, true, true, true, true, true, false, true, true, true, true, false, true, true, true, true, false, false, false, false, false] rfl rfl (take_ofW HT_.out HW_.out (by kernel_rfl)) (fun _ _ _ h => h) (Or.inl ⟨by rfl, ?_⟩) hHeld ?_ ?_
              rotate_left
              · rintro w' ⟨s0, s1, s2, s3, s4, s5, s6, s7, s8⟩
                go_simp
                with_reducible rfl
              rotate_left
              · simp only [Act.put, List.setIfInBounds_toArray, List.set_cons_zero, List.set_cons_succ, i64_w, i32_w]
                rfl
              refine take_ (i := 12) (N := some 24) (v := ?_) (a' := ?_) #[true, false, true, true, true, true, true, false, true, true, true, true, true, true, true, true, true, false, false, false, false, false] rfl rfl (take_ofW HT_.out HW_.out (by kernel_rfl)) (fun _ _ _ h => h) (Or.inl ⟨by rfl, ?_⟩) hHeld ?_ ?_
              rotate_left
              · rintro w' ⟨s0, s1, s2, s3, s4, s5, s6, s7, s8⟩
                go_simp
                with_reducible rfl
              rotate_left
              · simp only [Act.put, List.setIfInBounds_toArray, List.set_cons_zero, List.set_cons_succ, i64_w, i32_w]
                rfl
              refine take_ (i := 17) (N := some 29) (v := ?_) (a' := ?_) #[true, false, true, true, true, true, true, false, true, true, true, true, true, true, true, true, true, true, false, false, false, false] rfl rfl (take_ofW HT_.out HW_.out (by kernel_rfl)) (fun _ _ _ h => h) (Or.inl ⟨by rfl, ?_⟩) hHeld ?_ ?_
              rotate_left
              · rintro w' ⟨s0, s1, s2, s3, s4, s5, s6, s7, s8⟩
                go_simp
                with_reducible rfl
              rotate_left
              · simp only [Act.put, List.setIfInBounds_toArray, List.set_cons_zero, List.set_cons_succ, i64_w, i32_w]
                rfl
              refine one_ (i := 1) (N := some 13) #[true, true, true, true, true, true, true, false, true, true, true, true, true, true, true, true, true, true, false, false, false, false] rfl rfl (one_of HT_.out (by kernel_rfl)) (by decide) (fun K hK => ?_)
              refine Kd.R_lit_step (Kd.int .u8) _ 5 ?hg (N := 13) ?hd (xs := ([] : List Int)) (inner := []) (ok := fun _ => True) (okp := fun _ => True) ?hr ?hp (fun _ hk => hk) trivial (Below.refl _ _) (Nat.le_refl _) (by simp) ?_; (case hd => rfl); (case hg => rfl); (case hr => first | (go_simp; done) | (go_simp; rfl)); (case hp => exact (Reps.none _ _))
              intro v134 w9 ho10 hb hg_ hnew_
              clear hg_ hnew_
              (first | rw [← Ny133.out] at ho10 | (simp only [Int.reduceToNat] at ho10; rw [← Ny133.out] at ho10))
              have n0_ := Aside0.mk (Kd.S_elder' (by (with_reducible repeat (first | apply Kd.S_alloc | apply Kd.S_drewN | apply Kd.S_drew)); exact HO_3.out) (Kd.R_base ho10) hb)
              have n1_ := Aside0.mk (Kd.R_lower ho10 (below_size (by repeat (first | (with_reducible first | exact HB.out | apply below_alloc | apply pw_below_drewN | apply below_drew1) | exact HB.out))))
              have n2_ := Aside0.mk (below_step (by repeat (first | (with_reducible first | exact HB.out | apply below_alloc | apply pw_below_drewN | apply below_drew1) | exact HB.out)) hb)
              clear HO_3
              clear HB
              have HO_3 := n0_
              have HO135 := n1_
              have HB := n2_
              clear n0_ n1_ n2_
              clear hb ho10
              refine hK.out _ _ ⟨((HB.out.cell (World.block_lt_of_cell? w _ hw136_0)).trans hw136_0), ((HB.out.cell (World.block_lt_of_cell? w _ hw136_1)).trans hw136_1), ((HB.out.cell (World.block_lt_of_cell? w _ hw136_2)).trans hw136_2), ((HB.out.cell (World.block_lt_of_cell? w _ hw140_0)).trans hw140_0), ((HB.out.cell (World.block_lt_of_cell? w _ hw140_1)).trans hw140_1), ((HB.out.cell (World.block_lt_of_cell? w _ hw140_2)).trans hw140_2), ((HB.out.cell (World.block_lt_of_cell? w _ hw141_0)).trans hw141_0), ((HB.out.cell (World.block_lt_of_cell? w _ hw141_1)).trans hw141_1), ((HB.out.cell (World.block_lt_of_cell? w _ hw141_2)).trans hw141_2)⟩ (fun hHeld => ?_)
              clear hK K
              refine norm_ (a' := ?_) ?_ ?_
              rotate_left
              · show Act.put _ (some 13) _ = _
                simp only [Act.put, List.setIfInBounds_toArray, List.set_cons_zero, List.set_cons_succ, i64_w, i32_w]
                rfl
              refine one_ (i := 7) (N := some 19) #[true, true, true, true, true, true, true, true, true, true, true, true, true, true, true, true, true, true, false, false, false, false] rfl rfl (one_of HT_.out (by kernel_rfl)) (by decide) (fun K hK => ?_)
              refine Kd.R_append_rows_step (Kd.int .u8) (w0 := w) w.heap.size (by rfl) (.tmp 13) (.tmp 18) 22 5 (.int .u8 0) 1 rfl Try.underlying22 info5 rfl (by decide) (by omega) v134 y133 ((rd_T44 l0 x4_1).f0) _ _ _ (fun _ => True) (fun _ => False) rfl rfl ?aO ?aR (fun _ _ h => h) (fun _ h => h.elim) ?aF ?aB ?aS ?aL ?_
              (case aR => repeat (first | exact (Kd.C_below HR136_0.out HB.out) | (with_reducible refine Kd.C_alloc ?_ _) | (with_reducible refine Kd.C_drewN ?_ _) | (with_reducible refine Kd.C_drew ?_)))
              (case aB => exact (by repeat (first | (with_reducible first | exact HB.out | apply below_alloc | apply pw_below_drewN | apply below_drew1) | exact HB.out)))
              (case aF => exact (fun _ _ => trivial))
              (case aO => exact (by (with_reducible repeat (first | apply Kd.R_alloc | apply Kd.R_drewN | apply Kd.R_drew)); exact HO135.out))
              (case aS => exact (below_size (by repeat (first | (with_reducible first | exact HB.out | apply below_alloc | apply pw_below_drewN | apply below_drew1) | exact HB.out))))
              (case aL => have := LMc6.out; omega)
              intro v138 w11 ho hb hg hat
              rw [← Ny137.out] at ho
              have n0_ := Aside0.mk (Kd.S_after (ok := (fun _ => True)) (by (with_reducible repeat (first | apply Kd.S_alloc | apply Kd.S_drewN | apply Kd.S_drew)); exact HO_3.out) hg hat)
              have n1_ := Aside0.mk (hb)
              have n2_ := Aside0.mk (ho)
              clear HO_3
              clear HB
              clear HO135
              have HO_3 := n0_
              have HB := n1_
              have HO139 := n2_
              clear n0_ n1_ n2_
              clear ho hb hg hat
              obtain ⟨Ao12, co12, eo12⟩ := Kd.R_slice HO139.out
              (first | subst eo12 | (injection eo12 with f1_ f2_ f3_; have f4_ := f1_.symm; have f5_ := f3_.symm; clear f1_ f2_ f3_; subst f4_; subst f5_))
              refine hK.out _ _ ⟨((HB.out.cell (World.block_lt_of_cell? w _ hw136_0)).trans hw136_0), ((HB.out.cell (World.block_lt_of_cell? w _ hw136_1)).trans hw136_1), ((HB.out.cell (World.block_lt_of_cell? w _ hw136_2)).trans hw136_2), ((HB.out.cell (World.block_lt_of_cell? w _ hw140_0)).trans hw140_0), ((HB.out.cell (World.block_lt_of_cell? w _ hw140_1)).trans hw140_1), ((HB.out.cell (World.block_lt_of_cell? w _ hw140_2)).trans hw140_2), ((HB.out.cell (World.block_lt_of_cell? w _ hw141_0)).trans hw141_0), ((HB.out.cell (World.block_lt_of_cell? w _ hw141_1)).trans hw141_1), ((HB.out.cell (World.block_lt_of_cell? w _ hw141_2)).trans hw141_2)⟩ (fun hHeld => ?_)
              clear hK K
              refine norm_ (a' := ?_) ?_ ?_
              rotate_left
              · show Act.put _ (some 19) _ = _
                simp only [Act.put, List.setIfInBounds_toArray, List.set_cons_zero, List.set_cons_succ, i64_w, i32_w]
                rfl
              refine pure_ (i := 18) (N := some 30) (v := ?_) (a' := ?_) #[true, true, true, true, true, true, true, true, true, true, true, true, true, true, true, true, true, true, true, false, false, false] rfl rfl (any_of HT_.out (by kernel_rfl)) (fun _ _ _ h => h) (Or.inl ⟨by rfl, ?_⟩) ?_ ?_
              rotate_left
              · intro w'
                go_simp
                with_reducible rfl
              rotate_left
              · simp only [Act.put, List.setIfInBounds_toArray, List.set_cons_zero, List.set_cons_succ, i64_w, i32_w]
                rfl
              refine one_ (i := 19) (N := some 31) #[true, true, true, true, true, true, true, true, true, true, true, true, true, true, true, true, true, true, true, true, false, false] rfl rfl (one_of HT_.out (by kernel_rfl)) (by decide) (fun K hK => ?_)
              refine value_ (w1 := ?_) (v := ?_) (by rfl) rfl ?_ ?_
              rotate_left 2
              · go_simp
                constructor
                · rfl
                · rfl
              refine hK.out _ _ ⟨(World.cell?_alloc_lt _ _ _ (World.block_lt_of_cell? _ _ (((HB.out.cell (World.block_lt_of_cell? w _ hw136_0)).trans hw136_0)))).trans (((HB.out.cell (World.block_lt_of_cell? w _ hw136_0)).trans hw136_0)), (World.cell?_alloc_lt _ _ _ (World.block_lt_of_cell? _ _ (((HB.out.cell (World.block_lt_of_cell? w _ hw136_1)).trans hw136_1)))).trans (((HB.out.cell (World.block_lt_of_cell? w _ hw136_1)).trans hw136_1)), (World.cell?_alloc_lt _ _ _ (World.block_lt_of_cell? _ _ (((HB.out.cell (World.block_lt_of_cell? w _ hw136_2)).trans hw136_2)))).trans (((HB.out.cell (World.block_lt_of_cell? w _ hw136_2)).trans hw136_2)), (World.cell?_alloc_lt _ _ _ (World.block_lt_of_cell? _ _ (((HB.out.cell (World.block_lt_of_cell? w _ hw140_0)).trans hw140_0)))).trans (((HB.out.cell (World.block_lt_of_cell? w _ hw140_0)).trans hw140_0)), (World.cell?_alloc_lt _ _ _ (World.block_lt_of_cell? _ _ (((HB.out.cell (World.block_lt_of_cell? w _ hw140_1)).trans hw140_1)))).trans (((HB.out.cell (World.block_lt_of_cell? w _ hw140_1)).trans hw140_1)), (World.cell?_alloc_lt _ _ _ (World.block_lt_of_cell? _ _ (((HB.out.cell (World.block_lt_of_cell? w _ hw140_2)).trans hw140_2)))).trans (((HB.out.cell (World.block_lt_of_cell? w _ hw140_2)).trans hw140_2)), (World.cell?_alloc_lt _ _ _ (World.block_lt_of_cell? _ _ (((HB.out.cell (World.block_lt_of_cell? w _ hw141_0)).trans hw141_0)))).trans (((HB.out.cell (World.block_lt_of_cell? w _ hw141_0)).trans hw141_0)), (World.cell?_alloc_lt _ _ _ (World.block_lt_of_cell? _ _ (((HB.out.cell (World.block_lt_of_cell? w _ hw141_1)).trans hw141_1)))).trans (((HB.out.cell (World.block_lt_of_cell? w _ hw141_1)).trans hw141_1)), (World.cell?_alloc_lt _ _ _ (World.block_lt_of_cell? _ _ (((HB.out.cell (World.block_lt_of_cell? w _ hw141_2)).trans hw141_2)))).trans (((HB.out.cell (World.block_lt_of_cell? w _ hw141_2)).trans hw141_2))⟩ (fun hHeld => ?_)
              clear hK K
              refine norm_ (a' := ?_) ?_ ?_
              rotate_left
              · show Act.put _ (some 31) _ = _
                simp only [Act.put, List.setIfInBounds_toArray, List.set_cons_zero, List.set_cons_succ, i64_w, i32_w]
                rfl
              refine one_ (i := 20) (N := some 32) #[true, true, true, true, true, true, true, true, true, true, true, true, true, true, true, true, true, true, true, true, true, false] rfl rfl (one_of HT_.out (by kernel_rfl)) (by decide) (fun K hK => ?_)
              refine Kd.S_append_step k44 (w0 := w) w.heap.size (by rfl) (.tmp 12) (.tmp 31) 37 44 (.agg #[(.slice none 0 0), (.int .i64 0), (.int .i64 0)]) 40 rfl Try.underlying37 info44 rfl (by decide) (by omega) u3 x3_1 (⟨y137, (rd_T44 l0 x4_1).f1, (rd_T44 l0 x4_1).f2⟩ : S44) [.slice Ao12 y137.length co12, .int .i64 ((rd_T44 l0 x4_1).f1), .int .i64 ((rd_T44 l0 x4_1).f2)] (fun _ => True) (fun k_ => some k_ = (.slice Ao12 y137.length co12 : Value).ownBlock) rfl rfl ?aP (fun k_ hk_ => ((Kd.R_mono (ok' := fun k_ => ((fun _ => True)) k_ ∧ some k_ ≠ (u3 : Value).ownBlock) (Kd.R_apart' (HO139.out) (Kd.S_typed HO_3.out) (by decide)) (fun k_ hk => ⟨trivial, hk.2⟩))).1 k_ hk_.symm) ?aF ?aO ?aB ?aS ?aL ?_
              (case aP => exact k44_mkM _ _ _ (⟨y137, (rd_T44 l0 x4_1).f1, (rd_T44 l0 x4_1).f2⟩ : S44) (Kd.R_mono (Kd.R_tight rfl (Kd.R_mono (ok' := fun k_ => ((fun _ => True)) k_ ∧ some k_ ≠ (u3 : Value).ownBlock) (Kd.R_apart' (HO139.out) (Kd.S_typed HO_3.out) (by decide)) (fun k_ hk => ⟨trivial, hk.2⟩))) (fun _ h_ => h_)))
              (case aB => exact (by repeat (first | (with_reducible first | exact HB.out | apply below_alloc | apply pw_below_drewN | apply below_drew1) | exact HB.out)))
              (case aF => exact (fun _ _ => trivial))
              (case aO => exact (by (with_reducible repeat (first | apply Kd.S_alloc | apply Kd.S_drewN | apply Kd.S_drew)); exact Kd.S_mono HO_3.out (fun k_ hk => ⟨trivial, fun e_ => hk.2 e_⟩)))
              (case aS => exact (below_size (by repeat (first | (with_reducible first | exact HB.out | apply below_alloc | apply pw_below_drewN | apply below_drew1) | exact HB.out))))
              (case aL => have := LMc7.out; omega)
              intro v143 w13 ho hb hg hat
              rw [← Ny142.out] at ho
              have n0_ := Aside0.mk (hb)
              have n1_ := Aside0.mk (ho)
              clear HB
              clear HO_3
              clear HO139
              have HB := n0_
              have HO144 := n1_
              clear n0_ n1_
              clear ho hb hg hat
              refine hK.out _ _ ⟨((HB.out.cell (World.block_lt_of_cell? w _ hw136_0)).trans hw136_0), ((HB.out.cell (World.block_lt_of_cell? w _ hw136_1)).trans hw136_1), ((HB.out.cell (World.block_lt_of_cell? w _ hw136_2)).trans hw136_2), ((HB.out.cell (World.block_lt_of_cell? w _ hw140_0)).trans hw140_0), ((HB.out.cell (World.block_lt_of_cell? w _ hw140_1)).trans hw140_1), ((HB.out.cell (World.block_lt_of_cell? w _ hw140_2)).trans hw140_2), ((HB.out.cell (World.block_lt_of_cell? w _ hw141_0)).trans hw141_0), ((HB.out.cell (World.block_lt_of_cell? w _ hw141_1)).trans hw141_1), ((HB.out.cell (World.block_lt_of_cell? w _ hw141_2)).trans hw141_2)⟩ (fun hHeld => ?_)
              clear hK K
              refine norm_ (a' := ?_) ?_ ?_
              rotate_left
              · show Act.put _ (some 32) _ = _
                simp only [Act.put, List.setIfInBounds_toArray, List.set_cons_zero, List.set_cons_succ, i64_w, i32_w]
                rfl
              refine pure_ (i := 21) (N := some 3) (v := ?_) (a' := ?_) #[true, true, true, true, true, true, true, true, true, true, true, true, true, true, true, true, true, true, true, true, true, true] rfl rfl (any_of HT_.out (by kernel_rfl)) (fun _ _ _ h => h) (Or.inl ⟨by rfl, ?_⟩) ?_ ?_
              rotate_left
              · intro w'
                go_simp
                with_reducible rfl
              rotate_left
              · simp only [Act.put, List.setIfInBounds_toArray, List.set_cons_zero, List.set_cons_succ, i64_w, i32_w]
                rfl
              refine done_ (done_of HT_.out (by kernel_rfl)) ?_
              try go_wp2
              go_roundg k1
              case measure => have := HK1.out; omega
              case rel => exact ⟨(y142), (wrap64 (x4_1 + 1)), (by first | rfl | (simp; done) | (simp [*]; done)), H', ⟨by have := HK1.out; omega⟩, ⟨by (with_reducible repeat (first | apply Kd.S_alloc | apply Kd.S_drewN | apply Kd.S_drew)); exact HO144.out⟩, ⟨by repeat (first | (with_reducible first | exact HB.out | apply below_alloc | apply pw_below_drewN | apply below_drew1) | exact HB.out)⟩⟩
            · rw [if_neg c7] at H
              exact absurd H (by simp)
          · rw [if_neg c6] at H
            exact absurd H (by simp)
        · rw [if_neg c5] at H
          exact absurd H (by simp)
      · rw [if_neg c4] at H
        have c4b0 : decide (x4_1 < (l0.length : Int)) = false := decide_eq_false c4
        clear c4
        obtain rfl := Option.some.inj H
        go_wp2
        go_ret
        exact ⟨_, by first | rfl | (simp [errW_none, errW_some] <;> rfl) | (simp [*, errW_none, errW_some] <;> rfl), by (with_reducible repeat (first | apply Kd.S_alloc | apply Kd.S_drewN | apply Kd.S_drew)); exact HO_3.out, by repeat (first | (with_reducible first | exact HB.out | apply below_alloc | apply pw_below_drewN | apply below_drew1) | exact HB.out)⟩


end Go.Proofs.Ytnomebkdhjigjaa.Z
