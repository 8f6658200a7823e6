/- XxhPieces: in whatever pieces bytes come, and however often the sum is asked between, it is that of all at once: the walk. Conditions: all the bytes together fewer than 2^40. -/
import Derived.Test.YtnkcbkfccbfjpaaKb
namespace Go.Proofs.Ytnkcbkfccbfjpaa.XxhW
open Go.RowKit Go.Proofs.YtnkcbkfccbfjpaaW.PrintWords Go.Proofs.YtnkcbkfccbfjpaaW.PrintLast Go.Proofs.YtnkcbkfccbfjpaaW.PrintMore
set_option linter.unusedVariables false
set_option linter.unusedSimpArgs false
/-- The pieces as they lie at the call. -/
def Pcs (w : World) (A : Option Addr) (pl : List (List Int)) : Prop := ∀ i, i < pl.length → ∃ ad R c, A = some ad ∧ w.cell? (ad.add i) = some (.slice R (pl.getD i []).length c) ∧ ReadsInt w .u8 R (pl.getD i []).length (pl.getD i []) ∧ Bytes (pl.getD i [])
/-- What is asked between. -/
def Asks (w : World) (A : Option Addr) (m : Nat) : Prop := ∀ i, i < m → ∃ ad q, A = some ad ∧ w.cell? (ad.add i) = some (.bool q)
theorem take_flat (pl : List (List Int)) (i : Nat) (hi : i < pl.length) : (pl.take (i + 1)).flatten = (pl.take i).flatten ++ pl.getD i [] := by
  rw [List.take_add_one, List.flatten_append, List.getD_eq_getElem?_getD, List.getElem?_eq_getElem hi]
  simp
theorem take_flat_le (pl : List (List Int)) (i : Nat) : (pl.take i).flatten.length ≤ pl.flatten.length := by
  have h : pl.flatten = (pl.take i).flatten ++ (pl.drop i).flatten := by rw [← List.flatten_append, List.take_append_drop]
  rw [h, List.length_append]
  omega
theorem bytes_app {l b : List Int} (h : Bytes l) (h' : Bytes b) : Bytes (l ++ b) := fun i => by
  have e : X.at' (l ++ b) i = if i < l.length then X.at' l i else X.at' b (i - l.length) := by
    simp only [X.at', List.getD_eq_getElem?_getD]
    by_cases c : i < l.length
    · rw [if_pos c, List.getElem?_append_left c]
    · rw [if_neg c, List.getElem?_append_right (by omega)]
  rw [e]
  split
  · exact h _
  · exact h' _
theorem bytes_take_flat (pl : List (List Int)) (hb : ∀ i, i < pl.length → Bytes (pl.getD i [])) : ∀ i, i ≤ pl.length → Bytes (pl.take i).flatten := by
  intro i
  induction i with
  | zero => intro _ j; simp [X.at']
  | succ i ih => intro hi; rw [take_flat pl i (by omega)]; exact bytes_app (ih (by omega)) (hb i (by omega))
theorem own_empty (w : World) : (w.alloc (.cells #[] 5)).ownsRow w.heap.size 5 1 (.slice (some ⟨w.heap.size, 0, none⟩) ([] : List Int).length 0) ([] : List Int).length (nums .u8 []) :=
  ⟨by simp [nums], .inr ⟨w.heap.size, 0, #[], rfl, Nat.le_refl _, heap_alloc_new w (.cells #[] 5), by simp, by simp, by simp, by simp [nums]⟩⟩
set_option maxHeartbeats 8000000 in
set_option maxRecDepth 100000 in
theorem pieces_walk (s : Int) (A1 : Option Addr) (c1 : Nat) (pl : List (List Int)) (A2 : Option Addr) (m c2 : Nat) (w : World) (hs : W64 s) (hp : Pcs w A1 pl) (hq : Asks w A2 m) (hl : pl.flatten.length ≤ 1099511627776) (hn : pl.length ≤ 1099511627776) (hm : m ≤ 1099511627776) :
    Calls Try.prog 8 #[.int .u64 s, .slice A1 pl.length c1, .slice A2 m c2] w fun e w' => e = .returned (.bool true) ∧ Below w.heap.size w w' := by
  have HS := Aside0.mk hs
  have HP := Aside0.mk hp
  have HQ := Aside0.mk hq
  have HL := Aside0.mk hl
  have HPB := Aside0.mk (bytes_take_flat pl (fun i hi => by obtain ⟨ad, R, c, _, _, _, h⟩ := hp i hi; exact h))
  obtain ⟨s32, hs32⟩ : ∃ z, z = s % 4294967296 := ⟨_, rfl⟩
  have HS32 := Aside0.mk (show W32 s32 by rw [hs32]; exact w32_mod s)
  have HE32 := Aside0.mk hs32
  have HB0 := Aside0.mk (Below.refl w.heap.size w)
  clear hs hp hq hl hs32
  go_enter Try.func8, Try.ntmps8
  go_wp2_with (first | (go_at_call 25; (with_reducible refine (XxhP.lives_calls _).mono ?_); rintro e w1 ⟨rfl, hb⟩; have HB1 := Aside0.mk hb; clear hb) | (go_at_call 26; rw [← HE32.out]; refine (New32_calls s32 _ HS32.out).mono ?_; rintro e w2 ⟨rfl, hd, hb⟩; have HD2 := Aside0.mk hd; have HB2 := Aside0.mk hb; clear hd hb) | (go_at_call 27; refine (New64_calls s _ HS.out).mono ?_; rintro e w3 ⟨rfl, hd, hb⟩; have HD3 := Aside0.mk hd; have HB3 := Aside0.mk hb; clear hd hb))
  go_loopg [9, 10] pl.length (fun kq v9 v10 wc => ∃ (i : Nat) (r1 r2 : Value), kq + i = pl.length ∧ v10 = .int .i64 i ∧ Aside0 (PInv w wc w1.heap.size w2.heap.size r1 r2 s32 s (pl.take i).flatten (pl.take i).flatten (pl.take i).flatten v9))
  case atStart =>
    have b12 := (Fr.of_below HB1.out (fun _ => True)).size
    have b23 := (Fr.of_below HB2.out (fun _ => True)).size
    refine ⟨0, .slice none 0 0, .slice none 0 0, by omega, rfl, ⟨?_⟩⟩
    have f3 : Fr w2 w3 (fun _ => True) := Fr.of_below HB3.out _
    exact ⟨below_step (below_step HB1.out HB2.out) HB3.out, b12, Nat.le_trans b12 b23, (HD2.out.fr f3 trivial (fun _ _ => trivial)).lower b12, HD3.out.lower (Nat.le_trans b12 b23), own_nil _ _ _ _, (fun k h => by cases h), (fun k h => by cases h), (fun k h => by cases h)⟩
  case round =>
    clear HB1 HD2 HB2 HD3 HB3 HB0
    obtain ⟨i, r1, r2, hk, rfl, HI⟩ := hrel
    obtain ⟨l, el⟩ : ∃ l, l = (pl.take i).flatten := ⟨_, rfl⟩
    rw [← el] at HI
    have Hel := Aside0.mk el
    have HLl := Aside0.mk (show l.length ≤ 1099511627776 by rw [el]; exact Nat.le_trans (take_flat_le pl i) HL.out)
    have HLb := Aside0.mk (show Bytes l by rw [el]; exact HPB.out i (by omega))
    clear el
    obtain ⟨A9, c9, rfl, hw9⟩ := own_waits (g := 0) HI.out.d3
    have HW9 := Aside0.mk hw9
    clear hw9
    cases gk with
    | zero =>
      have hi : i = pl.length := by omega
      subst hi
      rw [List.take_length] at Hel
      have hge : ¬ ((pl.length : Int) < (pl.length : Int)) := by omega
      have e8 : l.length ≤ 140737488355327 := Nat.le_trans HLl.out (by decide)
      go_wp2_with (first | (go_at_call 30; refine (Sum32d_calls l w1.heap.size w.heap.size r1 s32 wr HLb.out HS32.out HI.out.d1 e8).mono ?_; rintro e w9 ⟨rfl, m9, rfl⟩; have HI9 := Aside0.mk (HI.out.keep (pw_below_drewN (Below.refl _ _) m9))) | (go_at_call 21; rw [← HE32.out]; refine (Sum32_calls A9 c9 l s32 _ (HW9.out.1.below (pw_below_drewN (Below.refl _ _) m9)) HLb.out HS32.out e8).mono ?_; rintro e w10 ⟨rfl, hb10⟩; have HI10 := Aside0.mk (HI9.out.keep hb10); have HW10 := Aside0.mk ((HW9.out.1.below (pw_below_drewN (Below.refl _ _) m9)).below hb10); clear hb10) | (go_at_call 31; refine (Sum64d_calls l w2.heap.size w.heap.size r2 s w10 HLb.out HS.out HI10.out.d2 e8).mono ?_; rintro e w11 ⟨rfl, m11, rfl⟩; have HI11 := Aside0.mk (HI10.out.keep (pw_below_drewN (Below.refl _ _) m11))) | (go_at_call 22; refine (Sum64_calls A9 c9 l s _ (HW10.out.below (pw_below_drewN (Below.refl _ _) m11)) HLb.out HS.out e8).mono ?_; rintro e w12 ⟨rfl, hb12⟩; have HI12 := Aside0.mk (HI11.out.keep hb12); clear hb12) | (go_at_call 32; refine (Len32_calls l w1.heap.size w.heap.size r1 s32 w12 HI12.out.d1).mono ?_; rintro e w13 ⟨rfl, e13⟩; subst e13) | (go_at_call 33; refine (Len64_calls l w2.heap.size w.heap.size r2 s _ HI12.out.d2).mono ?_; rintro e w14 ⟨rfl, e14⟩; subst e14))
      go_ret
      exact ⟨rfl, HI12.out.B⟩
    | succ k1 =>
      obtain ⟨ad, R, c, rfl, hcell, hreads, hbytes⟩ := HP.out i (by omega)
      obtain ⟨b, eb⟩ : ∃ b, b = pl.getD i [] := ⟨_, rfl⟩
      rw [← eb] at hcell hreads hbytes
      have HRD := Aside0.mk hreads
      have HBY := Aside0.mk hbytes
      have HEB := Aside0.mk eb
      have HCE := Aside0.mk hcell
      clear hreads hbytes eb hcell
      have hlt : (i : Int) < (pl.length : Int) := by omega
      have hi0 : (0 : Int) ≤ (i : Int) := by omega
      have HLb2 := Aside0.mk (bytes_app HLb.out HBY.out)
      have hln : l.length + b.length ≤ 1099511627776 := by
        have h := take_flat_le pl (i + 1)
        rw [take_flat pl i (by omega), ← Hel.out, ← HEB.out, List.length_append] at h
        exact Nat.le_trans h HL.out
      have x10 : (wr.alloc (.cells #[] 5)).cell? (ad.add i) = some (.slice R b.length c) := pw_cell_below (below_alloc HI.out.B _) HCE.out
      have HO10 := Aside0.mk (own_empty wr)
      have HR10 := Aside0.mk (HRD.out.below (below_alloc HI.out.B (.cells #[] 5)))
      go_upto_region 13 with (first | (at_builtin; refine print_append_row (w0 := wr) wr.heap.size rfl (.tmp 31) (.tmp 35) 22 5 .u8 1 rfl Try.underlying22 info5 (by decide) _ [] b R b.length c rfl rfl HO10.out HR10.out (below_alloc (Below.refl _ _) _) (below_alloc (Below.refl _ _) _).size (by simp; omega) ?_; intro v4 w4 hO hB hG hA; obtain ⟨A4, c4, rfl, hw4⟩ := own_waits (g := 0) hO; have HW4 := Aside0.mk hw4; have HI4 := Aside0.mk (HI.out.keep hB); clear hO hB hG hA hw4) | (go_at_call 28; refine (Write32_calls A4 c4 b l w1.heap.size w.heap.size r1 s32 w4 HW4.out.1 HLb2.out HI4.out.d1 HI4.out.B.size (by omega)).mono ?_; rintro e w5 ⟨rfl, r1', hd5, hf5⟩; have HI5 := Aside0.mk (HI4.out.upd1 hd5 hf5); clear hd5 hf5; have x11 : (w5.alloc (.cells #[] 5)).cell? (ad.add i) = some (.slice R b.length c) := pw_cell_below (below_alloc HI5.out.B _) HCE.out; have HO11 := Aside0.mk (own_empty w5); have HR11 := Aside0.mk (HRD.out.below (below_alloc HI5.out.B (.cells #[] 5)))) | (at_builtin; refine print_append_row (w0 := w5) w5.heap.size rfl (.tmp 39) (.tmp 43) 22 5 .u8 1 rfl Try.underlying22 info5 (by decide) _ [] b R b.length c rfl rfl HO11.out HR11.out (below_alloc (Below.refl _ _) _) (below_alloc (Below.refl _ _) _).size (by simp; omega) ?_; intro v6 w6 hO hB hG hA; obtain ⟨A6, c6, rfl, hw6⟩ := own_waits (g := 0) hO; have HW6 := Aside0.mk hw6; have HI6 := Aside0.mk (HI5.out.keep hB); clear hO hB hG hA hw6) | (go_at_call 29; refine (Write64_calls A6 c6 b l w2.heap.size w.heap.size r2 s w6 HW6.out.1 HLb2.out HI6.out.d2 HI6.out.B.size (by omega)).mono ?_; rintro e w7 ⟨rfl, r2', hd7, hf7⟩; have HI7 := Aside0.mk (HI6.out.upd2 hd7 hf7); clear hd7 hf7; have x12 : w7.cell? (ad.add i) = some (.slice R b.length c) := pw_cell_below HI7.out.B HCE.out; have HR12 := Aside0.mk (HRD.out.below HI7.out.B)) | (at_builtin; refine print_append_row (w0 := w) w.heap.size rfl (.tmp 46) (.tmp 50) 22 5 .u8 1 rfl Try.underlying22 info5 (by decide) _ l b R b.length c rfl rfl HI7.out.d3 HR12.out HI7.out.B HI7.out.B.size (by omega) ?_; intro v8 w8 hO hB hG hA; have HI8 := Aside0.mk (HI7.out.upd3 hO hB hG hA); clear hO hB hG hA))
      have e8 : (l ++ b).length ≤ 140737488355327 := by rw [List.length_append]; omega
      have HX := Aside0.mk (show (pl.take (i + 1)).flatten = l ++ b by rw [take_flat pl i (by omega), ← Hel.out, ← HEB.out])
      obtain ⟨L, eL⟩ : ∃ L, L = l ++ b := ⟨_, rfl⟩
      rw [← eL] at HX e8 HI8 HLb2
      clear eL
      obtain ⟨A8, c8, rfl, hw8⟩ := own_waits (g := 0) HI8.out.d3
      have HW8 := Aside0.mk hw8
      clear hw8
      have hq3 : (¬ (i : Int) < (m : Int)) ∨ ∃ ad2 q, (i : Int) < (m : Int) ∧ A2 = some ad2 ∧ w.cell? (ad2.add i) = some (.bool q) := by
        by_cases c : i < m
        · obtain ⟨ad2, q, e1, e2⟩ := HQ.out i c
          exact .inr ⟨ad2, q, by omega, e1, e2⟩
        · exact .inl (by omega)
      rcases hq3 with hq3 | ⟨ad2, q, hq3, rfl, hq4⟩
      · go_wp2
        go_roundg k1
        case measure => omega
        case rel => exact ⟨i + 1, r1', r2', by omega, by simp, ⟨by rw [HX.out]; exact HI8.out⟩⟩
      · have x13 : w8.cell? (ad2.add i) = some (.bool q) := pw_cell_below HI8.out.B hq4
        cases q with
        | false =>
          go_wp2
          go_roundg k1
          case measure => omega
          case rel => exact ⟨i + 1, r1', r2', by omega, by simp, ⟨by rw [HX.out]; exact HI8.out⟩⟩
        | true =>
          go_wp2_with (first | (go_at_call 30; refine (Sum32d_calls L w1.heap.size w.heap.size r1' s32 w8 HLb2.out HS32.out HI8.out.d1 e8).mono ?_; rintro e w9 ⟨rfl, m9, rfl⟩; have HI9 := Aside0.mk (HI8.out.keep (pw_below_drewN (Below.refl _ _) m9))) | (go_at_call 21; rw [← HE32.out]; refine (Sum32_calls A8 c8 L s32 _ (HW8.out.1.below (pw_below_drewN (Below.refl _ _) m9)) HLb2.out HS32.out e8).mono ?_; rintro e w10 ⟨rfl, hb10⟩; have HI10 := Aside0.mk (HI9.out.keep hb10); have HW10 := Aside0.mk ((HW8.out.1.below (pw_below_drewN (Below.refl _ _) m9)).below hb10); clear hb10) | (go_at_call 31; refine (Sum64d_calls L w2.heap.size w.heap.size r2' s w10 HLb2.out HS.out HI10.out.d2 e8).mono ?_; rintro e w11 ⟨rfl, m11, rfl⟩; have HI11 := Aside0.mk (HI10.out.keep (pw_below_drewN (Below.refl _ _) m11))) | (go_at_call 22; refine (Sum64_calls A8 c8 L s _ (HW10.out.below (pw_below_drewN (Below.refl _ _) m11)) HLb2.out HS.out e8).mono ?_; rintro e w12 ⟨rfl, hb12⟩; have HI12 := Aside0.mk (HI11.out.keep hb12); clear hb12))
          go_roundg k1
          case measure => omega
          case rel => exact ⟨i + 1, r1', r2', by omega, by simp, ⟨by rw [HX.out]; exact HI12.out⟩⟩
end Go.Proofs.Ytnkcbkfccbfjpaa.XxhW
