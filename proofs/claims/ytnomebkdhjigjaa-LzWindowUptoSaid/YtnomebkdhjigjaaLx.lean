/- lz's walk at Parse's four functions: what it answers and the sequences behind it, as a plain function. -/
import Derived.Test.YtnomebkdhjigjaaLw
import Derived.Test.YtnomebkdhjigjaaAb
import Derived.Laws.BitsAllLaws
import Derived.Test.YtnomebkdhjigjaaAd
import Derived.Test.YtnomebkdhjigjaaAc
namespace Go.Proofs.Ytnomebkdhjigjaa.W
open Go.RowKit Go.Proofs.Ytnomebkdhjigjaa.Z Go.Proofs.YtnomebkdhjigjaaW.PrintWords Go.Proofs.YtnomebkdhjigjaaW.PrintLast Go.Proofs.YtnomebkdhjigjaaW.PrintMore
set_option linter.unusedVariables false
set_option linter.unusedSimpArgs false
/-- A block's sequences from a place on: the place, the error, the sequences. -/
def prs (b : List Int) : Nat → Nat → List S44 → Int × Int × List S44
  | 0, _, L => (0, 0, L)
  | f + 1, k, L =>
    if k = b.length then ((b.length : Int), 4, L) else
    if numE b (b.getD k 0 / 16) (k + 1) ≠ 0 then ((b.length : Int), 4, L) else
    if numS b (b.getD k 0 / 16) (k + 1) > (b.length : Int) - (moreK b (b.getD k 0 / 16) (k + 1) : Nat) then ((b.length : Int), 4, L) else
    prs2 b k (moreK b (b.getD k 0 / 16) (k + 1) + (numS b (b.getD k 0 / 16) (k + 1)).toNat) L ((b.take (moreK b (b.getD k 0 / 16) (k + 1) + (numS b (b.getD k 0 / 16) (k + 1)).toNat)).drop (moreK b (b.getD k 0 / 16) (k + 1))) (prs b f)
where
  prs2 (b : List Int) (k k2 : Nat) (L : List S44) (xs : List Int) (go : Nat → List S44 → Int × Int × List S44) : Int × Int × List S44 :=
    if k2 = b.length then (if b.getD k 0 % 16 ≠ 0 then ((k : Int), 31, L) else (0, 0, L ++ [⟨xs, 0, 0⟩])) else
    if (b.length : Int) - (k2 : Int) < 2 then ((b.length : Int), 4, L) else
    if b.getD k2 0 + b.getD (k2 + 1) 0 * 256 = 0 then ((k2 : Int), 30, L) else
    if numE b (b.getD k 0 % 16) (k2 + 2) ≠ 0 then ((b.length : Int), 4, L) else
    go (moreK b (b.getD k 0 % 16) (k2 + 2)) (L ++ [⟨xs, b.getD k2 0 + b.getD (k2 + 1) 0 * 256, numS b (b.getD k 0 % 16) (k2 + 2) + 4⟩])
theorem prd_keep {w0 w w' : World} {gl gr : Nat} {v : Value} {L : List (Value × S44)} {k : Int} {A : Option Addr} {n c : Nat} (h : QInv w0 w gl v L) (hr : IsRd w gr A n c k) (f : Fr w w' (fun i => i ≠ gl ∧ some i ≠ v.ownBlock)) : IsRd w' gr A n c k :=
  f.heap hr ⟨blk_ne hr (h.s.get 0 rfl) (by decide), own_ne h.row hr (by decide)⟩
theorem prd_keep' {w0 w w' : World} {gl gr : Nat} {v : Value} {L : List (Value × S44)} {k : Int} {A : Option Addr} {n c : Nat} (h : QInv w0 w gl v L) (hr : IsRd w gr A n c k) (f : Fr w w' (fun i => some i ≠ v.ownBlock)) : IsRd w' gr A n c k :=
  f.heap hr (own_ne h.row hr (by decide))
theorem prd_step {w0 w w' : World} {gl gr : Nat} {v : Value} {L : List (Value × S44)} {k : Int} {A : Option Addr} {n c : Nat} (h : QInv w0 w gl v L) (hr : IsRd w gr A n c k) (hg : w0.heap.size ≤ gr) (f : Fr w w' (fun i => i ≠ gr)) : QInv w0 w' gl v L :=
  h.other hr ⟨by decide, by decide, by decide⟩ hg f
set_option maxHeartbeats 8000000 in
set_option maxRecDepth 100000 in
theorem pwalk_calls (w0 : World) (gl : Nat) (A : Option Addr) (c : Nat) (b : List Int) (v : Value) (w : World) (h : QInv w0 w gl v []) (hr : ReadsInt w0 .u8 A b.length b) (hc : b.length ≤ c) (hb : Byt b) (hl : b.length ≤ 1099511627776) :
    Calls Try.prog 49 #[.slice A b.length c, .func (.func 50) #[] #[], .func (.func 51) #[] #[.pointer (some ⟨gl, 0, none⟩)], .func (.func 53) #[] #[.pointer (some ⟨gl, 0, none⟩)], .func (.func 54) #[] #[.pointer (some ⟨gl, 0, none⟩)]] w fun e w' =>
      e = .returned (.tuple #[.int .i64 (prs b (b.length + 1) 0 []).1, .int .i64 (prs b (b.length + 1) 0 []).2.1]) ∧ ∃ v' L', QInv w0 w' gl v' L' ∧ ((prs b (b.length + 1) 0 []).2.1 = 0 → L'.map (·.2) = (prs b (b.length + 1) 0 []).2.2) := by
  have HI0 := Aside0.mk (h.keepF (Fr.alloc (.cells #[.slice A b.length c, .int .i64 0] 125) _))
  have HR0 := Aside0.mk (show IsRd (w.alloc (.cells #[.slice A b.length c, .int .i64 0] 125)) w.heap.size A b.length c 0 from heap_alloc_new w _)
  have hgr : w0.heap.size ≤ w.heap.size := h.B.size
  have HA := Aside0.mk (rd_apart hr hgr)
  have HRB := Aside0.mk hr
  obtain ⟨gr, hg⟩ : ∃ gr, gr = w.heap.size := ⟨_, rfl⟩
  obtain ⟨R, hR⟩ : ∃ R, R = prs b (b.length + 1) 0 [] := ⟨_, rfl⟩
  have HRr := Aside0.mk hR
  rw [← hR]
  clear h hr hR
  go_enter Try.func49, Try.ntmps49
  go_upto_block 0 with fail
  rw [← hg] at HR0 HA hgr ⊢
  generalize w.alloc (.cells #[.slice A b.length c, .int .i64 0] 125) = w1 at HI0 HR0 ⊢
  clear hg
  go_wp2_with fail
  go_loopg [] (b.length + 1) (fun kq wc => ∃ (k : Nat) (L : List (Value × S44)) (v : Value), b.length < kq + k ∧ k ≤ b.length ∧ L.length ≤ k ∧ Aside0 (R = prs b kq k (L.map (·.2))) ∧ Aside0 (QInv w0 wc gl v L) ∧ Aside0 (IsRd wc gr A b.length c (k : Int)))
  case atStart => exact ⟨0, [], v, by omega, by omega, by simp, HRr, HI0, HR0⟩
  case round =>
    clear HI0 HR0 HRr
    obtain ⟨k, L, v, hk, hkl, hLk, HRr, HI, HR⟩ := hrel
    cases gk with
    | zero => omega
    | succ k1 =>
      have x0 : wr.cell? ⟨gr, 0, none⟩ = some (.slice A b.length c) := (HR.out.at 0 _ rfl).1
      have x1 : wr.cell? ⟨gr, 1, none⟩ = some (.int .i64 k) := (HR.out.at 1 _ rfl).1
      have z1 := blk_frozen HR.out 1
      by_cases c1 : k = b.length
      · have hR : R = ((b.length : Int), 4, L.map (·.2)) := by rw [HRr.out, prs, if_pos c1]
        have c1' : (k : Int) = (b.length : Int) := by omega
        go_wp2
        go_ret2
        rw [hR]
        first | exact ⟨rfl, v, L, HI.out, fun h => absurd h (show ¬ (4 : Int) = 0 by decide)⟩ | exact ⟨rfl, v, L, HI.out⟩
      · have hkb : k < b.length := by omega
        have c1' : ¬ ((k : Int) = (b.length : Int)) := by omega
        obtain ⟨ad, rfl, xk⟩ := cells_b HRB.out HI.out.B k hkb
        obtain ⟨t, ht⟩ : ∃ t, t = b.getD k 0 := ⟨_, rfl⟩
        have hb1 := hb k
        rw [← ht] at hb1 xk
        obtain ⟨t0, t1⟩ := hb1
        have HT := Aside0.mk ht
        have hlt : (k : Int) < (b.length : Int) := by omega
        have hk0 : (0 : Int) ≤ (k : Int) := by omega
        have HR2 := Aside0.mk (show IsRd (wr.setCell ⟨gr, 1, none⟩ (.int .i64 ((k : Int) + 1))) gr (some ad) b.length c ((k + 1 : Nat) : Int) by rw [show ((k + 1 : Nat) : Int) = (k : Int) + 1 by omega]; exact blk_set HR.out 1 _)
        have HI2 := Aside0.mk (prd_step HI.out HR.out hgr (Fr.set (w := wr) ⟨gr, 1, none⟩ (.int .i64 ((k : Int) + 1))))
        have hq0 : 0 ≤ t / 16 ∧ t / 16 ≤ 15 := by omega
        have HC1 := Aside0.mk (more_calls gr (some ad) c b (t / 16) (k + 1) _ HR2.out (HRB.out.below HI2.out.B) HA.out hb (by omega) (by omega) hq0.1 hq0.2)
        rw [moreV_eq] at HC1
        have hnf := num_facts (k := k + 1) hb hq0.1 hq0.2 (by omega)
        obtain ⟨n1, hn1⟩ : ∃ n, n = numS b (t / 16) (k + 1) := ⟨_, rfl⟩
        obtain ⟨E1, hE1⟩ : ∃ n, n = numE b (t / 16) (k + 1) := ⟨_, rfl⟩
        obtain ⟨K1, hK1⟩ : ∃ n, n = moreK b (t / 16) (k + 1) := ⟨_, rfl⟩
        rw [← hn1, ← hE1, ← hK1] at hnf
        rw [← hn1, ← hE1, ← hK1] at HC1
        have HV := Aside0.mk (And.intro hn1 (And.intro hE1 hK1))
        clear ht hn1 hE1 hK1 hq0
        go_upto_if 58 with (go_at_call 90; refine HC1.out.mono ?_; rintro e w2 ⟨rfl, hr2, hf2⟩; have HR3 := Aside0.mk hr2; have HI3 := Aside0.mk (prd_step HI2.out HR2.out hgr hf2); clear hr2 hf2)
        clear HC1 HI2 HR2 xk x0 x1 z1 HR
        rcases hnf with ⟨rfl, e2, e3⟩ | ⟨rfl, hk1a, hk1b, hn0, hnB⟩
        · have hR : R = ((b.length : Int), 4, L.map (·.2)) := by rw [HRr.out, prs, if_neg c1, ← HT.out, ← HV.out.2.1, if_pos (by decide)]
          go_wp2
          go_ret2
          rw [hR]
          first | exact ⟨rfl, v, L, HI3.out, fun h => absurd h (show ¬ (4 : Int) = 0 by decide)⟩ | exact ⟨rfl, v, L, HI3.out⟩
        · have x1 : w2.cell? ⟨gr, 1, none⟩ = some (.int .i64 K1) := (HR3.out.at 1 _ rfl).1
          have HC2 := Aside0.mk (prun_calls n1 K1 w2)
          go_upto_if 70 with (go_at_call 50; refine HC2.out.mono ?_; rintro e w3 ⟨rfl, e3⟩; subst w3)
          clear HC2
          have hKi : (K1 : Int) ≤ (b.length : Int) := by omega
          obtain ⟨m1, rfl⟩ := Int.eq_ofNat_of_zero_le hn0
          by_cases c4 : (m1 : Int) > (b.length : Int) - (K1 : Int)
          · have hR : R = ((b.length : Int), 4, L.map (·.2)) := by rw [HRr.out, prs, if_neg c1, ← HT.out, ← HV.out.2.1, if_neg (by decide), ← HV.out.1, ← HV.out.2.2, if_pos c4]
            go_wp2
            go_ret2
            rw [hR]
            first | exact ⟨rfl, v, L, HI3.out, fun h => absurd h (show ¬ (4 : Int) = 0 by decide)⟩ | exact ⟨rfl, v, L, HI3.out⟩
          · have hR2 : R = prs.prs2 b k (K1 + m1) (L.map (·.2)) ((b.take (K1 + m1)).drop K1) (prs b k1) := by rw [HRr.out, prs, if_neg c1, ← HT.out, ← HV.out.2.1, if_neg (by decide), ← HV.out.1, ← HV.out.2.2, if_neg c4]; rfl
            have HR2' := Aside0.mk hR2
            clear hR2
            obtain ⟨xs, hxs⟩ : ∃ xs, xs = (b.take (K1 + m1)).drop K1 := ⟨_, rfl⟩
            have hxl : xs.length = m1 := by rw [hxs, List.length_drop, List.length_take]; omega
            obtain ⟨i05, hi05, _, hsz5, _⟩ := info_parts info5
            obtain ⟨As, hcut, hAs, hAc⟩ := print_mid_int (P := Try.prog) (k := .u8) 22 5 Try.underlying22 hi05 hsz5 (some ad) c b (K1 : Int) ((K1 : Int) + (m1 : Int)) (by omega) (by omega) (by omega) hc
            rw [show ((K1 : Int) + (m1 : Int)).toNat = K1 + m1 by omega, Int.toNat_natCast, ← hxs] at hcut hAs hAc
            rw [hxl] at hcut
            have hcut' : ∀ W : World, (Instr.slice 22 (.slice (some ad) b.length c) (some (.int .i64 (K1 : Int))) (some (.int .i64 ((K1 : Int) + (m1 : Int)))) none).run Try.prog W = .ok (.slice As m1 (c - K1)) W := hcut
            have HXS := Aside0.mk hxs
            rw [← hxs] at HR2'
            have HRX := Aside0.mk (hAs _ (HRB.out.below HI3.out.B))
            clear hcut hAs hAc hi05 hsz5 hxs
            go_upto_region 15 with fail
            have x3 : w2.cell? ⟨gr, 1, none⟩ = some (.int .i64 K1) := x1
            refine QTail.wp_region_tail (C := fun w' => ∃ n, w' = w2.drewN n) 13 (by kernel_rfl) (by kernel_rfl) ⟨1, rfl⟩ ?_
            simp only [List.take_succ_cons, List.take_zero, List.drop_succ_cons, List.drop_zero]
            have hwr : IntKind.i64.wrap ((K1 : Int) + (m1 : Int)) = (K1 : Int) + (m1 : Int) := (i64_w _).trans (IntWalk.wrap64_in _ (by omega))
            repeat (quiet_step (fail))
            refine wpQuiet_nil ?_
            intro _ hw'
            obtain ⟨nq, hw''⟩ := hw'
            subst hw''
            clear hwr
            have HI5 := Aside0.mk (HI3.out.keepF (Fr.drewN nq _))
            have HR5 := Aside0.mk (show IsRd (w2.drewN nq) gr (some ad) b.length c K1 from HR3.out)
            have HC3 := Aside0.mk (pseen_calls w0 gl xs v L As (c - K1) _ HI5.out (show ReadsInt (w2.drewN nq) .u8 As xs.length xs from HRX.out) (by omega) (by omega))
            rw [hxl] at HC3
            have HXL := Aside0.mk hxl
            clear hxl hcut' x3 x1
            obtain ⟨k2, hk2⟩ : ∃ k2, k2 = K1 + m1 := ⟨_, rfl⟩
            rw [← hk2] at HR2'
            have hk2b : k2 ≤ b.length := by omega
            have hk2k : k < k2 := by omega
            have HK2 := Aside0.mk hk2
            clear hk2
            go_upto_region 16 with (go_at_call 51; refine HC3.out.mono ?_; rintro e w4 ⟨rfl, v2, rv2, hi4, hf4⟩; have HI6 := Aside0.mk hi4; have HR6 := Aside0.mk (prd_keep HI5.out HR5.out hf4); have x4 : w4.cell? ⟨gr, 1, none⟩ = some (.int .i64 K1) := ((prd_keep HI5.out HR5.out hf4).at 1 _ rfl).1; have z4 := blk_frozen (prd_keep HI5.out HR5.out hf4) 1; clear hi4 hf4)
            clear HC3 HI5 HR5 HI3 HR3 HRX
            have HR7 := Aside0.mk (show IsRd (w4.setCell ⟨gr, 1, none⟩ (.int .i64 ((K1 : Int) + (m1 : Int)))) gr (some ad) b.length c (k2 : Int) by rw [show (K1 : Int) + (m1 : Int) = (k2 : Int) by have := HK2.out; omega]; exact blk_set HR6.out 1 _)
            have HI7 := Aside0.mk (prd_step HI6.out HR6.out hgr (Fr.set (w := w4) ⟨gr, 1, none⟩ (.int .i64 ((K1 : Int) + (m1 : Int)))))
            go_upto_region 17 with fail
            generalize w4.setCell ⟨gr, 1, none⟩ (.int .i64 ((K1 : Int) + (m1 : Int))) = w5 at HR7 HI7 ⊢
            have x5 : w5.cell? ⟨gr, 1, none⟩ = some (.int .i64 k2) := (HR7.out.at 1 _ rfl).1
            have z5 := blk_frozen HR7.out 1
            clear HR6 HI6 x4 z4
            have hand := and15 t t0 t1
            by_cases c5 : k2 = b.length
            · have c5' : (k2 : Int) = (b.length : Int) := by omega
              by_cases c6 : t % 16 = 0
              · have hR : R = (0, 0, L.map (·.2) ++ [⟨xs, 0, 0⟩]) := by rw [HR2'.out, prs.prs2, if_pos c5, ← HT.out, if_neg (by omega)]
                go_wp2
                go_ret2
                rw [hR]
                exact ⟨rfl, v2, _, HI7.out, fun _ => by simp⟩
              · have hR : R = ((k : Int), 31, L.map (·.2)) := by rw [HR2'.out, prs.prs2, if_pos c5, ← HT.out, if_pos c6]
                go_wp2
                go_ret2
                rw [hR]
                first | exact ⟨rfl, v2, _, HI7.out, fun h => absurd h (show ¬ (31 : Int) = 0 by decide)⟩ | exact ⟨rfl, v2, _, HI7.out⟩
            · have c5' : ¬ (k2 : Int) = (b.length : Int) := by omega
              by_cases c7 : (b.length : Int) - (k2 : Int) < 2
              · have hR : R = ((b.length : Int), 4, L.map (·.2)) := by rw [HR2'.out, prs.prs2, if_neg c5, if_pos c7]
                go_wp2
                go_ret2
                rw [hR]
                first | exact ⟨rfl, v2, _, HI7.out, fun h => absurd h (show ¬ (4 : Int) = 0 by decide)⟩ | exact ⟨rfl, v2, _, HI7.out⟩
              · obtain ⟨ad', e', xa⟩ := cells_b HRB.out HI7.out.B k2 (by omega)
                cases e'
                obtain ⟨ad', e', xb⟩ := cells_b HRB.out HI7.out.B (k2 + 1) (by omega)
                cases e'
                obtain ⟨y0, hy0⟩ : ∃ y, y = b.getD k2 0 := ⟨_, rfl⟩
                obtain ⟨y1, hy1⟩ : ∃ y, y = b.getD (k2 + 1) 0 := ⟨_, rfl⟩
                have hb2 := hb k2
                have hb3 := hb (k2 + 1)
                rw [← hy0] at hb2 xa
                rw [← hy1] at hb3 xb
                have HY := Aside0.mk (And.intro hy0 hy1)
                clear hy0 hy1
                obtain ⟨y00, y01⟩ := hb2
                obtain ⟨y10, y11⟩ := hb3
                have q1 : (0 : Int) ≤ (k2 : Int) := by omega
                have q2 : (k2 : Int) + 1 < (b.length : Int) := by omega
                have q3 : (k2 : Int) < (b.length : Int) := by omega
                have q4 : (0 : Int) ≤ (k2 : Int) + 1 := by omega
                rw [add_pos ad (k2 + 1) (by omega)] at xb
                have c7' : ¬ ((b.length : Int) - (k2 : Int) < 2) := by omega
                have HC7 := Aside0.mk c7'
                clear c7'
                go_upto_region 24 with fail
                have hw1 : IntKind.i64.wrap ((k2 : Int) + 1) = (k2 : Int) + 1 := (i64_w _).trans (IntWalk.wrap64_in _ (by omega))
                have hw2 : IntKind.i64.wrap (y1 * 256) = y1 * 256 := (i64_w _).trans (IntWalk.wrap64_in _ (by clear hw1; omega))
                have hw3 : IntKind.i64.wrap (y0 + y1 * 256) = y0 + y1 * 256 := (i64_w _).trans (IntWalk.wrap64_in _ (by clear hw1 hw2; omega))
                go_quiet (fail)
                clear hw1 hw2 hw3
                have HI8 := Aside0.mk (HI7.out.keepF (Fr.drewN nq _))
                have HR8 := Aside0.mk (show IsRd (w5.drewN nq) gr (some ad) b.length c k2 from HR7.out)
                have x8 : (w5.drewN nq).cell? ⟨gr, 1, none⟩ = some (.int .i64 k2) := x5
                have z8 : (w5.drewN nq).frozen? ⟨gr, 1, none⟩ = false := z5
                generalize w5.drewN nq = w8 at HI8 HR8 x8 z8 ⊢
                have HR9 := Aside0.mk (show IsRd (w8.setCell ⟨gr, 1, none⟩ (.int .i64 ((k2 : Int) + 2))) gr (some ad) b.length c ((k2 + 2 : Nat) : Int) by rw [show ((k2 + 2 : Nat) : Int) = (k2 : Int) + 2 by omega]; exact blk_set HR8.out 1 _)
                have HI9 := Aside0.mk (prd_step HI8.out HR8.out hgr (Fr.set (w := w8) ⟨gr, 1, none⟩ (.int .i64 ((k2 : Int) + 2))))
                clear x5 z5 HI7 HR7 xa xb
                have hbk0 : 0 ≤ y0 + y1 * 256 := by omega
                go_upto_region 26 with fail
                generalize w8.setCell ⟨gr, 1, none⟩ (.int .i64 ((k2 : Int) + 2)) = w9 at HI9 HR9 ⊢
                clear HI8 HR8 x8 z8
                obtain ⟨bk, hbk⟩ := Int.eq_ofNat_of_zero_le hbk0
                have HBK := Aside0.mk hbk
                generalize y0 + y1 * 256 = back at hbk ⊢
                subst hbk
                clear hbk0
                by_cases c8 : (bk : Int) = 0
                · have hR : R = ((k2 : Int), 30, L.map (·.2)) := by rw [HR2'.out, prs.prs2, if_neg c5, if_neg (show ¬ ((b.length : Int) - (k2 : Int) < 2) by have := HC7.out; omega), ← HY.out.1, ← HY.out.2, HBK.out, if_pos c8]
                  go_wp2
                  go_ret2
                  try rw [hR]
                  first | exact ⟨rfl, v2, _, HI9.out, fun h => absurd h (show ¬ (30 : Int) = 0 by decide)⟩ | exact ⟨rfl, v2, _, HI9.out⟩
                · have HC4 := Aside0.mk (pmatch_calls w0 gl v2 L (rv2, ⟨xs, 0, 0⟩) bk k2 w9 HI9.out (by omega))
                  go_upto_if 159 with (go_at_call 53; refine HC4.out.mono ?_; rintro e w10 ⟨rfl, hi10, hf10⟩; have HI10 := Aside0.mk hi10; have HR10 := Aside0.mk (prd_keep' HI9.out HR9.out hf10); clear hi10 hf10)
                  clear HC4 HI9 HR9
                  have hq1 : 0 ≤ t % 16 ∧ t % 16 ≤ 15 := by omega
                  have HC5 := Aside0.mk (more_calls gr (some ad) c b (t % 16) (k2 + 2) _ HR10.out (HRB.out.below HI10.out.B) HA.out hb (by omega) (by omega) hq1.1 hq1.2)
                  rw [moreV_eq] at HC5
                  have hnf := num_facts (k := k2 + 2) hb hq1.1 hq1.2 (by omega)
                  obtain ⟨n2, hn2⟩ : ∃ n, n = numS b (t % 16) (k2 + 2) := ⟨_, rfl⟩
                  obtain ⟨E4, hE4⟩ : ∃ n, n = numE b (t % 16) (k2 + 2) := ⟨_, rfl⟩
                  obtain ⟨K2, hK2⟩ : ∃ n, n = moreK b (t % 16) (k2 + 2) := ⟨_, rfl⟩
                  rw [← hn2, ← hE4, ← hK2] at hnf
                  rw [← hn2, ← hE4, ← hK2] at HC5
                  have HV2 := Aside0.mk (And.intro hn2 (And.intro hE4 hK2))
                  clear hn2 hE4 hK2
                  obtain ⟨t15, ht15⟩ : ∃ q, q = t % 16 := ⟨_, rfl⟩
                  rw [← ht15] at hand HC5 hq1
                  have HT15 := Aside0.mk ht15
                  clear ht15
                  go_upto_if 171 with (go_at_call 90; refine HC5.out.mono ?_; rintro e w11 ⟨rfl, hr11, hf11⟩; have HR11 := Aside0.mk hr11; have HI11 := Aside0.mk (prd_step HI10.out HR10.out hgr hf11); clear hr11 hf11)
                  clear HC5 HI10 HR10
                  have hRR : R = if E4 ≠ 0 then ((b.length : Int), 4, L.map (·.2)) else prs b k1 K2 (L.map (·.2) ++ [⟨xs, (bk : Int), n2 + 4⟩]) := by
                    rw [HR2'.out, prs.prs2, if_neg c5, if_neg (show ¬ ((b.length : Int) - (k2 : Int) < 2) by have := HC7.out; omega), ← HY.out.1, ← HY.out.2, HBK.out, if_neg c8, ← HT.out, HV2.out.1, HV2.out.2.1, HV2.out.2.2]
                  have HRR := Aside0.mk hRR
                  clear hRR
                  rcases hnf with ⟨rfl, e2, e3⟩ | ⟨rfl, hk2a, hk2c, hn0', hnB'⟩
                  · have hR : R = ((b.length : Int), 4, L.map (·.2)) := by rw [HRR.out, if_pos (by decide)]
                    go_wp2
                    go_ret2
                    try rw [hR]
                    first | exact ⟨rfl, v2, _, HI11.out, fun h => absurd h (show ¬ (4 : Int) = 0 by decide)⟩ | exact ⟨rfl, v2, _, HI11.out⟩
                  · have hn24 : 0 ≤ n2 + 4 := by omega
                    have HC6 := Aside0.mk (plength_calls w0 gl v2 L (rv2, ⟨xs, (bk : Int), 0⟩) (n2 + 4) k2 w11 HI11.out (by omega))
                    have hR : R = prs b k1 K2 (L.map (·.2) ++ [⟨xs, (bk : Int), n2 + 4⟩]) := by rw [HRR.out, if_neg (by decide)]
                    have HRf := Aside0.mk (show R = prs b k1 K2 ((L ++ [(rv2, (⟨xs, (bk : Int), n2 + 4⟩ : S44))]).map (·.2)) by rw [hR]; simp)
                    clear hR
                    have hLn : (L ++ [(rv2, (⟨xs, (bk : Int), n2 + 4⟩ : S44))]).length ≤ K2 := by simp; omega
                    have HLn := Aside0.mk hLn
                    clear hLn
                    go_wp2_with (go_at_call 54; refine HC6.out.mono ?_; rintro e w12 ⟨rfl, hi12, hf12⟩; have HI12 := Aside0.mk hi12; have HR12 := Aside0.mk (prd_keep' HI11.out HR11.out hf12); clear hi12 hf12)
                    go_roundg k1
                    case measure => omega
                    case rel => exact ⟨K2, _, v2, by omega, hk2c, HLn.out, HRf, HI12, HR12⟩
end Go.Proofs.Ytnomebkdhjigjaa.W
