/- Contract of the document's Parse: the same plain function as lz.Parse, in memory of its own. -/
import Derived.Test.YtnomebkdhjigjaaLy
import Derived.Test.YtnomebkdhjigjaaLj
namespace Go.Proofs.Ytnomebkdhjigjaa.W
open Go.RowKit Go.Proofs.Ytnomebkdhjigjaa.Z Go.Proofs.YtnomebkdhjigjaaW.PrintWords Go.Proofs.YtnomebkdhjigjaaW.PrintLast Go.Proofs.YtnomebkdhjigjaaW.PrintMore
set_option linter.unusedVariables false
set_option linter.unusedSimpArgs false
/-- One sequence more. -/
theorem seq_app {w0 w w3 w5 : World} {B : Nat} {v v5 rv : Value} {p : S44} {L : List (Value × S44)} (h : Sep w0 w (SeqL B v L)) (hB : B = w0.heap.size) (b : Below w.heap.size w w3) (ho : w3.ownsRow w.heap.size 5 1 rv p.f0.length (nums .u8 p.f0))
    (hO : w5.ownsRow w0.heap.size 44 3 v5 (L.length + 1) (cells3 L ++ [rv, .int .i64 p.f1, .int .i64 p.f2])) (hG : w3.grownBy w5 v.ownBlock) (hA : v5.ownBlock = v.ownBlock ∨ ∃ b, v5.ownBlock = some b ∧ w3.heap.size ≤ b) :
    Sep w0 w5 (SeqL B v5 (L ++ [(rv, p)])) := by
  subst hB
  have s1 := h.push b (Res.row w0.heap.size 5 1 p.f0.length rv (nums .u8 p.f0)) (own_lower ho h.B.size) (fun i hi => (own_ge ho i hi).1)
  have s2 := s1.upd 1 (Res.row w0.heap.size 44 3 L.length v (cells3 L)) (Res.row w0.heap.size 44 3 (L.length + 1) v5 (cells3 L ++ [rv, .int .i64 p.f1, .int .i64 p.f2])) rfl hO (Fr.of_grown hG) (fun i hi => by
    have hi : some i = v5.ownBlock := hi
    rcases hA with e | ⟨q, e, hq⟩
    · exact .inl (show some i = v.ownBlock by rw [← e]; exact hi)
    · rw [e] at hi
      injection hi with hi
      subst hi
      exact .inr hq)
  have e : SeqL w0.heap.size v5 (L ++ [(rv, p)]) = (Res.row w0.heap.size 44 3 (L.length + 1) v5 (cells3 L ++ [rv, .int .i64 p.f1, .int .i64 p.f2]) :: (L.map (innerR w0.heap.size))) ++ [Res.row w0.heap.size 5 1 p.f0.length rv (nums .u8 p.f0)] := by
    unfold SeqL
    rw [cells3_app, List.map_append, List.length_append]
    rfl
  rw [e]
  exact s2.perm (List.perm_append_comm (l₁ := [Res.row w0.heap.size 5 1 p.f0.length rv (nums .u8 p.f0)]))
theorem own_empty' (w : World) (e : TypeId) (z : Nat) : (w.alloc (.cells #[] e)).ownsRow w.heap.size e z (.slice (some ⟨w.heap.size, 0, none⟩) 0 0) 0 [] :=
  ⟨by simp, .inr ⟨w.heap.size, 0, #[], rfl, Nat.le_refl _, heap_alloc_new w (.cells #[] e), by simp, by simp, by simp, by simp⟩⟩
set_option maxHeartbeats 8000000 in
set_option maxRecDepth 100000 in
theorem refParse_calls (A : Option Addr) (c : Nat) (b : List Int) (w : World) (hr : ReadsInt w .u8 A b.length b) (hc : b.length ≤ c) (hb : Byt b) (hl : b.length ≤ 1099511627776) :
    Calls Try.prog 22 #[.slice A b.length c] w fun e w' => ∃ v L, e = .returned (.tuple #[v, .int .i64 (parse b).2.1, .int .i64 (parse b).2.2]) ∧ L.map (·.2) = (parse b).1 ∧ Sep w w' (SeqL w.heap.size v L) := by
  obtain ⟨R, hR⟩ : ∃ R, R = prs b (b.length + 1) 0 [] := ⟨_, rfl⟩
  obtain ⟨D, hD⟩ : ∃ D, D = parse b := ⟨_, rfl⟩
  have e1 : D = if R.2.1 ≠ 0 then ([], R.1, R.2.1) else (R.2.2, 0, 0) := by rw [hD, hR]; rfl
  rw [← hD]
  have HRB := Aside0.mk hr
  have HRR := Aside0.mk hR
  have HE := Aside0.mk e1
  have HB := Aside0.mk hb
  have HI0 := Aside0.mk (show Sep w (w.alloc (.cells #[] 44)) (SeqL w.heap.size (.slice (some ⟨w.heap.size, 0, none⟩) 0 0) []) from
    (Sep.nil w).push (below_alloc (Below.refl _ _) _) _ (own_empty' w 44 3) (fun i hi => by have : some i = some w.heap.size := hi; injection this with this; omega))
  have hnil : Sep w w (SeqL w.heap.size (.slice none 0 0) []) := (Sep.nil w).push (Below.refl _ _) _ (own_nil _ _ _ _) (fun i hi => by cases hi)
  have HNil := Aside0.mk (show ∀ W, Below w.heap.size w W → Sep w W (SeqL w.heap.size (.slice none 0 0) []) from fun W hW => hnil.keep hW)
  clear hr hR hD e1 hb hnil
  go_enter Try.func22, Try.ntmps22
  go_upto_region 2 with fail
  generalize hw1 : w.alloc (.cells #[] 44) = w1 at HI0 ⊢
  clear hw1
  go_wp2_with fail
  go_loopg [5, 6] (b.length + 1) (fun kq v5 v6 wc => ∃ (k : Nat) (L : List (Value × S44)), b.length < kq + k ∧ k ≤ b.length ∧ L.length ≤ k ∧ v6 = .int .i64 k ∧ Aside0 (R = prs b kq k (L.map (·.2))) ∧ Aside0 (Sep w wc (SeqL w.heap.size v5 L)))
  case atStart => exact ⟨0, [], by omega, by omega, by simp, rfl, HRR, HI0⟩
  case round =>
    clear HI0 HRR
    obtain ⟨k, L, hk, hkl, hLk, rfl, HRr, HI⟩ := hrel
    cases gk with
    | zero => omega
    | succ k1 =>
      have HC1 := Aside0.mk (begin_calls A c b k wr (HRB.out.below HI.out.B) hc HB.out (by omega) hkl)
      by_cases c1 : k = b.length
      · have hR : R = ((b.length : Int), 4, L.map (·.2)) := by rw [HRr.out, prs, if_pos c1]
        have hD : D = ([], (b.length : Int), 4) := by rw [HE.out, hR]; rfl
        have HD := Aside0.mk hD
        rw [show beginV b k = #[.int .i64 k, .int .i64 0, .int .i64 0, .bool false] from if_pos c1] at HC1
        clear hR hD c1
        go_wp2_with (go_at_call 55; refine HC1.out.mono ?_; rintro e w2 ⟨rfl, hb2⟩; have HB2 := Aside0.mk hb2; clear hb2)
        go_ret3
        rw [HD.out]
        exact ⟨.slice none 0 0, [], rfl, rfl, HNil.out _ (below_alloc (below_step HI.out.B HB2.out) _)⟩
      · have hkb : k < b.length := by omega
        obtain ⟨t, ht⟩ : ∃ t, t = b.getD k 0 := ⟨_, rfl⟩
        have hb1 := HB.out k
        rw [← ht] at hb1
        obtain ⟨t0, t1⟩ := hb1
        have hq0 : 0 ≤ t / 16 ∧ t / 16 ≤ 15 := by omega
        have hnf := num_facts (k := k + 1) HB.out hq0.1 hq0.2 (by omega)
        rw [show beginV b k = #[.int .i64 k, .int .i64 (moreK b (t / 16) (k + 1)), .int .i64 ((moreK b (t / 16) (k + 1) : Int) + numS b (t / 16) (k + 1)), .bool (decide (numE b (t / 16) (k + 1) = 0))] by rw [ht]; exact if_neg c1] at HC1
        have hR0 : R = if numE b (t / 16) (k + 1) ≠ 0 then ((b.length : Int), 4, L.map (·.2)) else if numS b (t / 16) (k + 1) > (b.length : Int) - (moreK b (t / 16) (k + 1) : Nat) then ((b.length : Int), 4, L.map (·.2)) else prs.prs2 b k (moreK b (t / 16) (k + 1) + (numS b (t / 16) (k + 1)).toNat) (L.map (·.2)) ((b.take (moreK b (t / 16) (k + 1) + (numS b (t / 16) (k + 1)).toNat)).drop (moreK b (t / 16) (k + 1))) (prs b k1) := by
          rw [HRr.out, prs, if_neg c1, ← ht]
        obtain ⟨n1, hn1⟩ : ∃ n, n = numS b (t / 16) (k + 1) := ⟨_, rfl⟩
        obtain ⟨E1, hE1⟩ : ∃ n, n = numE b (t / 16) (k + 1) := ⟨_, rfl⟩
        obtain ⟨K1, hK1⟩ : ∃ n, n = moreK b (t / 16) (k + 1) := ⟨_, rfl⟩
        rw [← hn1, ← hE1, ← hK1] at hnf HC1 hR0
        have HR0 := Aside0.mk hR0
        have HT := Aside0.mk ht
        clear ht hn1 hE1 hK1 hq0 hR0 HRr
        rcases hnf with ⟨rfl, e2, e3⟩ | ⟨rfl, hk1a, hk1b, hn0, hnB⟩
        · have hR : R = ((b.length : Int), 4, L.map (·.2)) := by rw [HR0.out, if_pos (by decide)]
          have hD : D = ([], (b.length : Int), 4) := by rw [HE.out, hR]; rfl
          have HD := Aside0.mk hD
          rw [show decide ((4 : Int) = 0) = false by decide] at HC1
          clear hR hD
          go_wp2_with (go_at_call 55; refine HC1.out.mono ?_; rintro e w2 ⟨rfl, hb2⟩; have HB2 := Aside0.mk hb2; clear hb2)
          go_ret3
          rw [HD.out]
          exact ⟨.slice none 0 0, [], rfl, rfl, HNil.out _ (below_alloc (below_step HI.out.B HB2.out) _)⟩
        · rw [show decide ((0 : Int) = 0) = true by decide] at HC1
          obtain ⟨m1, rfl⟩ := Int.eq_ofNat_of_zero_le hn0
          by_cases c4 : (m1 : Int) > (b.length : Int) - (K1 : Int)
          · have hR : R = ((b.length : Int), 4, L.map (·.2)) := by rw [HR0.out, if_neg (by decide), if_pos c4]
            have hD : D = ([], (b.length : Int), 4) := by rw [HE.out, hR]; rfl
            have HD := Aside0.mk hD
            have c4' : (K1 : Int) + (m1 : Int) > (b.length : Int) := by omega
            clear hR hD c4
            go_wp2_with (go_at_call 55; refine HC1.out.mono ?_; rintro e w2 ⟨rfl, hb2⟩; have HB2 := Aside0.mk hb2; clear hb2)
            go_ret3
            rw [HD.out]
            exact ⟨.slice none 0 0, [], rfl, rfl, HNil.out _ (below_alloc (below_step HI.out.B HB2.out) _)⟩
          · obtain ⟨k2, hk2⟩ : ∃ k2, k2 = K1 + m1 := ⟨_, rfl⟩
            have hR2 : R = prs.prs2 b k k2 (L.map (·.2)) ((b.take k2).drop K1) (prs b k1) := by rw [HR0.out, if_neg (by decide), if_neg c4, hk2]; rfl
            have HR2 := Aside0.mk hR2
            rw [show (K1 : Int) + (m1 : Int) = (k2 : Int) by omega] at HC1
            have c4' : ¬ ((k2 : Int) > (b.length : Int)) := by omega
            have hKi : (K1 : Int) ≤ (k2 : Int) := by omega
            have hKl : (k2 : Int) ≤ (b.length : Int) := by omega
            obtain ⟨xs, hxs⟩ : ∃ xs, xs = (b.take k2).drop K1 := ⟨_, rfl⟩
            have hxl : xs.length = k2 - K1 := by rw [hxs, List.length_drop, List.length_take]; omega
            obtain ⟨i05, hi05, _, hsz5, _⟩ := info_parts info5
            obtain ⟨As, hcut, hAs, hAc⟩ := print_mid_int (P := Try.prog) (k := .u8) 22 5 Try.underlying22 hi05 hsz5 A c b (K1 : Int) (k2 : Int) (by omega) (by omega) (by omega) hc
            rw [Int.toNat_natCast, Int.toNat_natCast, ← hxs] at hcut hAs hAc
            have hcut' : ∀ W : World, (Instr.slice 22 (.slice A b.length c) (some (.int .i64 (K1 : Int))) (some (.int .i64 (k2 : Int))) none).run Try.prog W = .ok (.slice As xs.length (c - K1)) W := hcut
            have HAS := Aside0.mk hAs
            have HXL := Aside0.mk hxl
            rw [← hxs] at HR2
            have hk2k : k < k2 := by omega
            have hk2b : k2 ≤ b.length := by omega
            have HXB := Aside0.mk (show 0 + xs.length ≤ 140737488355328 by omega)
            clear hR2 hk2 hxs hxl hcut hAs hAc hi05 hsz5 HR0 c4
            have HCUT := Aside0.mk hcut'
            clear hcut'
            go_upto_region 6 with (go_at_call 55; refine HC1.out.mono ?_; rintro e w2 ⟨rfl, hb2⟩; have HB2 := Aside0.mk hb2; clear hb2)
            clear HC1
            have BH := Aside0.mk (heap_alloc_new w2 (.cells #[.int .i64 k, .int .i64 K1, .int .i64 k2, .bool true] 85))
            have HI3 := Aside0.mk ((HI.out.keep HB2.out).alloc (.cells #[.int .i64 k, .int .i64 K1, .int .i64 k2, .bool true] 85))
            obtain ⟨gh, hgh⟩ : ∃ gh, gh = w2.heap.size := ⟨_, rfl⟩
            rw [← hgh] at BH ⊢
            clear hgh HB2 HI
            generalize w2.alloc (.cells #[.int .i64 k, .int .i64 K1, .int .i64 k2, .bool true] 85) = w3 at BH HI3 ⊢
            have h1 : (w3.alloc (.cells #[] 5)).cell? ⟨gh, 1, none⟩ = some (.int .i64 K1) := (blk_cell (blk_alloc BH.out (.cells #[] 5)) 1).trans rfl
            have h2 : (w3.alloc (.cells #[] 5)).cell? ⟨gh, 2, none⟩ = some (.int .i64 k2) := (blk_cell (blk_alloc BH.out (.cells #[] 5)) 2).trans rfl
            have HO3 := Aside0.mk (own_empty' w3 5 1)
            have HRX := Aside0.mk (HAS.out _ ((HRB.out.below HI3.out.B).below (below_alloc (Below.refl _ _) (.cells #[] 5))))
            have hcut' := HCUT.out
            go_upto_region 7 with (first | (at_builtin; refine print_append_row (w0 := w3) w3.heap.size rfl (.tmp 29) (.tmp 35) 22 5 .u8 1 rfl Try.underlying22 info5 (by decide) _ [] xs As xs.length (c - K1) rfl rfl HO3.out HRX.out (below_alloc (Below.refl _ _) _) (below_alloc (Below.refl _ _) _).size (by simpa using HXB.out) ?_; intro v4 w4 hO hB hG hA; rw [List.nil_append] at hO; obtain ⟨A4, c4, rfl⟩ := own_slice hO; have HO4 := Aside0.mk hO; have HB4 := Aside0.mk hB; clear hO hB hG hA))
            have BS := Aside0.mk (heap_alloc_new w4 (.cells #[.slice A4 xs.length c4, .int .i64 0, .int .i64 0] 44))
            have BH5 := Aside0.mk (show (w4.alloc (.cells #[.slice A4 xs.length c4, .int .i64 0, .int .i64 0] 44)).heap[gh]? = some (.cells #[.int .i64 k, .int .i64 K1, .int .i64 k2, .bool true] 85 (0, 0)) from blk_alloc (blk_below BH.out HB4.out) _)
            have HB5 := Aside0.mk (below_alloc HB4.out (.cells #[.slice A4 xs.length c4, .int .i64 0, .int .i64 0] 44))
            have HO5 := Aside0.mk (show (w4.alloc (.cells #[.slice A4 xs.length c4, .int .i64 0, .int .i64 0] 44)).ownsRow w3.heap.size 5 1 (.slice A4 xs.length c4) xs.length (nums .u8 xs) from own_fr (Fr.alloc _ (fun _ => True)) HO4.out (fun _ _ => trivial))
            obtain ⟨gs, hgs⟩ : ∃ gs, gs = w4.heap.size := ⟨_, rfl⟩
            have HGS := Aside0.mk (show w3.heap.size ≤ gs by rw [hgs]; exact HB4.out.size)
            rw [← hgs] at BS ⊢
            clear hgs HO4 HB4 HO3 HRX h1 h2 hcut'
            generalize w4.alloc (.cells #[.slice A4 xs.length c4, .int .i64 0, .int .i64 0] 44) = w5 at BS BH5 HB5 HO5 ⊢
            have h0 : w5.cell? ⟨gh, 0, none⟩ = some (.int .i64 k) := (blk_cell BH5.out 0).trans rfl
            have h2 : w5.cell? ⟨gh, 2, none⟩ = some (.int .i64 k2) := (blk_cell BH5.out 2).trans rfl
            obtain ⟨adb, e', xk⟩ := cells_b HRB.out (below_step HI3.out.B HB5.out) k hkb
            cases e'
            rw [← HT.out] at xk
            have hlt : (k : Int) < (b.length : Int) := by omega
            have hk0 : (0 : Int) ≤ (k : Int) := by omega
            have hcapL : (L.length + 1) * 40 ≤ 140737488355328 := by omega
            by_cases c5 : k2 = b.length
            · have c5' : (k2 : Int) = (b.length : Int) := by omega
              by_cases c6 : t % 16 = 0
              · have hR : R = (0, 0, L.map (·.2) ++ [⟨xs, 0, 0⟩]) := by rw [HR2.out, prs.prs2, if_pos c5, ← HT.out, if_neg (by omega)]
                have hD : D = (L.map (·.2) ++ [⟨xs, 0, 0⟩], 0, 0) := by rw [HE.out, hR]; rfl
                have HD := Aside0.mk hD
                clear hR hD
                have s0 : w5.cell? ⟨gs, 0, none⟩ = some (.slice A4 xs.length c4) := (blk_cell BS.out 0).trans rfl
                have s1 : w5.cell? ⟨gs, 1, none⟩ = some (.int .i64 0) := (blk_cell BS.out 1).trans rfl
                have s2 : w5.cell? ⟨gs, 2, none⟩ = some (.int .i64 0) := (blk_cell BS.out 2).trans rfl
                have HI5 := Aside0.mk (And.intro ((HI3.out.keep HB5.out).get 0 rfl) (below_step HI3.out.B HB5.out))
                go_wp2_with (first | (at_builtin; refine print_append_cells (w0 := w) w.heap.size rfl (.tmp 52) (.tmp 54) 37 44 _ 3 40 rfl Try.underlying37 info44 rfl (by decide) (by decide) _ L.length (cells3 L) [.slice A4 xs.length c4, .int .i64 0, .int .i64 0] rfl rfl rfl (by intro u hu; simp at hu; rcases hu with rfl | rfl <;> rfl) HI5.out.1 HI5.out.2 HI5.out.2.size hcapL ?_; intro v6 w6 hO hB hG hA; have HO6 := Aside0.mk hO; have HG6 := Aside0.mk hG; have HA6 := Aside0.mk hA; clear hO hB hG hA))
                go_ret3
                rw [HD.out]
                exact ⟨v6, L ++ [(.slice A4 xs.length c4, ⟨xs, 0, 0⟩)], rfl, by simp, seq_app HI3.out rfl HB5.out HO5.out HO6.out HG6.out HA6.out⟩
              · have hR : R = ((k : Int), 31, L.map (·.2)) := by rw [HR2.out, prs.prs2, if_pos c5, ← HT.out, if_pos c6]
                have hD : D = ([], (k : Int), 31) := by rw [HE.out, hR]; rfl
                have HD := Aside0.mk hD
                clear hR hD
                go_wp2
                repeat (go_quiet (fail); try go_wp2)
                go_ret3
                rw [HD.out]
                exact ⟨.slice none 0 0, [], rfl, rfl, HNil.out _ (by repeat (first | (with_reducible first | exact (below_step HI3.out.B HB5.out) | apply pw_below_drewN | apply below_drew1)))⟩
            · have c5' : ¬ (k2 : Int) = (b.length : Int) := by omega
              have HCM := Aside0.mk (rmatch_calls (some adb) c b k k2 w5 (HRB.out.below (below_step HI3.out.B HB5.out)) hc HB.out (by omega) hkb hk2b)
              by_cases c7 : (b.length : Int) - (k2 : Int) < 2
              · skip
                have hM : matchOut b k k2 = (0, 0, (b.length : Int), 4) := by rw [matchOut, if_pos c7]
                have hR : R = ((b.length : Int), 4, L.map (·.2)) := by rw [HR2.out, prs.prs2, if_neg c5, if_pos c7]
                have hD : D = ([], (b.length : Int), 4) := by rw [HE.out, hR]; rfl
                have HD := Aside0.mk hD
                rw [hM] at HCM
                unfold matchV at HCM
                dsimp only at HCM
                clear hM hR hD
                go_wp2_with (go_at_call 56; refine HCM.out.mono ?_; rintro e w7 ⟨rfl, m7, rfl⟩)
                go_ret3
                rw [HD.out]
                exact ⟨.slice none 0 0, [], rfl, rfl, HNil.out _ (by repeat (first | (with_reducible first | exact (below_step HI3.out.B HB5.out) | apply pw_below_drewN | apply below_drew1)))⟩
              by_cases c8 : b.getD k2 0 + b.getD (k2 + 1) 0 * 256 = 0
              · skip
                have hM : matchOut b k k2 = (0, 0, (k2 : Int), 30) := by rw [matchOut, if_neg c7, if_pos c8]
                have hR : R = ((k2 : Int), 30, L.map (·.2)) := by rw [HR2.out, prs.prs2, if_neg c5, if_neg c7, if_pos c8]
                have hD : D = ([], (k2 : Int), 30) := by rw [HE.out, hR]; rfl
                have HD := Aside0.mk hD
                rw [hM] at HCM
                unfold matchV at HCM
                dsimp only at HCM
                clear hM hR hD
                go_wp2_with (go_at_call 56; refine HCM.out.mono ?_; rintro e w7 ⟨rfl, m7, rfl⟩)
                go_ret3
                rw [HD.out]
                exact ⟨.slice none 0 0, [], rfl, rfl, HNil.out _ (by repeat (first | (with_reducible first | exact (below_step HI3.out.B HB5.out) | apply pw_below_drewN | apply below_drew1)))⟩
              by_cases c9 : numE b (t % 16) (k2 + 2) ≠ 0
              · have c9' : numE b (b.getD k 0 % 16) (k2 + 2) ≠ 0 := by rw [← HT.out]; exact c9
                have hM : matchOut b k k2 = (0, 0, (b.length : Int), 4) := by rw [matchOut, if_neg c7, if_neg c8, if_pos c9']
                have hR : R = ((b.length : Int), 4, L.map (·.2)) := by rw [HR2.out, prs.prs2, if_neg c5, if_neg c7, if_neg c8, if_pos c9']
                have hD : D = ([], (b.length : Int), 4) := by rw [HE.out, hR]; rfl
                have HD := Aside0.mk hD
                rw [hM] at HCM
                unfold matchV at HCM
                dsimp only at HCM
                clear hM hR hD
                go_wp2_with (go_at_call 56; refine HCM.out.mono ?_; rintro e w7 ⟨rfl, m7, rfl⟩)
                go_ret3
                rw [HD.out]
                exact ⟨.slice none 0 0, [], rfl, rfl, HNil.out _ (by repeat (first | (with_reducible first | exact (below_step HI3.out.B HB5.out) | apply pw_below_drewN | apply below_drew1)))⟩
              have c9' : ¬ numE b (b.getD k 0 % 16) (k2 + 2) ≠ 0 := by rw [← HT.out]; exact c9
              have hM : matchOut b k k2 = (b.getD k2 0 + b.getD (k2 + 1) 0 * 256, numS b (t % 16) (k2 + 2) + 4, (moreK b (t % 16) (k2 + 2) : Int), 0) := by rw [matchOut, if_neg c7, if_neg c8, if_neg c9', ← HT.out]
              have hR : R = prs b k1 (moreK b (t % 16) (k2 + 2)) (L.map (·.2) ++ [⟨xs, b.getD k2 0 + b.getD (k2 + 1) 0 * 256, numS b (t % 16) (k2 + 2) + 4⟩]) := by rw [HR2.out, prs.prs2, if_neg c5, if_neg c7, if_neg c8, if_neg c9', ← HT.out]
              have hnf2 := num_facts (k := k2 + 2) HB.out (show 0 ≤ t % 16 by omega) (show t % 16 ≤ 15 by omega) (by omega)
              rw [hM] at HCM
              unfold matchV at HCM
              dsimp only at HCM
              have HRn := Aside0.mk hR
              have hK2 : k2 + 2 ≤ moreK b (t % 16) (k2 + 2) ∧ moreK b (t % 16) (k2 + 2) ≤ b.length := by omega
              clear hM hR hnf2
              generalize b.getD k2 0 + b.getD (k2 + 1) 0 * 256 = bk at HCM HRn c8
              generalize numS b (t % 16) (k2 + 2) + 4 = n2 at HCM HRn
              generalize moreK b (t % 16) (k2 + 2) = K2 at HCM HRn hK2
              clear c7 c8 c9 c9'
              obtain ⟨hK2a, hK2b⟩ := hK2
              have s0 : w5.cell? ⟨gs, 0, none⟩ = some (.slice A4 xs.length c4) := (blk_cell BS.out 0).trans rfl
              have s1 : w5.cell? ⟨gs, 1, none⟩ = some (.int .i64 0) := (blk_cell BS.out 1).trans rfl
              have s2 : w5.cell? ⟨gs, 2, none⟩ = some (.int .i64 0) := (blk_cell BS.out 2).trans rfl
              have s3 := blk_frozen BS.out 1
              have s4 := blk_frozen BS.out 2
              go_upto_region 15 with (go_at_call 56; refine HCM.out.mono ?_; rintro e w7 ⟨rfl, m7, rfl⟩; have s0 : (w5.drewN m7).cell? ⟨gs, 0, none⟩ = some (.slice A4 xs.length c4) := s0; have s1 : (w5.drewN m7).cell? ⟨gs, 1, none⟩ = some (.int .i64 0) := s1; have s2 : (w5.drewN m7).cell? ⟨gs, 2, none⟩ = some (.int .i64 0) := s2; have s3 : (w5.drewN m7).frozen? ⟨gs, 1, none⟩ = false := s3; have s4 : (w5.drewN m7).frozen? ⟨gs, 2, none⟩ = false := s4)
              have BS7 := Aside0.mk (blk_put (blk_put (show (w5.drewN m7).heap[gs]? = some (.cells #[.slice A4 xs.length c4, .int .i64 0, .int .i64 0] 44 (0, 0)) from BS.out) 1 (.int .i64 bk) rfl) 2 (.int .i64 n2) rfl)
              have HB7 := Aside0.mk (below_set (g := gs) (j := 2) (v := .int .i64 n2) (below_set (g := gs) (j := 1) (v := .int .i64 bk) (pw_below_drewN HB5.out m7) HGS.out) HGS.out)
              have HO7 := Aside0.mk (own_setCell (p := ⟨gs, 2, none⟩) (own_setCell (p := ⟨gs, 1, none⟩) (show (w5.drewN m7).ownsRow w3.heap.size 5 1 (.slice A4 xs.length c4) xs.length (nums .u8 xs) from HO5.out) (own_ne (show (w5.drewN m7).ownsRow w3.heap.size 5 1 (.slice A4 xs.length c4) xs.length (nums .u8 xs) from HO5.out) (show (w5.drewN m7).heap[gs]? = some (.cells #[.slice A4 xs.length c4, .int .i64 0, .int .i64 0] 44 (0, 0)) from BS.out) (by decide)) (.int .i64 bk)) (own_ne (show (w5.drewN m7).ownsRow w3.heap.size 5 1 (.slice A4 xs.length c4) xs.length (nums .u8 xs) from HO5.out) (show (w5.drewN m7).heap[gs]? = some (.cells #[.slice A4 xs.length c4, .int .i64 0, .int .i64 0] 44 (0, 0)) from BS.out) (by decide)) (.int .i64 n2))
              clear s0 s1 s2 s3 s4
              generalize ((w5.drewN m7).setCell ⟨gs, 1, none⟩ (.int .i64 bk)).setCell ⟨gs, 2, none⟩ (.int .i64 n2) = w8 at BS7 HB7 HO7 ⊢
              have s0 : w8.cell? ⟨gs, 0, none⟩ = some (.slice A4 xs.length c4) := (blk_cell BS7.out 0).trans rfl
              have s1 : w8.cell? ⟨gs, 1, none⟩ = some (.int .i64 bk) := (blk_cell BS7.out 1).trans rfl
              have s2 : w8.cell? ⟨gs, 2, none⟩ = some (.int .i64 n2) := (blk_cell BS7.out 2).trans rfl
              have HI5 := Aside0.mk (And.intro ((HI3.out.keep HB7.out).get 0 rfl) (below_step HI3.out.B HB7.out))
              go_wp2_with (first | (at_builtin; refine print_append_cells (w0 := w) w.heap.size rfl (.tmp 75) (.tmp 77) 37 44 _ 3 40 rfl Try.underlying37 info44 rfl (by decide) (by decide) _ L.length (cells3 L) [.slice A4 xs.length c4, .int .i64 bk, .int .i64 n2] rfl rfl rfl (by intro u hu; simp at hu; rcases hu with rfl | rfl | rfl <;> rfl) HI5.out.1 HI5.out.2 HI5.out.2.size hcapL ?_; intro v9 w9 hO hB hG hA; have HO9 := Aside0.mk hO; have HG9 := Aside0.mk hG; have HA9 := Aside0.mk hA; clear hO hB hG hA))
              go_roundg k1
              case measure => omega
              case rel => exact ⟨K2, L ++ [(.slice A4 xs.length c4, ⟨xs, bk, n2⟩)], by omega, hK2b, by simp; omega, rfl, ⟨by rw [HRn.out]; simp⟩, ⟨seq_app HI3.out rfl HB7.out HO7.out HO9.out HG9.out HA9.out⟩⟩
end Go.Proofs.Ytnomebkdhjigjaa.W
