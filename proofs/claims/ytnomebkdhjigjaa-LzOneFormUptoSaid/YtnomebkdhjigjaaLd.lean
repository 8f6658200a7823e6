/- lz's walk at Decode's four functions: what it answers and what the player holds behind it, as a plain function. Conditions: fewer than 2^40 bytes, bytes are bytes. -/
import Derived.Test.YtnomebkdhjigjaaLc
import Derived.Test.YtnomebkdhjigjaaXq
import Derived.Laws.BitsAllLaws
namespace Go.Proofs.Ytnomebkdhjigjaa.W
open Go.RowKit Go.Proofs.YtnomebkdhjigjaaW.PrintWords Go.Proofs.YtnomebkdhjigjaaW.PrintLast Go.Proofs.YtnomebkdhjigjaaW.PrintMore
set_option linter.unusedVariables false
set_option linter.unusedSimpArgs false
def numS (b : List Int) (n : Int) (k : Nat) : Int := match num b n k with
  | none => 0
  | some (s, _) => s
def numE (b : List Int) (n : Int) (k : Nat) : Int := match num b n k with
  | none => 4
  | some _ => 0
theorem moreV_eq (b : List Int) (n : Int) (k : Nat) : moreV b n k = .tuple #[.int .i64 (numS b n k), .int .i64 (numE b n k)] := by
  unfold moreV numS numE
  cases num b n k <;> rfl
theorem num_facts {b : List Int} {n : Int} {k : Nat} (hb : Byt b) (h0 : 0 ≤ n) (h1 : n ≤ 15) (hk : k ≤ b.length) : (numE b n k = 4 ∧ moreK b n k = b.length ∧ numS b n k = 0) ∨ (numE b n k = 0 ∧ k ≤ moreK b n k ∧ moreK b n k ≤ b.length ∧ 0 ≤ numS b n k ∧ numS b n k ≤ 15 + 255 * (b.length : Int)) := by
  unfold numS numE moreK
  cases e : num b n k with
  | none => exact .inl ⟨rfl, rfl, rfl⟩
  | some p =>
    obtain ⟨s, j⟩ := p
    have := num_bound hb h0 h1 hk e
    exact .inr ⟨rfl, this.1, this.2.1, this.2.2.1, this.2.2.2⟩
/-- A block's decoding from a place on: the place, the error, what came out. -/
def dec (b : List Int) (bg most : Int) : Nat → Nat → List Int → Int × Int × List Int
  | 0, _, all => (0, 0, all)
  | f + 1, k, all =>
    if k = b.length then ((b.length : Int), 4, all) else
    if numE b (b.getD k 0 / 16) (k + 1) ≠ 0 then ((b.length : Int), 4, all) else
    if roomE all bg most (numS b (b.getD k 0 / 16) (k + 1)) ≠ 0 then ((moreK b (b.getD k 0 / 16) (k + 1) : Nat), 32, all) else
    if numS b (b.getD k 0 / 16) (k + 1) > (b.length : Int) - (moreK b (b.getD k 0 / 16) (k + 1) : Nat) then ((b.length : Int), 4, all) else
    dec2 b bg most k (moreK b (b.getD k 0 / 16) (k + 1) + (numS b (b.getD k 0 / 16) (k + 1)).toNat) (all ++ (b.take (moreK b (b.getD k 0 / 16) (k + 1) + (numS b (b.getD k 0 / 16) (k + 1)).toNat)).drop (moreK b (b.getD k 0 / 16) (k + 1))) (dec b bg most f)
where
  dec2 (b : List Int) (bg most : Int) (k k2 : Nat) (all : List Int) (go : Nat → List Int → Int × Int × List Int) : Int × Int × List Int :=
    if k2 = b.length then (if b.getD k 0 % 16 ≠ 0 then ((k : Int), 31, all) else (0, 0, all)) else
    if (b.length : Int) - (k2 : Int) < 2 then ((b.length : Int), 4, all) else
    if b.getD k2 0 + b.getD (k2 + 1) 0 * 256 = 0 then ((k2 : Int), 30, all) else
    if b.getD k2 0 + b.getD (k2 + 1) 0 * 256 > (all.length : Int) then ((k2 : Int), 30, all) else
    if numE b (b.getD k 0 % 16) (k2 + 2) ≠ 0 then ((b.length : Int), 4, all) else
    if roomE all bg most (numS b (b.getD k 0 % 16) (k2 + 2) + 4) ≠ 0 then ((k2 : Int), 32, all) else
    go (moreK b (b.getD k 0 % 16) (k2 + 2)) (copied (b.getD k2 0 + b.getD (k2 + 1) 0 * 256).toNat (numS b (b.getD k 0 % 16) (k2 + 2) + 4).toNat all)
theorem and15 (x : Int) (h0 : 0 ≤ x) (h1 : x < 256) : Go.bits .and .u8 x 15 = x % 16 := by
  rw [u8_and x 15 h0 h1 (by decide) (by decide)]
  obtain ⟨n, rfl⟩ := Int.eq_ofNat_of_zero_le h0
  have e : n &&& 15 = n % 16 := Nat.and_two_pow_sub_one_eq_mod n 4
  show ((n &&& 15 : Nat) : Int) = _
  rw [e]
  omega
theorem rd_step {w0 w w' : World} {g gp gl gr : Nat} {all : List Int} {va : Value} {bg most last k : Int} {A : Option Addr} {n c : Nat} (h : DInv w0 w g gp gl all va bg most last) (hr : IsRd w gr A n c k) (hg : w0.heap.size ≤ gr) (f : Fr w w' (fun i => i ≠ gr)) : DInv w0 w' g gp gl all va bg most last :=
  h.fr f (fun i hi => by omega) (blk_ne h.p.d hr (by decide)) (blk_ne h.c hr (by decide)) (blk_ne h.l hr (by decide)) (fun i hi e => by subst e; exact own_ne h.p.o hr (by decide) hi)
theorem rd_keep {w0 w w' : World} {g gp gl gr : Nat} {all : List Int} {va : Value} {bg most last k : Int} {A : Option Addr} {n c : Nat} (h : DInv w0 w g gp gl all va bg most last) (hr : IsRd w gr A n c k) (f : Fr w w' (fun i => i ≠ g ∧ some i ≠ va.ownBlock)) : IsRd w' gr A n c k :=
  f.heap hr ⟨blk_ne hr h.p.d (by decide), own_ne h.p.o hr (by decide)⟩
theorem rd_keep' {w0 w w' : World} {g gp gl gr : Nat} {all : List Int} {va : Value} {bg most last k : Int} {A : Option Addr} {n c : Nat} (h : DInv w0 w g gp gl all va bg most last) (hr : IsRd w gr A n c k) (f : Fr w w' (fun i => i ≠ gl)) : IsRd w' gr A n c k :=
  f.heap hr (blk_ne hr h.l (by decide))
theorem cells_b {w0 w : World} {A : Option Addr} {b : List Int} (hr : ReadsInt w0 .u8 A b.length b) (hB : Below w0.heap.size w0 w) (k : Nat) (hk : k < b.length) : ∃ ad, A = some ad ∧ w.cell? (ad.add k) = some (.int .u8 (b.getD k 0)) := by
  obtain ⟨ad, e, h⟩ := hr.2.2 (by omega)
  exact ⟨ad, e, pw_cell_below hB (h k hk)⟩
theorem rd_apart {w0 : World} {A : Option Addr} {b : List Int} {gr : Nat} (hr : ReadsInt w0 .u8 A b.length b) (hg : w0.heap.size ≤ gr) : ∀ ad, A = some ad → 0 < b.length → ad.block ≠ gr := fun ad e h => by
  obtain ⟨ad', e', hc⟩ := hr.2.2 h
  rw [e] at e'
  cases e'
  have := World.block_lt_of_cell? w0 _ (hc 0 h)
  rw [add_block] at this
  omega
set_option maxHeartbeats 8000000 in
set_option maxRecDepth 100000 in
theorem walk_calls (w0 : World) (g gp gl : Nat) (A : Option Addr) (c : Nat) (b all : List Int) (va : Value) (bg most last : Int) (w : World) (h : DInv w0 w g gp gl all va bg most last) (hr : ReadsInt w0 .u8 A b.length b) (hc : b.length ≤ c) (hb : Byt b) (hl : b.length ≤ 140737488355327) :
    Calls Try.prog 49 #[.slice A b.length c, .func (.func 77) #[] #[.pointer (some ⟨gp, 0, none⟩)], .func (.func 78) #[] #[.pointer (some ⟨gp, 0, none⟩)], .func (.func 79) #[] #[.pointer (some ⟨gl, 0, none⟩), .pointer (some ⟨gp, 0, none⟩)], .func (.func 80) #[] #[.pointer (some ⟨gp, 0, none⟩), .pointer (some ⟨gl, 0, none⟩)]] w fun e w' =>
      e = .returned (.tuple #[.int .i64 (dec b bg most (b.length + 1) 0 all).1, .int .i64 (dec b bg most (b.length + 1) 0 all).2.1]) ∧ ∃ va' last', DInv w0 w' g gp gl (dec b bg most (b.length + 1) 0 all).2.2 va' bg most last' := by
  have HI0 := Aside0.mk (h.keep (Fr.alloc (.cells #[.slice A b.length c, .int .i64 0] 125) _))
  have HR0 := Aside0.mk (show IsRd (w.alloc (.cells #[.slice A b.length c, .int .i64 0] 125)) w.heap.size A b.length c 0 from heap_alloc_new w _)
  have hgr : w0.heap.size ≤ w.heap.size := h.B.size
  have HA := Aside0.mk (rd_apart hr hgr)
  have HRB := Aside0.mk hr
  obtain ⟨gr, hg⟩ : ∃ gr, gr = w.heap.size := ⟨_, rfl⟩
  obtain ⟨R, hR⟩ : ∃ R, R = dec b bg most (b.length + 1) 0 all := ⟨_, rfl⟩
  have HRr := Aside0.mk hR
  rw [← hR]
  clear h hr hR
  go_enter Try.func49, Try.ntmps49
  go_upto_block 0 with fail
  rw [← hg] at HR0 HA hgr ⊢
  generalize w.alloc (.cells #[.slice A b.length c, .int .i64 0] 125) = w1 at HI0 HR0 ⊢
  clear hg
  go_wp2_with fail
  go_loopg [] (b.length + 1) (fun kq wc => ∃ (k : Nat) (al : List Int) (v : Value) (la : Int), b.length < kq + k ∧ k ≤ b.length ∧ Aside0 (R = dec b bg most kq k al) ∧ Aside0 (DInv w0 wc g gp gl al v bg most la) ∧ Aside0 (IsRd wc gr A b.length c (k : Int)))
  case atStart => exact ⟨0, all, va, last, by omega, by omega, HRr, HI0, HR0⟩
  case round =>
    clear HI0 HR0 HRr
    obtain ⟨k, al, v, la, hk, hkl, HRr, HI, HR⟩ := hrel
    cases gk with
    | zero => omega
    | succ k1 =>
      have x0 : wr.cell? ⟨gr, 0, none⟩ = some (.slice A b.length c) := (HR.out.at 0 _ rfl).1
      have x1 : wr.cell? ⟨gr, 1, none⟩ = some (.int .i64 k) := (HR.out.at 1 _ rfl).1
      have z1 := blk_frozen HR.out 1
      by_cases c1 : k = b.length
      · have hR : R = ((b.length : Int), 4, al) := by rw [HRr.out, dec, if_pos c1]
        have c1' : (k : Int) = (b.length : Int) := by omega
        go_wp2
        go_ret2
        rw [hR]
        exact ⟨rfl, v, la, HI.out⟩
      · have hkb : k < b.length := by omega
        have c1' : ¬ ((k : Int) = (b.length : Int)) := by omega
        obtain ⟨ad, rfl, xk⟩ := cells_b HRB.out HI.out.B k hkb
        obtain ⟨t, ht⟩ : ∃ t, t = b.getD k 0 := ⟨_, rfl⟩
        have hb1 := hb k
        rw [← ht] at hb1 xk
        obtain ⟨t0, t1⟩ := hb1
        have HT := Aside0.mk ht
        have hlt : (k : Int) < (b.length : Int) := by omega
        have hk0 : (0 : Int) ≤ (k : Int) := by omega
        have HR2 := Aside0.mk (show IsRd (wr.setCell ⟨gr, 1, none⟩ (.int .i64 ((k : Int) + 1))) gr (some ad) b.length c ((k + 1 : Nat) : Int) by rw [show ((k + 1 : Nat) : Int) = (k : Int) + 1 by omega]; exact blk_set HR.out 1 _)
        have HI2 := Aside0.mk (rd_step HI.out HR.out hgr (Fr.set (w := wr) ⟨gr, 1, none⟩ (.int .i64 ((k : Int) + 1))))
        have hq0 : 0 ≤ t / 16 ∧ t / 16 ≤ 15 := by omega
        have HC1 := Aside0.mk (more_calls gr (some ad) c b (t / 16) (k + 1) _ HR2.out (HRB.out.below HI2.out.B) HA.out hb (by omega) hl hq0.1 hq0.2)
        rw [moreV_eq] at HC1
        have hnf := num_facts (k := k + 1) hb hq0.1 hq0.2 (by omega)
        obtain ⟨n1, hn1⟩ : ∃ n, n = numS b (t / 16) (k + 1) := ⟨_, rfl⟩
        obtain ⟨E1, hE1⟩ : ∃ n, n = numE b (t / 16) (k + 1) := ⟨_, rfl⟩
        obtain ⟨K1, hK1⟩ : ∃ n, n = moreK b (t / 16) (k + 1) := ⟨_, rfl⟩
        rw [← hn1, ← hE1, ← hK1] at hnf
        rw [← hn1, ← hE1, ← hK1] at HC1
        have HV := Aside0.mk (And.intro hn1 (And.intro hE1 hK1))
        clear ht hn1 hE1 hK1 hq0
        go_upto_if 58 with (go_at_call 90; refine HC1.out.mono ?_; rintro e w2 ⟨rfl, hr2, hf2⟩; have HR3 := Aside0.mk hr2; have HI3 := Aside0.mk (rd_step HI2.out HR2.out hgr hf2); clear hr2 hf2)
        clear HC1 HI2 HR2 xk x0 x1 z1 HR
        rcases hnf with ⟨rfl, e2, e3⟩ | ⟨rfl, hk1a, hk1b, hn0, hnB⟩
        · have hR : R = ((b.length : Int), 4, al) := by rw [HRr.out, dec, if_neg c1, ← HT.out, ← HV.out.2.1, if_pos (by decide)]
          go_wp2
          go_ret2
          rw [hR]
          exact ⟨rfl, v, la, HI3.out⟩
        · have x1 : w2.cell? ⟨gr, 1, none⟩ = some (.int .i64 K1) := (HR3.out.at 1 _ rfl).1
          have HC2 := Aside0.mk (run_calls w0 g gp gl al v bg most la n1 K1 w2 HI3.out)
          have hE2 : roomE al bg most n1 = 32 ∧ n1 > most - ((al.length : Int) - bg) ∨ roomE al bg most n1 = 0 ∧ n1 ≤ most - ((al.length : Int) - bg) := by
            unfold roomE
            by_cases q : n1 > most - ((al.length : Int) - bg)
            · exact .inl ⟨if_pos q, q⟩
            · exact .inr ⟨if_neg q, by omega⟩
          obtain ⟨E2, hE⟩ : ∃ E, E = roomE al bg most n1 := ⟨_, rfl⟩
          rw [← hE] at hE2 HC2
          have HE := Aside0.mk hE
          clear hE
          go_upto_if 70 with (go_at_call 77; refine HC2.out.mono ?_; rintro e w3 ⟨rfl, m3, rfl⟩)
          clear HC2
          rcases hE2 with ⟨rfl, q2⟩ | ⟨rfl, q2⟩
          · have hR : R = ((K1 : Int), 32, al) := by rw [HRr.out, dec, if_neg c1, ← HT.out, ← HV.out.2.1, if_neg (by decide), ← HV.out.1, ← HE.out, if_pos (by decide), ← HV.out.2.2]
            go_wp2
            go_ret2
            rw [hR]
            exact ⟨rfl, v, la, HI3.out.keep (Fr.drewN _ _)⟩
          · have hKi : (K1 : Int) ≤ (b.length : Int) := by omega
            obtain ⟨m1, rfl⟩ := Int.eq_ofNat_of_zero_le hn0
            by_cases c4 : (m1 : Int) > (b.length : Int) - (K1 : Int)
            · have hR : R = ((b.length : Int), 4, al) := by rw [HRr.out, dec, if_neg c1, ← HT.out, ← HV.out.2.1, if_neg (by decide), ← HV.out.1, ← HE.out, if_neg (by decide), ← HV.out.2.2, if_pos c4]
              go_wp2
              go_ret2
              rw [hR]
              exact ⟨rfl, v, la, HI3.out.keep (Fr.drewN _ _)⟩
            · have hR2 : R = dec.dec2 b bg most k (K1 + m1) (al ++ (b.take (K1 + m1)).drop K1) (dec b bg most k1) := by rw [HRr.out, dec, if_neg c1, ← HT.out, ← HV.out.2.1, if_neg (by decide), ← HV.out.1, ← HE.out, if_neg (by decide), ← HV.out.2.2, if_neg c4]; rfl
              have HR2' := Aside0.mk hR2
              clear hR2
              obtain ⟨xs, hxs⟩ : ∃ xs, xs = (b.take (K1 + m1)).drop K1 := ⟨_, rfl⟩
              have hxl : xs.length = m1 := by rw [hxs, List.length_drop, List.length_take]; omega
              obtain ⟨i05, hi05, _, hsz5, _⟩ := info_parts info5
              obtain ⟨As, hcut, hAs, hAc⟩ := print_mid_int (P := Try.prog) (k := .u8) 22 5 Try.underlying22 hi05 hsz5 (some ad) c b (K1 : Int) ((K1 : Int) + (m1 : Int)) (by omega) (by omega) (by omega) hc
              rw [show ((K1 : Int) + (m1 : Int)).toNat = K1 + m1 by omega, Int.toNat_natCast, ← hxs] at hcut hAs hAc
              rw [hxl] at hcut
              have hcut' : ∀ W : World, (Instr.slice 22 (.slice (some ad) b.length c) (some (.int .i64 (K1 : Int))) (some (.int .i64 ((K1 : Int) + (m1 : Int)))) none).run Try.prog W = .ok (.slice As m1 (c - K1)) W := hcut
              have HXS := Aside0.mk hxs
              rw [← hxs] at HR2'
              have HI4 := Aside0.mk (HI3.out.keep (Fr.drewN m3 _))
              have HR4 := Aside0.mk (show IsRd (w2.drewN m3) gr (some ad) b.length c K1 from HR3.out)
              have HRX := Aside0.mk (hAs _ (HRB.out.below HI4.out.B))
              have hxx : (xs.length : Int) ≤ most - ((al.length : Int) - bg) := by omega
              clear hcut hAs hAc hi05 hsz5 hxs
              go_upto_region 15 with fail
              have x3 : (w2.drewN m3).cell? ⟨gr, 1, none⟩ = some (.int .i64 K1) := x1
              generalize w2.drewN m3 = w3 at HI4 HR4 HRX x3 ⊢
              refine QTail.wp_region_tail (C := fun w' => ∃ n, w' = w3.drewN n) 13 (by kernel_rfl) (by kernel_rfl) ⟨1, rfl⟩ ?_
              simp only [List.take_succ_cons, List.take_zero, List.drop_succ_cons, List.drop_zero]
              have hwr : IntKind.i64.wrap ((K1 : Int) + (m1 : Int)) = (K1 : Int) + (m1 : Int) := (i64_w _).trans (IntWalk.wrap64_in _ (by omega))
              repeat (quiet_step (fail))
              refine wpQuiet_nil ?_
              intro _ hw'
              obtain ⟨nq, hw''⟩ := hw'
              subst hw''
              clear hwr
              have HI5 := Aside0.mk (HI4.out.keep (Fr.drewN nq _))
              have HR5 := Aside0.mk (show IsRd (w3.drewN nq) gr (some ad) b.length c K1 from HR4.out)
              have HC3 := Aside0.mk (seen_calls w0 g gp gl al xs v bg most la As (c - K1) _ HI5.out (show ReadsInt (w3.drewN nq) .u8 As xs.length xs from HRX.out) hxx)
              rw [hxl] at HC3
              have HXL := Aside0.mk hxl
              clear hxl hxx hcut' x3 x1
              obtain ⟨al2, hal2⟩ : ∃ l, l = al ++ xs := ⟨_, rfl⟩
              rw [← hal2] at HC3 HR2'
              obtain ⟨k2, hk2⟩ : ∃ k2, k2 = K1 + m1 := ⟨_, rfl⟩
              rw [← hk2] at HR2'
              have hk2b : k2 ≤ b.length := by omega
              have hk2k : k < k2 := by omega
              have HK2 := Aside0.mk hk2
              clear hal2 hk2
              go_upto_region 16 with (go_at_call 78; refine HC3.out.mono ?_; rintro e w4 ⟨rfl, v2, hi4, hf4⟩; have HI6 := Aside0.mk hi4; have HR6 := Aside0.mk (rd_keep HI5.out HR5.out hf4); have x4 : w4.cell? ⟨gr, 1, none⟩ = some (.int .i64 K1) := ((rd_keep HI5.out HR5.out hf4).at 1 _ rfl).1; have z4 := blk_frozen (rd_keep HI5.out HR5.out hf4) 1; clear hi4 hf4)
              clear HC3 HI5 HR5 HI4 HR4 HRX
              have HR7 := Aside0.mk (show IsRd (w4.setCell ⟨gr, 1, none⟩ (.int .i64 ((K1 : Int) + (m1 : Int)))) gr (some ad) b.length c (k2 : Int) by rw [show (K1 : Int) + (m1 : Int) = (k2 : Int) by have := HK2.out; omega]; exact blk_set HR6.out 1 _)
              have HI7 := Aside0.mk (rd_step HI6.out HR6.out hgr (Fr.set (w := w4) ⟨gr, 1, none⟩ (.int .i64 ((K1 : Int) + (m1 : Int)))))
              go_upto_region 17 with fail
              generalize w4.setCell ⟨gr, 1, none⟩ (.int .i64 ((K1 : Int) + (m1 : Int))) = w5 at HR7 HI7 ⊢
              have x5 : w5.cell? ⟨gr, 1, none⟩ = some (.int .i64 k2) := (HR7.out.at 1 _ rfl).1
              have z5 := blk_frozen HR7.out 1
              clear HR6 HI6 x4 z4
              have hand := and15 t t0 t1
              by_cases c5 : k2 = b.length
              · have c5' : (k2 : Int) = (b.length : Int) := by omega
                by_cases c6 : t % 16 = 0
                · have hR : R = (0, 0, al2) := by rw [HR2'.out, dec.dec2, if_pos c5, ← HT.out, if_neg (by omega)]
                  go_wp2
                  go_ret2
                  rw [hR]
                  exact ⟨rfl, v2, la, HI7.out⟩
                · have hR : R = ((k : Int), 31, al2) := by rw [HR2'.out, dec.dec2, if_pos c5, ← HT.out, if_pos c6]
                  go_wp2
                  go_ret2
                  rw [hR]
                  exact ⟨rfl, v2, la, HI7.out⟩
              · have c5' : ¬ (k2 : Int) = (b.length : Int) := by omega
                by_cases c7 : (b.length : Int) - (k2 : Int) < 2
                · have hR : R = ((b.length : Int), 4, al2) := by rw [HR2'.out, dec.dec2, if_neg c5, if_pos c7]
                  go_wp2
                  go_ret2
                  rw [hR]
                  exact ⟨rfl, v2, la, HI7.out⟩
                · obtain ⟨ad', e', xa⟩ := cells_b HRB.out HI7.out.B k2 (by omega)
                  cases e'
                  obtain ⟨ad', e', xb⟩ := cells_b HRB.out HI7.out.B (k2 + 1) (by omega)
                  cases e'
                  obtain ⟨y0, hy0⟩ : ∃ y, y = b.getD k2 0 := ⟨_, rfl⟩
                  obtain ⟨y1, hy1⟩ : ∃ y, y = b.getD (k2 + 1) 0 := ⟨_, rfl⟩
                  have hb2 := hb k2
                  have hb3 := hb (k2 + 1)
                  rw [← hy0] at hb2 xa
                  rw [← hy1] at hb3 xb
                  have HY := Aside0.mk (And.intro hy0 hy1)
                  clear hy0 hy1
                  obtain ⟨y00, y01⟩ := hb2
                  obtain ⟨y10, y11⟩ := hb3
                  have q1 : (0 : Int) ≤ (k2 : Int) := by omega
                  have q2 : (k2 : Int) + 1 < (b.length : Int) := by omega
                  have q3 : (k2 : Int) < (b.length : Int) := by omega
                  have q4 : (0 : Int) ≤ (k2 : Int) + 1 := by omega
                  rw [add_pos ad (k2 + 1) (by omega)] at xb
                  have c7' : ¬ ((b.length : Int) - (k2 : Int) < 2) := by omega
                  have HC7 := Aside0.mk c7'
                  clear c7'
                  go_upto_region 24 with fail
                  have hw1 : IntKind.i64.wrap ((k2 : Int) + 1) = (k2 : Int) + 1 := (i64_w _).trans (IntWalk.wrap64_in _ (by omega))
                  have hw2 : IntKind.i64.wrap (y1 * 256) = y1 * 256 := (i64_w _).trans (IntWalk.wrap64_in _ (by clear hw1; omega))
                  have hw3 : IntKind.i64.wrap (y0 + y1 * 256) = y0 + y1 * 256 := (i64_w _).trans (IntWalk.wrap64_in _ (by clear hw1 hw2; omega))
                  go_quiet (fail)
                  clear hw1 hw2 hw3
                  have HI8 := Aside0.mk (HI7.out.keep (Fr.drewN nq _))
                  have HR8 := Aside0.mk (show IsRd (w5.drewN nq) gr (some ad) b.length c k2 from HR7.out)
                  have x8 : (w5.drewN nq).cell? ⟨gr, 1, none⟩ = some (.int .i64 k2) := x5
                  have z8 : (w5.drewN nq).frozen? ⟨gr, 1, none⟩ = false := z5
                  generalize w5.drewN nq = w8 at HI8 HR8 x8 z8 ⊢
                  have HR9 := Aside0.mk (show IsRd (w8.setCell ⟨gr, 1, none⟩ (.int .i64 ((k2 : Int) + 2))) gr (some ad) b.length c ((k2 + 2 : Nat) : Int) by rw [show ((k2 + 2 : Nat) : Int) = (k2 : Int) + 2 by omega]; exact blk_set HR8.out 1 _)
                  have HI9 := Aside0.mk (rd_step HI8.out HR8.out hgr (Fr.set (w := w8) ⟨gr, 1, none⟩ (.int .i64 ((k2 : Int) + 2))))
                  clear x5 z5 HI7 HR7 xa xb
                  have hbk0 : 0 ≤ y0 + y1 * 256 := by omega
                  go_upto_region 26 with fail
                  generalize w8.setCell ⟨gr, 1, none⟩ (.int .i64 ((k2 : Int) + 2)) = w9 at HI9 HR9 ⊢
                  clear HI8 HR8 x8 z8
                  obtain ⟨bk, hbk⟩ := Int.eq_ofNat_of_zero_le hbk0
                  have HBK := Aside0.mk hbk
                  generalize y0 + y1 * 256 = back at hbk ⊢
                  subst hbk
                  clear hbk0
                  by_cases c8 : (bk : Int) = 0
                  · have hR : R = ((k2 : Int), 30, al2) := by rw [HR2'.out, dec.dec2, if_neg c5, if_neg (show ¬ ((b.length : Int) - (k2 : Int) < 2) by have := HC7.out; omega), ← HY.out.1, ← HY.out.2, HBK.out, if_pos c8]
                    go_wp2
                    go_ret2
                    try rw [hR]
                    exact ⟨rfl, v2, la, HI9.out⟩
                  · have HC4 := Aside0.mk (match_calls w0 g gp gl al2 v2 bg most la bk k2 w9 HI9.out)
                    have hE3 : (if (bk : Int) > (al2.length : Int) then (30 : Int) else 0) = 30 ∧ (bk : Int) > (al2.length : Int) ∨ (if (bk : Int) > (al2.length : Int) then (30 : Int) else 0) = 0 ∧ ¬ (bk : Int) > (al2.length : Int) := by
                      by_cases q : (bk : Int) > (al2.length : Int)
                      · exact .inl ⟨if_pos q, q⟩
                      · exact .inr ⟨if_neg q, q⟩
                    generalize (if (bk : Int) > (al2.length : Int) then (30 : Int) else 0) = E3 at hE3 HC4
                    go_upto_if 159 with (go_at_call 79; refine HC4.out.mono ?_; rintro e w10 ⟨rfl, hi10, hf10⟩; have HI10 := Aside0.mk hi10; have HR10 := Aside0.mk (rd_keep' HI9.out HR9.out hf10); clear hi10 hf10)
                    clear HC4 HI9 HR9
                    rcases hE3 with ⟨rfl, c9⟩ | ⟨rfl, c9⟩
                    · have hR : R = ((k2 : Int), 30, al2) := by rw [HR2'.out, dec.dec2, if_neg c5, if_neg (show ¬ ((b.length : Int) - (k2 : Int) < 2) by have := HC7.out; omega), ← HY.out.1, ← HY.out.2, HBK.out, if_neg c8, if_pos c9]
                      go_wp2
                      go_ret2
                      try rw [hR]
                      exact ⟨rfl, v2, bk, HI10.out⟩
                    · have hq1 : 0 ≤ t % 16 ∧ t % 16 ≤ 15 := by omega
                      have HC5 := Aside0.mk (more_calls gr (some ad) c b (t % 16) (k2 + 2) _ HR10.out (HRB.out.below HI10.out.B) HA.out hb (by omega) hl hq1.1 hq1.2)
                      rw [moreV_eq] at HC5
                      have hnf := num_facts (k := k2 + 2) hb hq1.1 hq1.2 (by omega)
                      obtain ⟨n2, hn2⟩ : ∃ n, n = numS b (t % 16) (k2 + 2) := ⟨_, rfl⟩
                      obtain ⟨E4, hE4⟩ : ∃ n, n = numE b (t % 16) (k2 + 2) := ⟨_, rfl⟩
                      obtain ⟨K2, hK2⟩ : ∃ n, n = moreK b (t % 16) (k2 + 2) := ⟨_, rfl⟩
                      rw [← hn2, ← hE4, ← hK2] at hnf
                      rw [← hn2, ← hE4, ← hK2] at HC5
                      have HV2 := Aside0.mk (And.intro hn2 (And.intro hE4 hK2))
                      clear hn2 hE4 hK2
                      obtain ⟨t15, ht15⟩ : ∃ q, q = t % 16 := ⟨_, rfl⟩
                      rw [← ht15] at hand HC5 hq1
                      have HT15 := Aside0.mk ht15
                      clear ht15
                      go_upto_if 171 with (go_at_call 90; refine HC5.out.mono ?_; rintro e w11 ⟨rfl, hr11, hf11⟩; have HR11 := Aside0.mk hr11; have HI11 := Aside0.mk (rd_step HI10.out HR10.out hgr hf11); clear hr11 hf11)
                      clear HC5 HI10 HR10
                      have hRR : R = if E4 ≠ 0 then ((b.length : Int), 4, al2) else if roomE al2 bg most (n2 + 4) ≠ 0 then ((k2 : Int), 32, al2) else dec b bg most k1 K2 (copied bk (n2 + 4).toNat al2) := by
                        rw [HR2'.out, dec.dec2, if_neg c5, if_neg (show ¬ ((b.length : Int) - (k2 : Int) < 2) by have := HC7.out; omega), ← HY.out.1, ← HY.out.2, HBK.out, if_neg c8, if_neg (show ¬ ((bk : Int) > (al2.length : Int)) by omega), ← HT.out, HV2.out.1, HV2.out.2.1, HV2.out.2.2]
                        rfl
                      have HRR := Aside0.mk hRR
                      clear hRR
                      rcases hnf with ⟨rfl, e2, e3⟩ | ⟨rfl, hk2a, hk2c, hn0', hnB'⟩
                      · have hR : R = ((b.length : Int), 4, al2) := by rw [HRR.out, if_pos (by decide)]
                        go_wp2
                        go_ret2
                        try rw [hR]
                        exact ⟨rfl, v2, bk, HI11.out⟩
                      · obtain ⟨m2, rfl⟩ := Int.eq_ofNat_of_zero_le hn0'
                        have HC6 := Aside0.mk (length_calls w0 g gp gl al2 v2 bg most k2 bk (m2 + 4) w11 HI11.out (by omega) (by omega))
                        rw [show ((m2 + 4 : Nat) : Int) = (m2 : Int) + 4 by omega] at HC6
                        have hE5 : roomE al2 bg most ((m2 : Int) + 4) = 32 ∨ roomE al2 bg most ((m2 : Int) + 4) = 0 := by
                          unfold roomE
                          split
                          · exact .inl rfl
                          · exact .inr rfl
                        have HRR2 := Aside0.mk (show R = if roomE al2 bg most ((m2 : Int) + 4) ≠ 0 then ((k2 : Int), 32, al2) else dec b bg most k1 K2 (copied bk (m2 + 4) al2) by rw [HRR.out, if_neg (by decide), show ((m2 : Int) + 4).toNat = m2 + 4 by omega])
                        generalize roomE al2 bg most ((m2 : Int) + 4) = E5 at hE5 HC6 HRR2
                        rcases hE5 with rfl | rfl
                        · rw [if_neg (by decide)] at HC6
                          have hR : R = ((k2 : Int), 32, al2) := by rw [HRR2.out, if_pos (by decide)]
                          go_wp2_with (go_at_call 80; refine HC6.out.mono ?_; rintro e w12 ⟨rfl, v3, hi12, hf12⟩; have HI12 := Aside0.mk hi12; clear hi12 hf12)
                          go_ret2
                          try rw [hR]
                          exact ⟨rfl, v3, bk, HI12.out⟩
                        · rw [if_pos rfl] at HC6
                          have hR : R = dec b bg most k1 K2 (copied bk (m2 + 4) al2) := by rw [HRR2.out, if_neg (by decide)]
                          have HRf := Aside0.mk hR
                          clear hR
                          go_wp2_with (go_at_call 80; refine HC6.out.mono ?_; rintro e w12 ⟨rfl, v3, hi12, hf12⟩; have HI12 := Aside0.mk hi12; have HR12 := Aside0.mk (rd_keep HI11.out HR11.out hf12); clear hi12 hf12)
                          go_roundg k1
                          case measure => omega
                          case rel => exact ⟨K2, _, v3, bk, by omega, hk2c, HRf, HI12, HR12⟩
end Go.Proofs.Ytnomebkdhjigjaa.W
