/- LzParses: the walk: Parse of any bytes twice, the document's, what is written over plays no part. Condition: fewer than 2^20 bytes. -/
import Derived.Test.YtnomebkdhjigjaaRs
import Derived.Test.YtnomebkdhjigjaaRp
import Derived.Test.YtnomebkdhjigjaaAd
namespace Go.Proofs.Ytnomebkdhjigjaa.W
open Go.RowKit Go.Proofs.Ytnomebkdhjigjaa.Z Go.Proofs.Ytnomebkdhjigjaa.MLzDecodes Go.Proofs.YtnomebkdhjigjaaW.PrintWords Go.Proofs.YtnomebkdhjigjaaW.PrintLast Go.Proofs.YtnomebkdhjigjaaW.PrintMore
set_option linter.unusedVariables false
set_option linter.unusedSimpArgs false
theorem fr_kept {w0 w w' : World} {S : Nat → Prop} (h : Kept w w' S) (b : Below w0.heap.size w0 w) (b' : Below w0.heap.size w0 w') : Fr w w' (fun i => ¬ S i) :=
  ⟨b'.os.trans b.os.symm, b'.tape.trans b.tape.symm, b'.output.trans b.output.symm, h.1, fun i hi hs => h.2 i hi hs⟩
/-- One that is first is gone. -/
theorem Sep.spend {w0 w w' : World} {r : Res} {l : List Res} (h : Sep w0 w (r :: l)) (f : Fr w w' (fun i => ¬ r.foot i)) : Sep w0 w' l :=
  (h.upd 0 r (Res.pure True) rfl trivial f (fun i hi => hi.elim)).drop 0
theorem lent_reads {w : World} {B g cp : Nat} {b LL : List Int} (hLL : LL = b ++ marks 32) (h : w.ownsRow B 5 1 (.slice (some ⟨g, 0, none⟩) LL.length cp) LL.length (nums .u8 LL)) : ReadsInt w .u8 (some ⟨g, 0, none⟩) b.length b ∧ ReadsInt w .u8 (some ⟨g, 0, none⟩) LL.length LL := by
  obtain ⟨A, c, e, hr, hc⟩ := own_reads' h
  injection e with e1 e2 e3
  subst e1
  refine ⟨⟨rfl, by have := hr.2.1; rw [hLL, List.length_append] at this; omega, fun h0 => ⟨_, rfl, fun j hj => ?_⟩⟩, hr⟩
  obtain ⟨ad, e, hx⟩ := hr.2.2 (by rw [hLL, List.length_append]; omega)
  cases e
  rw [hx j (by rw [hLL, List.length_append]; omega), hLL, List.getD_eq_getElem?_getD, List.getElem?_append_left hj, ← List.getD_eq_getElem?_getD]
theorem perm_help (a b i z : List Res) (r : Res) : (a ++ (b ++ (r :: i ++ z))).Perm (i ++ (r :: (a ++ (b ++ z)))) := by
  have h1 : (a ++ (b ++ (r :: i ++ z))).Perm (a ++ (r :: i ++ (b ++ z))) := (List.perm_append_comm_assoc b (r :: i) z).append_left a
  have h2 : (a ++ (r :: i ++ (b ++ z))).Perm (r :: i ++ (a ++ (b ++ z))) := List.perm_append_comm_assoc a (r :: i) (b ++ z)
  exact (h1.trans h2).trans List.perm_middle.symm
theorem Sep.store {w0 w : World} {l : List Res} {B e z n g c : Nat} {cs : List Value} (h : Sep w0 w (Res.row B e z n (.slice (some ⟨g, 0, none⟩) n c) cs :: l)) (j : Nat) (u : Value) : Sep w0 (w.setCell ⟨g, j, none⟩ u) (Res.row B e z n (.slice (some ⟨g, 0, none⟩) n c) (cs.set j u) :: l) := by
  have hst := World.ownsRow.stored (show w.ownsRow B e z (.slice (some ⟨g, 0, none⟩) n c) n cs from h.h _ List.mem_cons_self) j u
  exact h.upd 0 _ (Res.row B e z n (.slice (some ⟨g, 0, none⟩) n c) (cs.set j u)) rfl hst.1 (Fr.of_grown hst.2) (fun i hi => .inl hi)
theorem own_some' {w : World} {B e size n c : Nat} {A : Option Addr} {xs : List Value} (h : w.ownsRow B e size (.slice A n c) n xs) (hn : 0 < n) : ∃ g, A = some ⟨g, 0, none⟩ := by
  obtain ⟨g, cp, e, _⟩ := own_slice' h hn
  injection e with e
  exact ⟨g, e⟩
theorem parse_zero : parse [0] = ([⟨[], 0, 0⟩], 0, 0) := by rfl
set_option maxHeartbeats 8000000 in
set_option maxRecDepth 100000 in
theorem parses_walk (A : Option Addr) (c : Nat) (b : List Int) (w : World) (hr : ReadsInt w .u8 A b.length b) (hc : b.length ≤ c) (hb : Byt b) (hl : b.length ≤ 1099511627776) (hsh : shortS (parse b).1 = true) (hsm : ∀ s ∈ (parse b).1, s.f0.length ≤ 1099511627776) (hpl : (parse b).1.length ≤ 140737488355327) :
    Calls Try.prog 4 #[.slice A b.length c] w fun e w' => e = .returned (.bool true) ∧ Below w.heap.size w w' := by
  have HRB := Aside0.mk hr
  have HB := Aside0.mk hb
  obtain ⟨D, hD⟩ : ∃ D, D = parse b := ⟨_, rfl⟩
  rw [← hD] at hsh hpl hsm
  have HSM := Aside0.mk hsm
  have HD := Aside0.mk hD
  have HSH := Aside0.mk hsh
  have HPL := Aside0.mk hpl
  have HP := Aside0.mk (fun (A : Option Addr) (c : Nat) (W : World) (h : ReadsInt W .u8 A b.length b) (h2 : b.length ≤ c) => Parse_calls A c b W h h2 hb hl)
  have HQ := Aside0.mk (fun (A : Option Addr) (c : Nat) (W : World) (h : ReadsInt W .u8 A b.length b) (h2 : b.length ≤ c) => refParse_calls A c b W h h2 hb hl)
  rw [← hD] at HP HQ
  obtain ⟨LL, hLL⟩ : ∃ LL, LL = b ++ marks 32 := ⟨_, rfl⟩
  have HLC := Aside0.mk (lent_calls A c b w HRB.out (by omega))
  rw [← hLL] at HLC
  have HLb := Aside0.mk (show b.length ≤ LL.length by rw [hLL, List.length_append]; omega)
  have HLL := Aside0.mk hLL
  have HK := Aside0.mk (kept_f b (by omega))
  rw [← hLL] at HK
  clear hr hb hD hsh hpl hLL hsm
  go_enter Try.func4, Try.ntmps4
  go_upto_region 2 with (first | (go_at_call 20; refine HLC.out.mono ?_; rintro e w1 ⟨g, cp, rfl, hg, hcp, ho1, hb1⟩; have HO1 := Aside0.mk ho1; have HB1 := Aside0.mk hb1; have HCP := Aside0.mk hcp; have HS1 := Aside0.mk ((Sep.nil w).push hb1 (Res.row w.heap.size 5 1 LL.length (.slice (some ⟨g, 0, none⟩) LL.length cp) (nums .u8 LL)) ho1 (fun i hi => (own_ge ho1 i hi).1)); clear ho1 hb1 hg hcp))
  clear HLC
  have hcb : b.length ≤ cp := Nat.le_trans HLb.out HCP.out
  have HC1 := Aside0.mk (HP.out _ cp w1 (lent_reads HLL.out HO1.out).1 hcb)
  have HCB := Aside0.mk hcb
  clear hcb
  go_upto_region 3 with (go_at_call 21; refine HC1.out.mono ?_; rintro e w2 ⟨v2, L2, rfl, hL2, hS2⟩; have HL2 := Aside0.mk hL2; have HS2 := Aside0.mk (HS1.out.join hS2); have HB2 := Aside0.mk hS2.B; clear hL2 hS2)
  clear HC1
  have HC1 := Aside0.mk (HP.out _ cp w2 ((lent_reads HLL.out HO1.out).1.below HB2.out) HCB.out)
  go_upto_region 4 with (go_at_call 21; refine HC1.out.mono ?_; rintro e w3 ⟨v3, L3, rfl, hL3, hS3⟩; have HL3 := Aside0.mk hL3; have HS3 := Aside0.mk (HS2.out.join hS3); clear hL3 hS3)
  clear HC1 HP
  have HC1 := Aside0.mk (HQ.out A c w3 (HRB.out.below HS3.out.B) hc)
  go_upto_region 5 with (go_at_call 22; refine HC1.out.mono ?_; rintro e w4 ⟨v4, L4, rfl, hL4, hS4⟩; have HL4 := Aside0.mk hL4; have HS4 := Aside0.mk (HS3.out.join hS4); clear hL4 hS4)
  clear HC1 HQ HS1 HS2 HS3
  obtain ⟨A2, c2, e2, hc2, hC2⟩ := HS4.out.seq (B := w1.heap.size) (v := v2) (L := L2) (fun r hr => List.mem_append_right _ (List.mem_append_right _ (List.mem_append_left _ hr)))
  obtain ⟨A3, c3, e3, hc3, hC3⟩ := HS4.out.seq (B := w2.heap.size) (v := v3) (L := L3) (fun r hr => List.mem_append_right _ (List.mem_append_left _ hr))
  obtain ⟨A4, c4, e4, hc4, hC4⟩ := HS4.out.seq (B := w3.heap.size) (v := v4) (L := L4) (fun r hr => List.mem_append_left _ hr)
  rw [HL2.out] at e2 hc2 hC2
  rw [HL3.out] at e3 hc3 hC3
  rw [HL4.out] at e4 hc4 hC4
  subst e2 e3 e4
  have hLr := (lent_reads HLL.out (show w4.ownsRow w.heap.size 5 1 (.slice (some ⟨g, 0, none⟩) LL.length cp) LL.length (nums .u8 LL) from HS4.out.h _ (List.mem_append_right _ (List.mem_append_right _ (List.mem_append_right _ List.mem_cons_self))))).2
  have HX2 := Aside0.mk (fun (W : World) (h : Below w4.heap.size w4 W) => seqs_yes A2 c2 D.1 A4 c4 W (Kd.C_below hC2 h) hc2 (Kd.C_below hC4 h) hc4 HPL.out HSH.out)
  have HX3 := Aside0.mk (fun (W : World) (h : Below w4.heap.size w4 W) => seqs_yes A3 c3 D.1 A4 c4 W (Kd.C_below hC3 h) hc3 (Kd.C_below hC4 h) hc4 HPL.out HSH.out)
  have HKE := Aside0.mk (fun (W : World) (h : Below w4.heap.size w4 W) => satchellaw03_kept.calls (b.length + 33) (some ⟨g, 0, none⟩) cp LL A c b true W (Kd.C_of_reads (enc := Value.int .u8) (d := (0 : Int)) (h1 := fun _ => rfl) (hLr.below h)) HCP.out (Kd.C_of_reads (enc := Value.int .u8) (d := (0 : Int)) (h1 := fun _ => rfl) ((HRB.out.below HS4.out.B).below h)) hc HK.out)
  have HN := Aside0.mk (And.intro hc2 (And.intro hc3 hc4))
  clear hC2 hC3 hC4 hLr hc2 hc3 hc4
  go_upto_region 7 with (first | (go_at_call 23; (with_reducible refine (HX2.out _ (by repeat (first | (with_reducible first | exact Below.refl _ _ | apply pw_below_drewN | apply below_drew1)))).mono ?_); rintro e w5 ⟨rfl, m5, rfl⟩) | (go_at_call 23; (with_reducible refine (HX3.out _ (by repeat (first | (with_reducible first | exact Below.refl _ _ | apply pw_below_drewN | apply below_drew1)))).mono ?_); rintro e w6 ⟨rfl, m6, rfl⟩) | (go_at_call 24; (with_reducible refine (HKE.out _ (by repeat (first | (with_reducible first | exact Below.refl _ _ | apply pw_below_drewN | apply below_drew1)))).mono ?_); rintro e w7 ⟨rfl, ⟨m7, rfl⟩⟩))
  have hn2 : L2.length = D.1.length := by rw [← HL2.out, List.length_map]
  have HN2 := Aside0.mk hn2
  obtain ⟨R0, hR0⟩ : ∃ R0, R0 = SeqL w3.heap.size (.slice A4 D.1.length c4) L4 ++ (SeqL w2.heap.size (.slice A3 D.1.length c3) L3 ++ [Res.row w.heap.size 5 1 LL.length (.slice (some ⟨g, 0, none⟩) LL.length cp) (nums .u8 LL)]) := ⟨_, rfl⟩
  have HR0 := Aside0.mk hR0
  have HS5 := Aside0.mk (show Sep w (w4.drewN (m5 + m6 + m7)) ((L2.drop 0).map (innerR w1.heap.size) ++ (Res.row w1.heap.size 44 3 L2.length (.slice A2 D.1.length c2) (cells3 L2) :: R0)) by
    rw [hR0]
    exact (HS4.out.drewN _).perm (perm_help _ _ _ _ _))
  clear HX2 HX3 HKE HS4 hR0 hn2
  generalize w4.drewN (m5 + m6 + m7) = w5 at HS5 ⊢
  have hpl2 := HPL.out
  go_wp2_with fail
  go_loopg [14] D.1.length (fun kq v14 wc => ∃ i, kq + i = D.1.length ∧ v14 = .int .i64 i ∧ Aside0 (Sep w wc ((L2.drop i).map (innerR w1.heap.size) ++ (Res.row w1.heap.size 44 3 L2.length (.slice A2 D.1.length c2) (cells3 L2) :: R0))))
  case atStart => exact ⟨0, by omega, rfl, HS5⟩
  case round =>
    clear HS5
    obtain ⟨i, hk, rfl, HS⟩ := hrel
    cases gk with
    | succ k1 =>
      have hin : i < L2.length := by have := HN2.out; omega
      have hilt : (i : Int) < (D.1.length : Int) := by omega
      have hi0 : (0 : Int) ≤ (i : Int) := by omega
      obtain ⟨p, hp⟩ : ∃ p, L2[i]? = some p := ⟨_, List.getElem?_eq_getElem hin⟩
      have hd : L2.drop i = p :: L2.drop (i + 1) := by
        rw [List.getElem?_eq_getElem hin] at hp
        injection hp with hp
        rw [← hp]
        exact List.drop_eq_getElem_cons hin
      rw [hd, List.map_cons, List.cons_append] at HS
      have hrow : wr.ownsRow w1.heap.size 44 3 (.slice A2 D.1.length c2) L2.length (cells3 L2) := HS.out.h _ (List.mem_cons_of_mem _ (List.mem_append_right _ List.mem_cons_self))
      have hrow' := hrow
      rw [HN2.out] at hrow'
      obtain ⟨g2, rfl⟩ := own_some' hrow' (by omega)
      have hx : wr.cell? ⟨g2, i * 3, none⟩ = some p.1 := by
        have h := World.ownsRow.cellAt hrow' (i * 3) (by omega)
        rw [h]
        have := cells3_at L2 i p hp 0 (by omega)
        rw [Nat.add_zero] at this
        rw [this]
        rfl
      have hpo : wr.ownsRow w1.heap.size 5 1 p.1 p.2.f0.length (nums .u8 p.2.f0) := HS.out.h _ List.mem_cons_self
      have hpm : p.2.f0.length ≤ 1099511627776 := HSM.out p.2 (by rw [← HL2.out]; exact List.mem_map.2 ⟨p, List.mem_of_getElem? hp, rfl⟩)
      have HF := Aside0.mk (satchellaw03_full.calls (p.2.f0.length + 92) (fun k => some k = p.1.ownBlock) p.1 p.2.f0 9 w wr HS.out.B (Kd.R_of_own (own_lower hpo HB1.out.size) (fun k hk => hk.symm)) (full_f p.2.f0 9 (by omega)))
      have HX := Aside0.mk hx
      have HSp := Aside0.mk (fun (w' : World) (h1 : Below w.heap.size w w') (h2 : Kept wr w' (fun k => some k = p.1.ownBlock)) => HS.out.spend (fr_kept h2 HS.out.B h1))
      obtain ⟨Ap, cpp, hpe, _, _⟩ := own_reads' hpo
      rw [hpe] at HF hx
      clear hd hrow hrow' hpo hpm HX hp
      go_wp2_with (go_at_call 25; refine HF.out.mono ?_; rintro e w8 ⟨rfl, hb8, hk8⟩; have HS8 := Aside0.mk (HSp.out w8 hb8 (by rw [hpe]; exact hk8)); clear hb8 hk8)
      go_roundg k1
      case measure => omega
      case rel => exact ⟨i + 1, by omega, by simp, HS8⟩
    | zero =>
      have hin : D.1.length = i := by omega
      rw [List.drop_of_length_le (by have := HN2.out; omega), List.map_nil, List.nil_append] at HS
      have HS' := Aside0.mk (show ∃ cs : List Value, cs.length = D.1.length * 3 ∧ Sep w wr (Res.row w1.heap.size 44 3 D.1.length (.slice A2 D.1.length c2) cs :: R0) from ⟨cells3 L2, by rw [cells3_len, HN2.out], by rw [← HN2.out] at HS ⊢; first | exact HS.out | (rw [HN2.out] at HS ⊢; exact HS.out)⟩)
      have hge : ¬ ((i : Int) < (D.1.length : Int)) := by omega
      clear HS hin hk
      go_wp2_with fail
      go_loopg [15] D.1.length (fun kq v15 wc => ∃ i, kq + i = D.1.length ∧ v15 = .int .i64 i ∧ Aside0 (∃ cs : List Value, cs.length = D.1.length * 3 ∧ Sep w wc (Res.row w1.heap.size 44 3 D.1.length (.slice A2 D.1.length c2) cs :: R0)))
      case atStart => exact ⟨0, by omega, rfl, HS'⟩
      case round =>
        clear HS' hge
        obtain ⟨i2, hk, rfl, HS⟩ := hrel
        cases gk with
        | succ k1 =>
          have hilt : (i2 : Int) < (D.1.length : Int) := by omega
          have hi0 : (0 : Int) ≤ (i2 : Int) := by omega
          obtain ⟨cs, hcs, hS⟩ := HS.out
          have hrow : wr.ownsRow w1.heap.size 44 3 (.slice A2 D.1.length c2) D.1.length cs := hS.h _ List.mem_cons_self
          obtain ⟨g2, rfl⟩ := own_some' hrow (by omega)
          have y0 : wr.cell? ⟨g2, i2 * 3, none⟩ = some cs[i2 * 3] := by rw [World.ownsRow.cellAt hrow _ (by omega), List.getElem?_eq_getElem]
          have y1 : wr.cell? ⟨g2, i2 * 3 + 1, none⟩ = some cs[i2 * 3 + 1] := by rw [World.ownsRow.cellAt hrow _ (by omega), List.getElem?_eq_getElem]
          have y2 : wr.cell? ⟨g2, i2 * 3 + 2, none⟩ = some cs[i2 * 3 + 2] := by rw [World.ownsRow.cellAt hrow _ (by omega), List.getElem?_eq_getElem]
          have z0 := World.ownsRow.frozenAt hrow (i2 * 3)
          have z1 := World.ownsRow.frozenAt hrow (i2 * 3 + 1)
          have z2 := World.ownsRow.frozenAt hrow (i2 * 3 + 2)
          have HS3 := Aside0.mk (((hS.store (i2 * 3) (.slice none 0 0)).store (i2 * 3 + 1) (.int .i64 0)).store (i2 * 3 + 2) (.int .i64 0))
          have HCS := Aside0.mk (show (((cs.set (i2 * 3) (.slice none 0 0)).set (i2 * 3 + 1) (.int .i64 0)).set (i2 * 3 + 2) (.int .i64 0)).length = D.1.length * 3 by rw [List.length_set, List.length_set, List.length_set, hcs])
          generalize cs[i2 * 3] = a0 at y0
          generalize cs[i2 * 3 + 1] = a1 at y1
          generalize cs[i2 * 3 + 2] = a2 at y2
          clear hS hrow hcs HS
          go_wp2
          go_roundg k1
          case measure => omega
          case rel => exact ⟨i2 + 1, by omega, by simp, ⟨_, HCS.out, HS3.out⟩⟩
        | zero =>
          have hge : ¬ ((i2 : Int) < (D.1.length : Int)) := by omega
          obtain ⟨cs, hcs, hS⟩ := HS.out
          have HS6 := Aside0.mk (hS.alloc (.cells #[.int .u8 0] 5))
          have hZ : Calls Try.prog 21 #[.slice (some ⟨wr.heap.size, 0, none⟩) 1 1] (wr.alloc (.cells #[.int .u8 0] 5)) fun e w' => ∃ v L, e = .returned (.tuple #[v, .int .i64 0, .int .i64 0]) ∧ L.map (·.2) = [⟨[], 0, 0⟩] ∧ Sep (wr.alloc (.cells #[.int .u8 0] 5)) w' (SeqL (wr.alloc (.cells #[.int .u8 0] 5)).heap.size v L) := by
            have h := Parse_calls (some ⟨wr.heap.size, 0, none⟩) 1 [0] (wr.alloc (.cells #[.int .u8 0] 5)) (reads_one wr 0) (Nat.le_refl _) (fun i => by rcases i with _ | i <;> simp) (by simp)
            rw [parse_zero] at h
            exact h
          have HZ := Aside0.mk hZ
          clear hS hcs HS hk hZ
          go_upto_region 16 with (go_at_call 21; refine HZ.out.mono ?_; rintro e w7 ⟨v7, L7, rfl, hL7, hS7⟩; have HL7 := Aside0.mk hL7; have HS7 := Aside0.mk hS7; clear hL7 hS7)
          clear HZ
          have h1 : L7.length = 1 := by have := congrArg List.length HL7.out; simpa using this
          have ho7 : w7.ownsRow _ 44 3 v7 L7.length (cells3 L7) := HS7.out.get 0 rfl
          rw [h1] at ho7
          obtain ⟨A7, c7, rfl⟩ := own_slice ho7
          have HS8 := Aside0.mk (HS6.out.keep HS7.out.B)
          clear h1 ho7 HS7 HS6
          rw [HR0.out] at HS8
          obtain ⟨A3', c3', e3, hc3, hC3⟩ := HS8.out.seq (B := w2.heap.size) (v := .slice A3 D.1.length c3) (L := L3) (fun r hr => List.mem_cons_of_mem _ (List.mem_append_right _ (List.mem_append_left _ hr)))
          obtain ⟨A4', c4', e4, hc4, hC4⟩ := HS8.out.seq (B := w3.heap.size) (v := .slice A4 D.1.length c4) (L := L4) (fun r hr => List.mem_cons_of_mem _ (List.mem_append_left _ hr))
          injection e3 with e31 e32 e33
          injection e4 with e41 e42 e43
          subst e31 e33 e41 e43
          rw [HL3.out] at hc3 hC3
          rw [HL4.out] at hc4 hC4
          have hLr := (lent_reads HLL.out (show w7.ownsRow w.heap.size 5 1 (.slice (some ⟨g, 0, none⟩) LL.length cp) LL.length (nums .u8 LL) from HS8.out.h _ (List.mem_cons_of_mem _ (List.mem_append_right _ (List.mem_append_right _ List.mem_cons_self))))).2
          have HX3 := Aside0.mk (fun (W : World) (h : Below w7.heap.size w7 W) => seqs_yes A3 c3 D.1 A4 c4 W (Kd.C_below hC3 h) hc3 (Kd.C_below hC4 h) hc4 HPL.out HSH.out)
          have HKE := Aside0.mk (fun (W : World) (h : Below w7.heap.size w7 W) => satchellaw03_kept.calls (b.length + 33) (some ⟨g, 0, none⟩) cp LL A c b true W (Kd.C_of_reads (enc := Value.int .u8) (d := (0 : Int)) (h1 := fun _ => rfl) (hLr.below h)) HCP.out (Kd.C_of_reads (enc := Value.int .u8) (d := (0 : Int)) (h1 := fun _ => rfl) ((HRB.out.below HS8.out.B).below h)) hc HK.out)
          have HBe := Aside0.mk HS8.out.B
          clear hC3 hC4 hLr hc3 hc4 HS8 e32 e42
          go_wp2_with (first | (go_at_call 23; (with_reducible refine (HX3.out _ (by repeat (first | (with_reducible first | exact Below.refl _ _ | apply pw_below_drewN | apply below_drew1)))).mono ?_); rintro e w8 ⟨rfl, m8, rfl⟩) | (go_at_call 24; (with_reducible refine (HKE.out _ (by repeat (first | (with_reducible first | exact Below.refl _ _ | apply pw_below_drewN | apply below_drew1)))).mono ?_); rintro e w9 ⟨rfl, ⟨m9, rfl⟩⟩))
          go_ret
          exact ⟨rfl, by repeat (first | (with_reducible first | exact HBe.out | apply pw_below_drewN | apply below_drew1))⟩
end Go.Proofs.Ytnomebkdhjigjaa.W
