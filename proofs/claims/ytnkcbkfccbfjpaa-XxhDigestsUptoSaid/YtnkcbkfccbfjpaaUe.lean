/- writes of the state of XxhDigests. -/
import Derived.Test.YtnkcbkfccbfjpaaUd
namespace Go.Proofs.Ytnkcbkfccbfjpaa.XxhW
open Go.RowKit Go.Proofs.YtnkcbkfccbfjpaaW.PrintWords Go.Proofs.YtnkcbkfccbfjpaaW.PrintLast Go.Proofs.YtnkcbkfccbfjpaaW.PrintMore
set_option linter.unusedVariables false
set_option linter.unusedSimpArgs false
section
variable {P : Program} {ops : Array Oper} {o : Oper} {a : Act} {Q : Exit → Act → World → Prop} {Kc : Act → World → Prop}
theorem app_step {w0 W : World} (base : Nat) (hwt : Region.wanted o (yielded ops a.tmps) = true) (s x : Operand) (t e : TypeId) (k : IntKind) (bytes : Nat)
    (ho : o.op = .call { callee := .builtin .append, args := #[s, x], argTypes := #[t, t] })
    (ht : P.underlying t = some (.slice e)) (hinfo : (P.info? e).map (fun i => (i.zero, i.size, i.bytes)) = some (some (.int k 0), 1, bytes)) (hb0 : 0 < bytes)
    (v : Value) (xs ys : List Int) (A : Option Addr) (m c : Nat) (hs : a.eval s = v) (hx : a.eval x = .slice A m c)
    (HO : W.ownsRow base e 1 v xs.length (nums k xs)) (HR : ReadsInt W k A m ys) (HB : Below base w0 W) (hbase : base ≤ W.heap.size) (hl : (xs.length + m) * bytes ≤ 140737488355328)
    (h : ∀ v1 w1, w1.ownsRow base e 1 v1 (xs ++ ys).length (nums k (xs ++ ys)) → Below base w0 w1 → W.grownBy w1 v.ownBlock → (v1.ownBlock = v.ownBlock ∨ ∃ b, v1.ownBlock = some b ∧ W.heap.size ≤ b) → Kc (a.put o.dst v1) w1) :
    if Region.wanted o (yielded ops a.tmps) = true then Oper.wp P o a W Kc Q else Kc (a.put o.dst undef) W := by
  obtain ⟨i0, hi, hzz⟩ := Option.map_eq_some_iff.1 hinfo
  simp only [Prod.mk.injEq] at hzz
  obtain ⟨hz0, hz1, hz2⟩ := hzz
  have hm : ys.length = m := HR.1
  have hlen : xs.length + m ≤ 140737488355328 := Nat.le_trans (Nat.le_mul_of_pos_right _ hb0) hl
  have hrun : ∃ v1 w1, (Builtin.append_ #[t, t] o.type #[v, .slice A m c]).run P W = .ok v1 w1 ∧ w1.ownsRow base e 1 v1 (xs ++ ys).length (nums k (xs ++ ys)) ∧ W.grownBy w1 v.ownBlock ∧ (v1.ownBlock = v.ownBlock ∨ v1.ownBlock = some W.heap.size) := by
    rcases A with _ | ad
    · have h0 : m = 0 := by
        rcases Nat.eq_zero_or_pos m with h0 | h0
        · exact h0
        · obtain ⟨ad, h, _⟩ := HR.2.2 h0
          cases h
      subst h0
      obtain rfl : ys = [] := List.eq_nil_of_length_eq_zero hm
      refine ⟨v, W, ?_, by simpa using HO, World.grownBy.refl W _, .inl rfl⟩
      rcases HO.2 with ⟨rfl, hn⟩ | ⟨g, cap, cur, rfl, _, _, hnc, _⟩
      · simp [Builtin.append_, run_underlying ht, sizeOf, typeInfo, hi, Builtin.lenOf, Builtin.firstCells]
      · simp [Builtin.append_, run_underlying ht, sizeOf, typeInfo, hi, Builtin.lenOf, Builtin.firstCells, hnc, storeCells]
    · have hcells : ∀ j u, (nums k ys)[j]? = some u → W.cell? (ad.add j) = some u := by
        intro j u hu
        have hj : j < ys.length := by
          rcases Nat.lt_or_ge j ys.length with h | h
          · exact h
          · simp [nums, List.getElem?_eq_none h] at hu
        obtain ⟨ad', h', hc⟩ := HR.2.2 (by omega)
        injection h' with h'
        subst h'
        have := hc j (by omega)
        simp [nums, List.getElem?_eq_getElem hj] at hu
        subst hu
        rw [this]
        simp [List.getD_eq_getElem?_getD, List.getElem?_eq_getElem hj]
      obtain ⟨v1, w1, hr, h2, h3, _, h5⟩ := run_append_own_at (P := P) W base t o.type e i0 (.int k 0) 1 bytes ht hi hz0 hz1 hz2 rfl (by omega) v xs.length (nums k xs) HO ad m c (nums k ys) (by simp [nums, hm]) hcells
        (by intro u hu; simp only [nums, List.mem_map] at hu; obtain ⟨q, _, rfl⟩ := hu; rfl) (by simp only [maxLen]; omega) hl hbase
      exact ⟨v1, w1, hr, by simpa [nums, hm] using h2, h3, h5⟩
  obtain ⟨v1, w1, hr, hown, hg, hat⟩ := hrun
  rw [if_pos hwt]
  unfold Oper.wp execOp
  simp only [ho, resolve, invoke, builtin, Sem.run_bind, Sem.run_pure, Result.andThen_ok, List.map_toArray, List.map_cons, List.map_nil, hs, hx, hr]
  refine (h v1 w1 hown (HB.grown hg hbase (own_base HO)) hg ?_)
  rcases hat with hat | hat
  · exact .inl hat
  · exact .inr ⟨_, hat, Nat.le_refl _⟩
end

theorem Sep.store {w0 w : World} {l : List Res} {B e z n g c : Nat} {cs : List Value} (h : Sep w0 w (Res.row B e z n (.slice (some ⟨g, 0, none⟩) n c) cs :: l)) (j : Nat) (u : Value) : Sep w0 (w.setCell ⟨g, j, none⟩ u) (Res.row B e z n (.slice (some ⟨g, 0, none⟩) n c) (cs.set j u) :: l) := by
  have hst := World.ownsRow.stored (show w.ownsRow B e z (.slice (some ⟨g, 0, none⟩) n c) n cs from h.h _ List.mem_cons_self) j u
  exact h.upd 0 _ (Res.row B e z n (.slice (some ⟨g, 0, none⟩) n c) (cs.set j u)) rfl hst.1 (Fr.of_grown hst.2) (fun i hi => .inl hi)
theorem own_sliceN {w : World} {B e size n : Nat} {v : Value} {xs : List Value} (h : w.ownsRow B e size v n xs) (hn : 0 < n) : ∃ g cp, v = .slice (some ⟨g, 0, none⟩) n cp ∧ n ≤ cp := by
  rcases h.2 with ⟨_, h0⟩ | ⟨g, cap, cur, rfl, _, _, h1, _⟩
  · omega
  · exact ⟨g, cap, rfl, h1⟩
theorem reads_123 (W : World) : ReadsInt (W.alloc (.cells #[.int .u8 1, .int .u8 2, .int .u8 3] 5)) .u8 (some ⟨W.heap.size, 0, none⟩) 3 [1, 2, 3] := by
  refine ⟨rfl, by decide, fun _ => ⟨_, rfl, fun i hi => ?_⟩⟩
  rw [Addr.add_lit, Nat.zero_add, cell_of_row (W.alloc _) _ i _ 5 (0, 0) (heap_alloc_new W _)]
  rcases i with _ | _ | _ | i
  all_goals first | rfl | (exfalso; omega)
theorem reads_take {w : World} {A : Option Addr} {b m : List Int} (h : ReadsInt w .u8 A (b ++ m).length (b ++ m)) : ReadsInt w .u8 A b.length b := by
  refine ⟨rfl, by have := h.2.1; rw [List.length_append] at this; omega, fun h0 => ?_⟩
  obtain ⟨ad, e, hx⟩ := h.2.2 (by rw [List.length_append]; omega)
  refine ⟨ad, e, fun j hj => ?_⟩
  rw [hx j (by rw [List.length_append]; omega), List.getD_eq_getElem?_getD, List.getElem?_append_left hj, ← List.getD_eq_getElem?_getD]
theorem str_three (b : List Int) : strOfNums (b ++ [1, 2, 3]) = strOfNums b ++ { data := #[1, 2, 3] } := by
  unfold strOfNums
  apply ByteArray.ext
  rw [ByteArray.data_append]
  rw [List.map_append]
  simp
theorem perm_inw0 (n b0 b1 b2 b3 b4 : Res) (z : List Res) : (n :: b0 :: b1 :: b2 :: b3 :: b4 :: z).Perm (b0 :: b1 :: b2 :: b3 :: b4 :: n :: z) := (List.perm_middle (l₁ := [b0, b1, b2, b3, b4])).symm
theorem perm_inw1 (n b0 b1 b2 b3 b4 b5 : Res) (z : List Res) : (n :: b0 :: b1 :: b2 :: b3 :: b4 :: b5 :: z).Perm (b0 :: b1 :: b2 :: b3 :: b4 :: b5 :: n :: z) := (List.perm_middle (l₁ := [b0, b1, b2, b3, b4, b5])).symm
theorem perm_inw2 (n b0 b1 b2 b3 b4 b5 b6 : Res) (z : List Res) : (n :: b0 :: b1 :: b2 :: b3 :: b4 :: b5 :: b6 :: z).Perm (b0 :: b1 :: b2 :: b3 :: b4 :: b5 :: b6 :: n :: z) := (List.perm_middle (l₁ := [b0, b1, b2, b3, b4, b5, b6])).symm
theorem perm_inw3 (n b0 b1 b2 b3 b4 b5 b6 b7 : Res) (z : List Res) : (n :: b0 :: b1 :: b2 :: b3 :: b4 :: b5 :: b6 :: b7 :: z).Perm (b0 :: b1 :: b2 :: b3 :: b4 :: b5 :: b6 :: b7 :: n :: z) := (List.perm_middle (l₁ := [b0, b1, b2, b3, b4, b5, b6, b7])).symm
set_option maxHeartbeats 16000000 in
set_option maxRecDepth 100000 in
theorem writes0 (w0 w : World) (gs : Nat) (seed wide : Int) (ga gb gc gd : Nat) (ra rb rc rd t0 t1 t2 t3 : Value) (la lb lc ld : List Int) (A : Option Addr) (c : Nat) (b : List Int) (hS : Sep w0 w (listS w0.heap.size gs seed wide ⟨ga, gb, gc, gd, ra, rb, rc, rd, t0, t1, t2, t3⟩ la lb lc ld)) (hr : ReadsInt w0 .u8 A b.length b) (hc : b.length ≤ c) (hb : Bytes (la ++ b)) (hl : la.length ≤ 1099511627776) (hbl : b.length ≤ 1099511627776) :
    Calls Try.prog 34 #[.pointer (some ⟨gs, 0, none⟩), .int .i64 0, .slice A b.length c] w fun e w' => e = .returned (.bool true) ∧ SI w0 w' gs seed wide (la ++ b) lb lc ld := by
  have HS := Aside0.mk hS
  have HR := Aside0.mk hr
  have HBY := Aside0.mk hb
  have HL := Aside0.mk (And.intro hl hbl)
  have HRw := Aside0.mk (hr.below hS.B)
  clear hS hr hb
  go_enter Try.func34, Try.ntmps34
  go_upto_region 2 with (first | (at_builtin; refine print_append_row (w0 := w) w.heap.size rfl (.tmp 11) (.tmp 12) 22 5 .u8 1 rfl Try.underlying22 info5 (by decide) (.slice (some ⟨w.heap.size, 0, none⟩) 0 0) [] b A b.length c rfl rfl (own_empty w) (HRw.out.below (below_alloc (Below.refl _ _) _)) (below_alloc (Below.refl _ _) _) (below_alloc (Below.refl _ _) _).size (by have := HL.out; simp; omega) ?_; intro v1 w1 hO hB hG hA; have HO1 := Aside0.mk hO; have HB1 := Aside0.mk hB; clear hO hB hG hA) | (at_builtin; refine print_append_row (w0 := w) w.heap.size rfl (.tmp 13) (.tmp 14) 22 5 .u8 1 rfl Try.underlying22 info5 (by decide) v1 b [1, 2, 3] (some ⟨w1.heap.size, 0, none⟩) 3 3 rfl rfl (own_fr (Fr.of_below (below_alloc (Below.refl _ _) _) (fun _ => True)) HO1.out (fun _ _ => trivial)) (reads_123 w1) (below_alloc HB1.out _) (below_alloc HB1.out _).size (by have := HL.out; omega) ?_; intro v2 w2 hO hB hG hA; have HO2 := Aside0.mk hO; have HB2 := Aside0.mk hB; clear hO hB hG hA HO1 HB1))
  have hLn : (b ++ [1, 2, 3]).length = b.length + 3 := by simp
  obtain ⟨gi, ci, ev, hci⟩ := own_sliceN HO2.out (by omega)
  obtain ⟨LN, hLN⟩ : ∃ LN, LN = b ++ [1, 2, 3] := ⟨_, rfl⟩
  rw [← hLN] at HO2 hLn ev hci
  subst ev
  have HLN := Aside0.mk hLN
  have HLE := Aside0.mk (show LN.length ≤ 1099511627779 by have := HL.out; omega)
  have HS2 := Aside0.mk (HS.out.push HB2.out (Res.row w.heap.size 5 1 LN.length (.slice (some ⟨gi, 0, none⟩) LN.length ci) (nums .u8 LN)) HO2.out (fun i hi => (own_ge HO2.out i hi).1))
  have HRL := Aside0.mk (own_reads' HO2.out)
  have HRB := Aside0.mk (show ReadsInt w2 .u8 (some ⟨gi, 0, none⟩) b.length b from reads_take (m := [1, 2, 3]) (by have := HRL.out; rw [HLN.out] at this; exact this))
  have hb0 : (0 : Int) ≤ (b.length : Int) := by omega
  have hb1 : (b.length : Int) ≤ (ci : Int) := by omega
  clear HS HO2 HB2 hLN HRw hLn
  have p0 : w2.cell? ⟨gs, 0, none⟩ = some (.pointer (some ⟨ga, 0, none⟩)) := cell_of_row w2 gs 0 _ 57 (0, 0) (HS2.out.h _ (List.mem_cons_of_mem _ List.mem_cons_self))
  have HW := Aside0.mk (Write32_calls (some ⟨gi, 0, none⟩) ci b la ga w0.heap.size ra (seed % 4294967296) w2 HRB.out HBY.out (res32_d (HS2.out.h _ (List.mem_cons_of_mem _ (List.mem_cons_of_mem _ (List.mem_cons_self))))) HS2.out.B.size (by have := HL.out; omega))
  go_upto_region 11 with (go_at_call 28; refine HW.out.mono ?_; rintro e w3 ⟨rfl, rv2, hd, hf⟩; have HS3 := Aside0.mk (HS2.out.upd 2 _ (res32 w0.heap.size ga (seed % 4294967296) (la ++ b) rv2) rfl (d_res32 (hd.lower HS2.out.B.size)) (hf.mono (fun i _ hi => ⟨fun e => hi (.inl e), fun e => hi (.inr e)⟩)) (fun i hi => hi.elim (fun e => .inl (.inl e)) (fun e => .inr (own_ge hd.o i e).1))); clear hd hf)
  clear HW HS2 HRL HRB p0 hb0 hb1
  have hrow3 : w3.ownsRow w.heap.size 5 1 (.slice (some ⟨gi, 0, none⟩) LN.length ci) LN.length (nums .u8 LN) := HS3.out.h (Res.row w.heap.size 5 1 LN.length (.slice (some ⟨gi, 0, none⟩) LN.length ci) (nums .u8 LN)) List.mem_cons_self
  have kA : (convert 22 9 (.slice (some ⟨gi, 0, none⟩) LN.length ci)).run Try.prog w3 = .ok (.string (strOfNums LN)) w3 := own_string Try.underlying22 Try.underlying5 Try.underlying9 hrow3
  have kB : (convert 22 9 (.slice A b.length c)).run Try.prog w3 = .ok (.string (strOfNums b)) w3 := string_of_reads Try.underlying22 Try.underlying5 Try.underlying9 (HR.out.below HS3.out.B)
  have kS : strOfNums LN = strOfNums b ++ { data := #[1, 2, 3] } := by rw [HLN.out]; exact str_three b
  have kz : (strOfNums b).size = b.length := strOfNums_size b
  have kl : (strOfNums b).size + 3 ≤ 9223372036854775807 := by have := HL.out; omega
  have kl1 : decide ((strOfNums b).size + 3 ≤ 9223372036854775807) = true := decide_eq_true kl
  have kl2 : (9223372036854775807 < (strOfNums b).size + 3) = False := eq_false (Nat.not_lt.2 kl)
  clear hrow3
  go_upto_region 12 with fail
  clear kA kB kS kz kl kl1 kl2
  have HS4 := Aside0.mk (show ∃ cs : List Value, cs.length = LN.length ∧ Sep w0 w3 (Res.row w.heap.size 5 1 LN.length (.slice (some ⟨gi, 0, none⟩) LN.length ci) cs :: (listS w0.heap.size gs seed wide ⟨ga, gb, gc, gd, ra, rb, rc, rd, t0, t1, t2, t3⟩ la lb lc ld).set (1 + 0) (res32 w0.heap.size ga (seed % 4294967296) (la ++ b) rv2)) from ⟨nums .u8 LN, by simp [nums], HS3.out⟩)
  clear HS3 hci
  go_wp2_with fail
  go_loopg [10] LN.length (fun kq v10 wc => ∃ i : Nat, kq + i = LN.length ∧ v10 = .int .i64 i ∧ Aside0 (∃ cs : List Value, cs.length = LN.length ∧ Sep w0 wc (Res.row w.heap.size 5 1 LN.length (.slice (some ⟨gi, 0, none⟩) LN.length ci) cs :: (listS w0.heap.size gs seed wide ⟨ga, gb, gc, gd, ra, rb, rc, rd, t0, t1, t2, t3⟩ la lb lc ld).set (1 + 0) (res32 w0.heap.size ga (seed % 4294967296) (la ++ b) rv2))))
  case atStart => exact ⟨0, by omega, rfl, HS4⟩
  case round =>
    clear HS4
    obtain ⟨i, hk, rfl, HS⟩ := hrel
    cases gk with
    | succ k1 =>
      have hilt : (i : Int) < (LN.length : Int) := by omega
      have hi0 : (0 : Int) ≤ (i : Int) := by omega
      obtain ⟨cs, hcs, hS⟩ := HS.out
      have hrow : wr.ownsRow w.heap.size 5 1 (.slice (some ⟨gi, 0, none⟩) LN.length ci) LN.length cs := hS.h _ List.mem_cons_self
      have y0 : wr.cell? ⟨gi, i, none⟩ = some cs[i] := by rw [World.ownsRow.cellAt hrow i (by omega), List.getElem?_eq_getElem]
      have z0 := World.ownsRow.frozenAt hrow i
      have HS3 := Aside0.mk (hS.store i (.int .u8 238))
      have HCS := Aside0.mk (show (cs.set i (.int .u8 238)).length = LN.length by rw [List.length_set, hcs])
      generalize cs[i] = a0 at y0
      clear hS hrow hcs HS
      have hwi : wrap64 ((i : Int) + 1) = (i : Int) + 1 := IntWalk.wrap64_in _ (by have := HLE.out; omega)
      go_wp2
      go_roundg k1
      case measure => clear hwi; omega
      case rel => exact ⟨i + 1, by clear hwi; omega, by simp [hwi], ⟨_, HCS.out, HS3.out⟩⟩
    | zero =>
      have hge : ¬ ((i : Int) < (LN.length : Int)) := by omega
      obtain ⟨LM, hLM⟩ : ∃ LM, LM = la ++ b := ⟨_, rfl⟩
      have HLM := Aside0.mk hLM
      clear hLM
      obtain ⟨cs, hcs, hS⟩ := HS.out
      have HS5 := Aside0.mk (hS.drop 0)
      have hblk : wr.heap[gs]? = some (.cells (stC seed wide ⟨ga, gb, gc, gd, ra, rb, rc, rd, t0, t1, t2, t3⟩) 57 (0, 0)) := HS5.out.h _ List.mem_cons_self
      have hrt : wr.ownsRow w0.heap.size 5 1 t0 la.length (nums .u8 la) := HS5.out.h _ (List.mem_cons_of_mem _ (List.mem_cons_of_mem _ (List.mem_cons_of_mem _ (List.mem_cons_of_mem _ (List.mem_cons_of_mem _ (List.mem_cons_self))))))
      obtain ⟨At, ct, et⟩ := own_slice hrt
      rw [et] at hrt
      have HRT := Aside0.mk (own_reads' hrt)
      have HRA := Aside0.mk (HR.out.below HS5.out.B)
      have xt : wr.cell? ⟨gs, 4, none⟩ = some (.slice At la.length ct) := by rw [← et]; exact cell_of_row wr gs 4 _ 57 (0, 0) hblk
      have xt' : wr.drew.cell? ⟨gs, 4, none⟩ = some (.slice At la.length ct) := xt
      have HBK := Aside0.mk (show wr.drew.heap[gs]? = some (.cells (stC seed wide ⟨ga, gb, gc, gd, ra, rb, rc, rd, t0, t1, t2, t3⟩) 57 (0, 0)) from hblk)
      have HSd := Aside0.mk (HS5.out.drew)
      have HRTd := Aside0.mk (show ReadsInt wr.drew .u8 At la.length la from HRT.out)
      have HRAd := Aside0.mk (show ReadsInt wr.drew .u8 A b.length b from HRA.out)
      clear HS hS hcs HS5 hblk hrt et HRT HRA xt
      go_upto_region 16 with fail
      refine start_ (n := 16) (S := fun w' => w'.cell? ⟨gs, 4, none⟩ = some (.slice At la.length ct)) (ds := [11, 15]) #[false, false, false, false, false, false, false, false, false, false, false, false, false, false, false, false] (by kernel_rfl) rfl rfl (xt') (fun hHeld => ?_)
      generalize wr.drew = wd at HSd HRTd HRAd HBK xt' hHeld ⊢
      refine pure_ (i := 0) (N := some 66) (v := ?_) (a' := ?_) #[true, false, false, false, false, false, false, false, false, false, false, false, false, false, false, false] rfl rfl (by kernel_rfl) (fun _ _ _ h => h) (Or.inl ⟨by rfl, ?_⟩) ?_ ?_
      rotate_left
      · intro w'
        go_simp
        with_reducible rfl
      rotate_left
      · simp only [Act.put, List.setIfInBounds_toArray, List.set_cons_zero, List.set_cons_succ, i64_w, i32_w]
        rfl
      refine pure_ (i := 1) (N := some 67) (v := ?_) (a' := ?_) #[true, true, false, false, false, false, false, false, false, false, false, false, false, false, false, false] rfl rfl (by kernel_rfl) (fun _ _ _ h => h) (Or.inl ⟨by rfl, ?_⟩) ?_ ?_
      rotate_left
      · intro w'
        go_simp
        with_reducible rfl
      rotate_left
      · simp only [Act.put, List.setIfInBounds_toArray, List.set_cons_zero, List.set_cons_succ, i64_w, i32_w]
        rfl
      refine pure_ (i := 3) (N := some 69) (v := ?_) (a' := ?_) #[true, true, false, true, false, false, false, false, false, false, false, false, false, false, false, false] rfl rfl (by kernel_rfl) (fun _ _ _ h => h) (Or.inl ⟨by rfl, ?_⟩) ?_ ?_
      rotate_left
      · intro w'
        go_simp
        with_reducible rfl
      rotate_left
      · simp only [Act.put, List.setIfInBounds_toArray, List.set_cons_zero, List.set_cons_succ, i64_w, i32_w]
        rfl
      refine pure_ (i := 4) (N := some 70) (v := ?_) (a' := ?_) #[true, true, false, true, true, false, false, false, false, false, false, false, false, false, false, false] rfl rfl (by kernel_rfl) (fun _ _ _ h => h) (Or.inl ⟨by rfl, ?_⟩) ?_ ?_
      rotate_left
      · intro w'
        go_simp
        with_reducible rfl
      rotate_left
      · simp only [Act.put, List.setIfInBounds_toArray, List.set_cons_zero, List.set_cons_succ, i64_w, i32_w]
        rfl
      refine pure_ (i := 5) (N := some 71) (v := ?_) (a' := ?_) #[true, true, false, true, true, true, false, false, false, false, false, false, false, false, false, false] rfl rfl (by kernel_rfl) (fun _ _ _ h => h) (Or.inl ⟨by rfl, ?_⟩) ?_ ?_
      rotate_left
      · intro w'
        go_simp
        with_reducible rfl
      rotate_left
      · simp only [Act.put, List.setIfInBounds_toArray, List.set_cons_zero, List.set_cons_succ, i64_w, i32_w]
        rfl
      refine pure_ (i := 6) (N := some 72) (v := ?_) (a' := ?_) #[true, true, false, true, true, true, true, false, false, false, false, false, false, false, false, false] rfl rfl (by kernel_rfl) (fun _ _ _ h => h) (Or.inl ⟨by rfl, ?_⟩) ?_ ?_
      rotate_left
      · intro w'
        go_simp
        with_reducible rfl
      rotate_left
      · simp only [Act.put, List.setIfInBounds_toArray, List.set_cons_zero, List.set_cons_succ, i64_w, i32_w]
        rfl
      refine pure_ (i := 7) (N := some 73) (v := ?_) (a' := ?_) #[true, true, false, true, true, true, true, true, false, false, false, false, false, false, false, false] rfl rfl (by kernel_rfl) (fun _ _ _ h => h) (Or.inl ⟨by rfl, ?_⟩) ?_ ?_
      rotate_left
      · intro w'
        go_simp
        with_reducible rfl
      rotate_left
      · simp only [Act.put, List.setIfInBounds_toArray, List.set_cons_zero, List.set_cons_succ, i64_w, i32_w]
        rfl
      refine pure_ (i := 10) (N := some 76) (v := ?_) (a' := ?_) #[true, true, false, true, true, true, true, true, false, false, true, false, false, false, false, false] rfl rfl (by kernel_rfl) (fun _ _ _ h => h) (Or.inl ⟨by rfl, ?_⟩) ?_ ?_
      rotate_left
      · intro w'
        go_simp
        with_reducible rfl
      rotate_left
      · simp only [Act.put, List.setIfInBounds_toArray, List.set_cons_zero, List.set_cons_succ, i64_w, i32_w]
        rfl
      refine pure_ (i := 12) (N := some 78) (v := ?_) (a' := ?_) #[true, true, false, true, true, true, true, true, false, false, true, false, true, false, false, false] rfl rfl (by kernel_rfl) (fun _ _ _ h => h) (Or.inl ⟨by rfl, ?_⟩) ?_ ?_
      rotate_left
      · intro w'
        go_simp
        with_reducible rfl
      rotate_left
      · simp only [Act.put, List.setIfInBounds_toArray, List.set_cons_zero, List.set_cons_succ, i64_w, i32_w]
        rfl
      refine pure_ (i := 13) (N := some 79) (v := ?_) (a' := ?_) #[true, true, false, true, true, true, true, true, false, false, true, false, true, true, false, false] rfl rfl (by kernel_rfl) (fun _ _ _ h => h) (Or.inl ⟨by rfl, ?_⟩) ?_ ?_
      rotate_left
      · intro w'
        go_simp
        with_reducible rfl
      rotate_left
      · simp only [Act.put, List.setIfInBounds_toArray, List.set_cons_zero, List.set_cons_succ, i64_w, i32_w]
        rfl
      refine take_ (i := 8) (N := some 74) (v := ?_) (a' := ?_) #[true, true, false, true, true, true, true, true, true, false, true, false, true, true, false, false] rfl rfl (by kernel_rfl) (fun _ _ _ h => h) (Or.inl ⟨by rfl, ?_⟩) hHeld ?_ ?_
      rotate_left
      · intro w' s0
        go_simp
        with_reducible rfl
      rotate_left
      · simp only [Act.put, List.setIfInBounds_toArray, List.set_cons_zero, List.set_cons_succ, i64_w, i32_w]
        rfl
      refine one_ (i := 2) (N := some 68) #[true, true, true, true, true, true, true, true, true, false, true, false, true, true, false, false] rfl rfl (by kernel_rfl) (by decide) (fun K hK => ?_)
      refine value_ (w1 := ?_) (v := ?_) (by rfl) rfl ?_ ?_
      rotate_left 2
      · go_simp
        constructor
        · rfl
        · rfl
      have HOe := Aside0.mk (own_empty wd)
      have HBe := Aside0.mk (below_alloc (Below.refl wd.heap.size wd) (.cells #[] 5))
      have HSe := Aside0.mk (HSd.out.keep (below_alloc (Below.refl _ _) (.cells #[] 5)))
      have HRTe := Aside0.mk (HRTd.out.below (below_alloc (Below.refl wd.heap.size wd) (.cells #[] 5)))
      have HRAe := Aside0.mk (HRAd.out.below (below_alloc (Below.refl wd.heap.size wd) (.cells #[] 5)))
      have xe := pw_cell_below (below_alloc (Below.refl _ _) (.cells #[] 5)) xt'
      generalize wd.alloc (.cells #[] 5) = we at HOe HBe HSe HRTe HRAe xe ⊢
      refine hK.out _ _ (xe) (fun hHeld => ?_)
      clear hK K
      refine norm_ (a' := ?_) ?_ ?_
      rotate_left
      · show Act.put _ (some 68) _ = _
        simp only [Act.put, List.setIfInBounds_toArray, List.set_cons_zero, List.set_cons_succ, i64_w, i32_w]
        rfl
      refine one_ (i := 9) (N := some 75) #[true, true, true, true, true, true, true, true, true, true, true, false, true, true, false, false] rfl rfl (by kernel_rfl) (by decide) (fun K hK => ?_)
      refine app_step (w0 := wd) wd.heap.size (by rfl) (.tmp 68) (.tmp 74) 22 5 .u8 1 rfl Try.underlying22 info5 (by decide) (.slice (some ⟨wd.heap.size, 0, none⟩) 0 0) [] la At la.length ct rfl rfl HOe.out HRTe.out HBe.out HBe.out.size (by have := HL.out; simp; omega) ?_
      intro v5 w5 hO hB hG hA
      have HO5 := Aside0.mk hO
      have HB5 := Aside0.mk hB
      have HS5 := Aside0.mk (HSd.out.keep hB)
      have HRA5 := Aside0.mk (HRAd.out.below hB)
      clear hO hB hG hA
      refine hK.out _ _ ((pw_cell_below HB5.out xt')) (fun hHeld => ?_)
      clear hK K
      refine norm_ (a' := ?_) ?_ ?_
      rotate_left
      · show Act.put _ (some 75) _ = _
        simp only [Act.put, List.setIfInBounds_toArray, List.set_cons_zero, List.set_cons_succ, i64_w, i32_w]
        rfl
      refine last_ (i := 11) (N := some 77) #[true, true, true, true, true, true, true, true, true, true, true, true, true, true, false, false] rfl rfl (by kernel_rfl) (by decide) (fun K hK => ?_)
      refine app_step (w0 := wd) wd.heap.size (by rfl) (.tmp 75) (.tmp 76) 22 5 .u8 1 rfl Try.underlying22 info5 (by decide) v5 ([] ++ la) b A b.length c rfl rfl HO5.out HRA5.out HB5.out HB5.out.size (by have := HL.out; simp; omega) ?_
      intro v9 w9 hO hB hG hA
      rw [List.nil_append, ← HLM.out] at hO
      obtain ⟨A9, c9, e9⟩ := own_slice hO
      subst e9
      have HO9 := Aside0.mk hO
      have HB9 := Aside0.mk hB
      have HS9 := Aside0.mk (HSd.out.push hB (Res.row w0.heap.size 5 1 LM.length (.slice A9 LM.length c9) (nums .u8 LM)) (own_lower HO9.out HSd.out.B.size) (fun i hi => (own_ge hO i hi).1))
      have zb := blk_frozen ((hB.block gs (blk_lt HBK.out)).trans HBK.out) 4
      have xz := pw_cell_below hB xt'
      clear hO hB hG hA
      refine hK.out _ _ ?_
      clear hK K
      refine norm_ (a' := ?_) ?_ ?_
      rotate_left
      · show Act.put _ (some 77) _ = _
        simp only [Act.put, List.setIfInBounds_toArray, List.set_cons_zero, List.set_cons_succ, i64_w, i32_w]
        rfl
      refine pure_ (i := 14) (N := some 80) (v := ?_) (a' := ?_) #[true, true, true, true, true, true, true, true, true, true, true, true, true, true, true, false] rfl rfl (by kernel_rfl) (fun _ _ _ h => h) (Or.inl ⟨by rfl, ?_⟩) ?_ ?_
      rotate_left
      · intro w'
        go_simp
        with_reducible rfl
      rotate_left
      · simp only [Act.put, List.setIfInBounds_toArray, List.set_cons_zero, List.set_cons_succ, i64_w, i32_w]
        rfl
      refine last_ (i := 15) (N := none) #[true, true, true, true, true, true, true, true, true, true, true, true, true, true, true, true] rfl rfl (by kernel_rfl) (by decide) (fun K hK => ?_)
      refine skip_ (w1 := ?_) (by rfl) rfl ?_ ?_
      rotate_left
      · go_simp
        rfl
      refine hK.out _ _ ?_
      clear hK K
      refine done_ (by kernel_rfl) ?_
      have HSf := Aside0.mk (HS9.out.put 1 gs (stC seed wide ⟨ga, gb, gc, gd, ra, rb, rc, rd, t0, t1, t2, t3⟩) 57 rfl 4 (.slice A9 LM.length c9) (show 4 < 10 by decide))
      go_wp2
      go_ret
      have hLM := HLM.out
      subst hLM
      refine ⟨rfl, ⟨⟨ga, gb, gc, gd, rv2, rb, rc, rd, .slice A9 (la ++ b).length c9, t1, t2, t3⟩, ?_⟩⟩
      have h := HSf.out.drop 6
      exact sep_perm h (perm_inw0 _ _ _ _ _ _ _)
set_option maxHeartbeats 16000000 in
set_option maxRecDepth 100000 in
theorem writes1 (w0 w : World) (gs : Nat) (seed wide : Int) (ga gb gc gd : Nat) (ra rb rc rd t0 t1 t2 t3 : Value) (la lb lc ld : List Int) (A : Option Addr) (c : Nat) (b : List Int) (hS : Sep w0 w (listS w0.heap.size gs seed wide ⟨ga, gb, gc, gd, ra, rb, rc, rd, t0, t1, t2, t3⟩ la lb lc ld)) (hr : ReadsInt w0 .u8 A b.length b) (hc : b.length ≤ c) (hb : Bytes (lb ++ b)) (hl : lb.length ≤ 1099511627776) (hbl : b.length ≤ 1099511627776) :
    Calls Try.prog 34 #[.pointer (some ⟨gs, 0, none⟩), .int .i64 1, .slice A b.length c] w fun e w' => e = .returned (.bool true) ∧ SI w0 w' gs seed wide la (lb ++ b) lc ld := by
  have HS := Aside0.mk hS
  have HR := Aside0.mk hr
  have HBY := Aside0.mk hb
  have HL := Aside0.mk (And.intro hl hbl)
  have HRw := Aside0.mk (hr.below hS.B)
  clear hS hr hb
  go_enter Try.func34, Try.ntmps34
  go_upto_region 2 with (first | (at_builtin; refine print_append_row (w0 := w) w.heap.size rfl (.tmp 11) (.tmp 12) 22 5 .u8 1 rfl Try.underlying22 info5 (by decide) (.slice (some ⟨w.heap.size, 0, none⟩) 0 0) [] b A b.length c rfl rfl (own_empty w) (HRw.out.below (below_alloc (Below.refl _ _) _)) (below_alloc (Below.refl _ _) _) (below_alloc (Below.refl _ _) _).size (by have := HL.out; simp; omega) ?_; intro v1 w1 hO hB hG hA; have HO1 := Aside0.mk hO; have HB1 := Aside0.mk hB; clear hO hB hG hA) | (at_builtin; refine print_append_row (w0 := w) w.heap.size rfl (.tmp 13) (.tmp 14) 22 5 .u8 1 rfl Try.underlying22 info5 (by decide) v1 b [1, 2, 3] (some ⟨w1.heap.size, 0, none⟩) 3 3 rfl rfl (own_fr (Fr.of_below (below_alloc (Below.refl _ _) _) (fun _ => True)) HO1.out (fun _ _ => trivial)) (reads_123 w1) (below_alloc HB1.out _) (below_alloc HB1.out _).size (by have := HL.out; omega) ?_; intro v2 w2 hO hB hG hA; have HO2 := Aside0.mk hO; have HB2 := Aside0.mk hB; clear hO hB hG hA HO1 HB1))
  have hLn : (b ++ [1, 2, 3]).length = b.length + 3 := by simp
  obtain ⟨gi, ci, ev, hci⟩ := own_sliceN HO2.out (by omega)
  obtain ⟨LN, hLN⟩ : ∃ LN, LN = b ++ [1, 2, 3] := ⟨_, rfl⟩
  rw [← hLN] at HO2 hLn ev hci
  subst ev
  have HLN := Aside0.mk hLN
  have HLE := Aside0.mk (show LN.length ≤ 1099511627779 by have := HL.out; omega)
  have HS2 := Aside0.mk (HS.out.push HB2.out (Res.row w.heap.size 5 1 LN.length (.slice (some ⟨gi, 0, none⟩) LN.length ci) (nums .u8 LN)) HO2.out (fun i hi => (own_ge HO2.out i hi).1))
  have HRL := Aside0.mk (own_reads' HO2.out)
  have HRB := Aside0.mk (show ReadsInt w2 .u8 (some ⟨gi, 0, none⟩) b.length b from reads_take (m := [1, 2, 3]) (by have := HRL.out; rw [HLN.out] at this; exact this))
  have hb0 : (0 : Int) ≤ (b.length : Int) := by omega
  have hb1 : (b.length : Int) ≤ (ci : Int) := by omega
  clear HS HO2 HB2 hLN HRw hLn
  have p0 : w2.cell? ⟨gs, 1, none⟩ = some (.pointer (some ⟨gb, 0, none⟩)) := cell_of_row w2 gs 1 _ 57 (0, 0) (HS2.out.h _ (List.mem_cons_of_mem _ List.mem_cons_self))
  have HW := Aside0.mk (Write32_calls (some ⟨gi, 0, none⟩) ci b lb gb w0.heap.size rb (wide % 4294967296) w2 HRB.out HBY.out (res32_d (HS2.out.h _ (List.mem_cons_of_mem _ (List.mem_cons_of_mem _ (List.mem_cons_of_mem _ (List.mem_cons_self)))))) HS2.out.B.size (by have := HL.out; omega))
  go_upto_region 11 with (go_at_call 28; refine HW.out.mono ?_; rintro e w3 ⟨rfl, rv2, hd, hf⟩; have HS3 := Aside0.mk (HS2.out.upd 3 _ (res32 w0.heap.size gb (wide % 4294967296) (lb ++ b) rv2) rfl (d_res32 (hd.lower HS2.out.B.size)) (hf.mono (fun i _ hi => ⟨fun e => hi (.inl e), fun e => hi (.inr e)⟩)) (fun i hi => hi.elim (fun e => .inl (.inl e)) (fun e => .inr (own_ge hd.o i e).1))); clear hd hf)
  clear HW HS2 HRL HRB p0 hb0 hb1
  have hrow3 : w3.ownsRow w.heap.size 5 1 (.slice (some ⟨gi, 0, none⟩) LN.length ci) LN.length (nums .u8 LN) := HS3.out.h (Res.row w.heap.size 5 1 LN.length (.slice (some ⟨gi, 0, none⟩) LN.length ci) (nums .u8 LN)) List.mem_cons_self
  have kA : (convert 22 9 (.slice (some ⟨gi, 0, none⟩) LN.length ci)).run Try.prog w3 = .ok (.string (strOfNums LN)) w3 := own_string Try.underlying22 Try.underlying5 Try.underlying9 hrow3
  have kB : (convert 22 9 (.slice A b.length c)).run Try.prog w3 = .ok (.string (strOfNums b)) w3 := string_of_reads Try.underlying22 Try.underlying5 Try.underlying9 (HR.out.below HS3.out.B)
  have kS : strOfNums LN = strOfNums b ++ { data := #[1, 2, 3] } := by rw [HLN.out]; exact str_three b
  have kz : (strOfNums b).size = b.length := strOfNums_size b
  have kl : (strOfNums b).size + 3 ≤ 9223372036854775807 := by have := HL.out; omega
  have kl1 : decide ((strOfNums b).size + 3 ≤ 9223372036854775807) = true := decide_eq_true kl
  have kl2 : (9223372036854775807 < (strOfNums b).size + 3) = False := eq_false (Nat.not_lt.2 kl)
  clear hrow3
  go_upto_region 12 with fail
  clear kA kB kS kz kl kl1 kl2
  have HS4 := Aside0.mk (show ∃ cs : List Value, cs.length = LN.length ∧ Sep w0 w3 (Res.row w.heap.size 5 1 LN.length (.slice (some ⟨gi, 0, none⟩) LN.length ci) cs :: (listS w0.heap.size gs seed wide ⟨ga, gb, gc, gd, ra, rb, rc, rd, t0, t1, t2, t3⟩ la lb lc ld).set (1 + 1) (res32 w0.heap.size gb (wide % 4294967296) (lb ++ b) rv2)) from ⟨nums .u8 LN, by simp [nums], HS3.out⟩)
  clear HS3 hci
  go_wp2_with fail
  go_loopg [10] LN.length (fun kq v10 wc => ∃ i : Nat, kq + i = LN.length ∧ v10 = .int .i64 i ∧ Aside0 (∃ cs : List Value, cs.length = LN.length ∧ Sep w0 wc (Res.row w.heap.size 5 1 LN.length (.slice (some ⟨gi, 0, none⟩) LN.length ci) cs :: (listS w0.heap.size gs seed wide ⟨ga, gb, gc, gd, ra, rb, rc, rd, t0, t1, t2, t3⟩ la lb lc ld).set (1 + 1) (res32 w0.heap.size gb (wide % 4294967296) (lb ++ b) rv2))))
  case atStart => exact ⟨0, by omega, rfl, HS4⟩
  case round =>
    clear HS4
    obtain ⟨i, hk, rfl, HS⟩ := hrel
    cases gk with
    | succ k1 =>
      have hilt : (i : Int) < (LN.length : Int) := by omega
      have hi0 : (0 : Int) ≤ (i : Int) := by omega
      obtain ⟨cs, hcs, hS⟩ := HS.out
      have hrow : wr.ownsRow w.heap.size 5 1 (.slice (some ⟨gi, 0, none⟩) LN.length ci) LN.length cs := hS.h _ List.mem_cons_self
      have y0 : wr.cell? ⟨gi, i, none⟩ = some cs[i] := by rw [World.ownsRow.cellAt hrow i (by omega), List.getElem?_eq_getElem]
      have z0 := World.ownsRow.frozenAt hrow i
      have HS3 := Aside0.mk (hS.store i (.int .u8 238))
      have HCS := Aside0.mk (show (cs.set i (.int .u8 238)).length = LN.length by rw [List.length_set, hcs])
      generalize cs[i] = a0 at y0
      clear hS hrow hcs HS
      have hwi : wrap64 ((i : Int) + 1) = (i : Int) + 1 := IntWalk.wrap64_in _ (by have := HLE.out; omega)
      go_wp2
      go_roundg k1
      case measure => clear hwi; omega
      case rel => exact ⟨i + 1, by clear hwi; omega, by simp [hwi], ⟨_, HCS.out, HS3.out⟩⟩
    | zero =>
      have hge : ¬ ((i : Int) < (LN.length : Int)) := by omega
      obtain ⟨LM, hLM⟩ : ∃ LM, LM = lb ++ b := ⟨_, rfl⟩
      have HLM := Aside0.mk hLM
      clear hLM
      obtain ⟨cs, hcs, hS⟩ := HS.out
      have HS5 := Aside0.mk (hS.drop 0)
      have hblk : wr.heap[gs]? = some (.cells (stC seed wide ⟨ga, gb, gc, gd, ra, rb, rc, rd, t0, t1, t2, t3⟩) 57 (0, 0)) := HS5.out.h _ List.mem_cons_self
      have hrt : wr.ownsRow w0.heap.size 5 1 t1 lb.length (nums .u8 lb) := HS5.out.h _ (List.mem_cons_of_mem _ (List.mem_cons_of_mem _ (List.mem_cons_of_mem _ (List.mem_cons_of_mem _ (List.mem_cons_of_mem _ (List.mem_cons_of_mem _ (List.mem_cons_self)))))))
      obtain ⟨At, ct, et⟩ := own_slice hrt
      rw [et] at hrt
      have HRT := Aside0.mk (own_reads' hrt)
      have HRA := Aside0.mk (HR.out.below HS5.out.B)
      have xt : wr.cell? ⟨gs, 5, none⟩ = some (.slice At lb.length ct) := by rw [← et]; exact cell_of_row wr gs 5 _ 57 (0, 0) hblk
      have xt' : wr.drew.cell? ⟨gs, 5, none⟩ = some (.slice At lb.length ct) := xt
      have HBK := Aside0.mk (show wr.drew.heap[gs]? = some (.cells (stC seed wide ⟨ga, gb, gc, gd, ra, rb, rc, rd, t0, t1, t2, t3⟩) 57 (0, 0)) from hblk)
      have HSd := Aside0.mk (HS5.out.drew)
      have HRTd := Aside0.mk (show ReadsInt wr.drew .u8 At lb.length lb from HRT.out)
      have HRAd := Aside0.mk (show ReadsInt wr.drew .u8 A b.length b from HRA.out)
      clear HS hS hcs HS5 hblk hrt et HRT HRA xt
      go_upto_region 16 with fail
      refine start_ (n := 16) (S := fun w' => w'.cell? ⟨gs, 5, none⟩ = some (.slice At lb.length ct)) (ds := [11, 15]) #[false, false, false, false, false, false, false, false, false, false, false, false, false, false, false, false] (by kernel_rfl) rfl rfl (xt') (fun hHeld => ?_)
      generalize wr.drew = wd at HSd HRTd HRAd HBK xt' hHeld ⊢
      refine pure_ (i := 0) (N := some 66) (v := ?_) (a' := ?_) #[true, false, false, false, false, false, false, false, false, false, false, false, false, false, false, false] rfl rfl (by kernel_rfl) (fun _ _ _ h => h) (Or.inl ⟨by rfl, ?_⟩) ?_ ?_
      rotate_left
      · intro w'
        go_simp
        with_reducible rfl
      rotate_left
      · simp only [Act.put, List.setIfInBounds_toArray, List.set_cons_zero, List.set_cons_succ, i64_w, i32_w]
        rfl
      refine pure_ (i := 1) (N := some 67) (v := ?_) (a' := ?_) #[true, true, false, false, false, false, false, false, false, false, false, false, false, false, false, false] rfl rfl (by kernel_rfl) (fun _ _ _ h => h) (Or.inl ⟨by rfl, ?_⟩) ?_ ?_
      rotate_left
      · intro w'
        go_simp
        with_reducible rfl
      rotate_left
      · simp only [Act.put, List.setIfInBounds_toArray, List.set_cons_zero, List.set_cons_succ, i64_w, i32_w]
        rfl
      refine pure_ (i := 3) (N := some 69) (v := ?_) (a' := ?_) #[true, true, false, true, false, false, false, false, false, false, false, false, false, false, false, false] rfl rfl (by kernel_rfl) (fun _ _ _ h => h) (Or.inl ⟨by rfl, ?_⟩) ?_ ?_
      rotate_left
      · intro w'
        go_simp
        with_reducible rfl
      rotate_left
      · simp only [Act.put, List.setIfInBounds_toArray, List.set_cons_zero, List.set_cons_succ, i64_w, i32_w]
        rfl
      refine pure_ (i := 4) (N := some 70) (v := ?_) (a' := ?_) #[true, true, false, true, true, false, false, false, false, false, false, false, false, false, false, false] rfl rfl (by kernel_rfl) (fun _ _ _ h => h) (Or.inl ⟨by rfl, ?_⟩) ?_ ?_
      rotate_left
      · intro w'
        go_simp
        with_reducible rfl
      rotate_left
      · simp only [Act.put, List.setIfInBounds_toArray, List.set_cons_zero, List.set_cons_succ, i64_w, i32_w]
        rfl
      refine pure_ (i := 5) (N := some 71) (v := ?_) (a' := ?_) #[true, true, false, true, true, true, false, false, false, false, false, false, false, false, false, false] rfl rfl (by kernel_rfl) (fun _ _ _ h => h) (Or.inl ⟨by rfl, ?_⟩) ?_ ?_
      rotate_left
      · intro w'
        go_simp
        with_reducible rfl
      rotate_left
      · simp only [Act.put, List.setIfInBounds_toArray, List.set_cons_zero, List.set_cons_succ, i64_w, i32_w]
        rfl
      refine pure_ (i := 6) (N := some 72) (v := ?_) (a' := ?_) #[true, true, false, true, true, true, true, false, false, false, false, false, false, false, false, false] rfl rfl (by kernel_rfl) (fun _ _ _ h => h) (Or.inl ⟨by rfl, ?_⟩) ?_ ?_
      rotate_left
      · intro w'
        go_simp
        with_reducible rfl
      rotate_left
      · simp only [Act.put, List.setIfInBounds_toArray, List.set_cons_zero, List.set_cons_succ, i64_w, i32_w]
        rfl
      refine pure_ (i := 7) (N := some 73) (v := ?_) (a' := ?_) #[true, true, false, true, true, true, true, true, false, false, false, false, false, false, false, false] rfl rfl (by kernel_rfl) (fun _ _ _ h => h) (Or.inl ⟨by rfl, ?_⟩) ?_ ?_
      rotate_left
      · intro w'
        go_simp
        with_reducible rfl
      rotate_left
      · simp only [Act.put, List.setIfInBounds_toArray, List.set_cons_zero, List.set_cons_succ, i64_w, i32_w]
        rfl
      refine pure_ (i := 10) (N := some 76) (v := ?_) (a' := ?_) #[true, true, false, true, true, true, true, true, false, false, true, false, false, false, false, false] rfl rfl (by kernel_rfl) (fun _ _ _ h => h) (Or.inl ⟨by rfl, ?_⟩) ?_ ?_
      rotate_left
      · intro w'
        go_simp
        with_reducible rfl
      rotate_left
      · simp only [Act.put, List.setIfInBounds_toArray, List.set_cons_zero, List.set_cons_succ, i64_w, i32_w]
        rfl
      refine pure_ (i := 12) (N := some 78) (v := ?_) (a' := ?_) #[true, true, false, true, true, true, true, true, false, false, true, false, true, false, false, false] rfl rfl (by kernel_rfl) (fun _ _ _ h => h) (Or.inl ⟨by rfl, ?_⟩) ?_ ?_
      rotate_left
      · intro w'
        go_simp
        with_reducible rfl
      rotate_left
      · simp only [Act.put, List.setIfInBounds_toArray, List.set_cons_zero, List.set_cons_succ, i64_w, i32_w]
        rfl
      refine pure_ (i := 13) (N := some 79) (v := ?_) (a' := ?_) #[true, true, false, true, true, true, true, true, false, false, true, false, true, true, false, false] rfl rfl (by kernel_rfl) (fun _ _ _ h => h) (Or.inl ⟨by rfl, ?_⟩) ?_ ?_
      rotate_left
      · intro w'
        go_simp
        with_reducible rfl
      rotate_left
      · simp only [Act.put, List.setIfInBounds_toArray, List.set_cons_zero, List.set_cons_succ, i64_w, i32_w]
        rfl
      refine take_ (i := 8) (N := some 74) (v := ?_) (a' := ?_) #[true, true, false, true, true, true, true, true, true, false, true, false, true, true, false, false] rfl rfl (by kernel_rfl) (fun _ _ _ h => h) (Or.inl ⟨by rfl, ?_⟩) hHeld ?_ ?_
      rotate_left
      · intro w' s0
        go_simp
        with_reducible rfl
      rotate_left
      · simp only [Act.put, List.setIfInBounds_toArray, List.set_cons_zero, List.set_cons_succ, i64_w, i32_w]
        rfl
      refine one_ (i := 2) (N := some 68) #[true, true, true, true, true, true, true, true, true, false, true, false, true, true, false, false] rfl rfl (by kernel_rfl) (by decide) (fun K hK => ?_)
      refine value_ (w1 := ?_) (v := ?_) (by rfl) rfl ?_ ?_
      rotate_left 2
      · go_simp
        constructor
        · rfl
        · rfl
      have HOe := Aside0.mk (own_empty wd)
      have HBe := Aside0.mk (below_alloc (Below.refl wd.heap.size wd) (.cells #[] 5))
      have HSe := Aside0.mk (HSd.out.keep (below_alloc (Below.refl _ _) (.cells #[] 5)))
      have HRTe := Aside0.mk (HRTd.out.below (below_alloc (Below.refl wd.heap.size wd) (.cells #[] 5)))
      have HRAe := Aside0.mk (HRAd.out.below (below_alloc (Below.refl wd.heap.size wd) (.cells #[] 5)))
      have xe := pw_cell_below (below_alloc (Below.refl _ _) (.cells #[] 5)) xt'
      generalize wd.alloc (.cells #[] 5) = we at HOe HBe HSe HRTe HRAe xe ⊢
      refine hK.out _ _ (xe) (fun hHeld => ?_)
      clear hK K
      refine norm_ (a' := ?_) ?_ ?_
      rotate_left
      · show Act.put _ (some 68) _ = _
        simp only [Act.put, List.setIfInBounds_toArray, List.set_cons_zero, List.set_cons_succ, i64_w, i32_w]
        rfl
      refine one_ (i := 9) (N := some 75) #[true, true, true, true, true, true, true, true, true, true, true, false, true, true, false, false] rfl rfl (by kernel_rfl) (by decide) (fun K hK => ?_)
      refine app_step (w0 := wd) wd.heap.size (by rfl) (.tmp 68) (.tmp 74) 22 5 .u8 1 rfl Try.underlying22 info5 (by decide) (.slice (some ⟨wd.heap.size, 0, none⟩) 0 0) [] lb At lb.length ct rfl rfl HOe.out HRTe.out HBe.out HBe.out.size (by have := HL.out; simp; omega) ?_
      intro v5 w5 hO hB hG hA
      have HO5 := Aside0.mk hO
      have HB5 := Aside0.mk hB
      have HS5 := Aside0.mk (HSd.out.keep hB)
      have HRA5 := Aside0.mk (HRAd.out.below hB)
      clear hO hB hG hA
      refine hK.out _ _ ((pw_cell_below HB5.out xt')) (fun hHeld => ?_)
      clear hK K
      refine norm_ (a' := ?_) ?_ ?_
      rotate_left
      · show Act.put _ (some 75) _ = _
        simp only [Act.put, List.setIfInBounds_toArray, List.set_cons_zero, List.set_cons_succ, i64_w, i32_w]
        rfl
      refine last_ (i := 11) (N := some 77) #[true, true, true, true, true, true, true, true, true, true, true, true, true, true, false, false] rfl rfl (by kernel_rfl) (by decide) (fun K hK => ?_)
      refine app_step (w0 := wd) wd.heap.size (by rfl) (.tmp 75) (.tmp 76) 22 5 .u8 1 rfl Try.underlying22 info5 (by decide) v5 ([] ++ lb) b A b.length c rfl rfl HO5.out HRA5.out HB5.out HB5.out.size (by have := HL.out; simp; omega) ?_
      intro v9 w9 hO hB hG hA
      rw [List.nil_append, ← HLM.out] at hO
      obtain ⟨A9, c9, e9⟩ := own_slice hO
      subst e9
      have HO9 := Aside0.mk hO
      have HB9 := Aside0.mk hB
      have HS9 := Aside0.mk (HSd.out.push hB (Res.row w0.heap.size 5 1 LM.length (.slice A9 LM.length c9) (nums .u8 LM)) (own_lower HO9.out HSd.out.B.size) (fun i hi => (own_ge hO i hi).1))
      have zb := blk_frozen ((hB.block gs (blk_lt HBK.out)).trans HBK.out) 5
      have xz := pw_cell_below hB xt'
      clear hO hB hG hA
      refine hK.out _ _ ?_
      clear hK K
      refine norm_ (a' := ?_) ?_ ?_
      rotate_left
      · show Act.put _ (some 77) _ = _
        simp only [Act.put, List.setIfInBounds_toArray, List.set_cons_zero, List.set_cons_succ, i64_w, i32_w]
        rfl
      refine pure_ (i := 14) (N := some 80) (v := ?_) (a' := ?_) #[true, true, true, true, true, true, true, true, true, true, true, true, true, true, true, false] rfl rfl (by kernel_rfl) (fun _ _ _ h => h) (Or.inl ⟨by rfl, ?_⟩) ?_ ?_
      rotate_left
      · intro w'
        go_simp
        with_reducible rfl
      rotate_left
      · simp only [Act.put, List.setIfInBounds_toArray, List.set_cons_zero, List.set_cons_succ, i64_w, i32_w]
        rfl
      refine last_ (i := 15) (N := none) #[true, true, true, true, true, true, true, true, true, true, true, true, true, true, true, true] rfl rfl (by kernel_rfl) (by decide) (fun K hK => ?_)
      refine skip_ (w1 := ?_) (by rfl) rfl ?_ ?_
      rotate_left
      · go_simp
        rfl
      refine hK.out _ _ ?_
      clear hK K
      refine done_ (by kernel_rfl) ?_
      have HSf := Aside0.mk (HS9.out.put 1 gs (stC seed wide ⟨ga, gb, gc, gd, ra, rb, rc, rd, t0, t1, t2, t3⟩) 57 rfl 5 (.slice A9 LM.length c9) (show 5 < 10 by decide))
      go_wp2
      go_ret
      have hLM := HLM.out
      subst hLM
      refine ⟨rfl, ⟨⟨ga, gb, gc, gd, ra, rv2, rc, rd, t0, .slice A9 (lb ++ b).length c9, t2, t3⟩, ?_⟩⟩
      have h := HSf.out.drop 7
      exact sep_perm h (perm_inw1 _ _ _ _ _ _ _ _)
set_option maxHeartbeats 16000000 in
set_option maxRecDepth 100000 in
theorem writes2 (w0 w : World) (gs : Nat) (seed wide : Int) (ga gb gc gd : Nat) (ra rb rc rd t0 t1 t2 t3 : Value) (la lb lc ld : List Int) (A : Option Addr) (c : Nat) (b : List Int) (hS : Sep w0 w (listS w0.heap.size gs seed wide ⟨ga, gb, gc, gd, ra, rb, rc, rd, t0, t1, t2, t3⟩ la lb lc ld)) (hr : ReadsInt w0 .u8 A b.length b) (hc : b.length ≤ c) (hb : Bytes (lc ++ b)) (hl : lc.length ≤ 1099511627776) (hbl : b.length ≤ 1099511627776) :
    Calls Try.prog 34 #[.pointer (some ⟨gs, 0, none⟩), .int .i64 2, .slice A b.length c] w fun e w' => e = .returned (.bool true) ∧ SI w0 w' gs seed wide la lb (lc ++ b) ld := by
  have HS := Aside0.mk hS
  have HR := Aside0.mk hr
  have HBY := Aside0.mk hb
  have HL := Aside0.mk (And.intro hl hbl)
  have HRw := Aside0.mk (hr.below hS.B)
  clear hS hr hb
  go_enter Try.func34, Try.ntmps34
  go_upto_region 2 with (first | (at_builtin; refine print_append_row (w0 := w) w.heap.size rfl (.tmp 11) (.tmp 12) 22 5 .u8 1 rfl Try.underlying22 info5 (by decide) (.slice (some ⟨w.heap.size, 0, none⟩) 0 0) [] b A b.length c rfl rfl (own_empty w) (HRw.out.below (below_alloc (Below.refl _ _) _)) (below_alloc (Below.refl _ _) _) (below_alloc (Below.refl _ _) _).size (by have := HL.out; simp; omega) ?_; intro v1 w1 hO hB hG hA; have HO1 := Aside0.mk hO; have HB1 := Aside0.mk hB; clear hO hB hG hA) | (at_builtin; refine print_append_row (w0 := w) w.heap.size rfl (.tmp 13) (.tmp 14) 22 5 .u8 1 rfl Try.underlying22 info5 (by decide) v1 b [1, 2, 3] (some ⟨w1.heap.size, 0, none⟩) 3 3 rfl rfl (own_fr (Fr.of_below (below_alloc (Below.refl _ _) _) (fun _ => True)) HO1.out (fun _ _ => trivial)) (reads_123 w1) (below_alloc HB1.out _) (below_alloc HB1.out _).size (by have := HL.out; omega) ?_; intro v2 w2 hO hB hG hA; have HO2 := Aside0.mk hO; have HB2 := Aside0.mk hB; clear hO hB hG hA HO1 HB1))
  have hLn : (b ++ [1, 2, 3]).length = b.length + 3 := by simp
  obtain ⟨gi, ci, ev, hci⟩ := own_sliceN HO2.out (by omega)
  obtain ⟨LN, hLN⟩ : ∃ LN, LN = b ++ [1, 2, 3] := ⟨_, rfl⟩
  rw [← hLN] at HO2 hLn ev hci
  subst ev
  have HLN := Aside0.mk hLN
  have HLE := Aside0.mk (show LN.length ≤ 1099511627779 by have := HL.out; omega)
  have HS2 := Aside0.mk (HS.out.push HB2.out (Res.row w.heap.size 5 1 LN.length (.slice (some ⟨gi, 0, none⟩) LN.length ci) (nums .u8 LN)) HO2.out (fun i hi => (own_ge HO2.out i hi).1))
  have HRL := Aside0.mk (own_reads' HO2.out)
  have HRB := Aside0.mk (show ReadsInt w2 .u8 (some ⟨gi, 0, none⟩) b.length b from reads_take (m := [1, 2, 3]) (by have := HRL.out; rw [HLN.out] at this; exact this))
  have hb0 : (0 : Int) ≤ (b.length : Int) := by omega
  have hb1 : (b.length : Int) ≤ (ci : Int) := by omega
  clear HS HO2 HB2 hLN HRw hLn
  have p0 : w2.cell? ⟨gs, 2, none⟩ = some (.pointer (some ⟨gc, 0, none⟩)) := cell_of_row w2 gs 2 _ 57 (0, 0) (HS2.out.h _ (List.mem_cons_of_mem _ List.mem_cons_self))
  have HW := Aside0.mk (Write64_calls (some ⟨gi, 0, none⟩) ci b lc gc w0.heap.size rc seed w2 HRB.out HBY.out (res64_d (HS2.out.h _ (List.mem_cons_of_mem _ (List.mem_cons_of_mem _ (List.mem_cons_of_mem _ (List.mem_cons_of_mem _ (List.mem_cons_self))))))) HS2.out.B.size (by have := HL.out; omega))
  go_upto_region 11 with (go_at_call 29; refine HW.out.mono ?_; rintro e w3 ⟨rfl, rv2, hd, hf⟩; have HS3 := Aside0.mk (HS2.out.upd 4 _ (res64 w0.heap.size gc seed (lc ++ b) rv2) rfl (d_res64 (hd.lower HS2.out.B.size)) (hf.mono (fun i _ hi => ⟨fun e => hi (.inl e), fun e => hi (.inr e)⟩)) (fun i hi => hi.elim (fun e => .inl (.inl e)) (fun e => .inr (own_ge hd.o i e).1))); clear hd hf)
  clear HW HS2 HRL HRB p0 hb0 hb1
  have hrow3 : w3.ownsRow w.heap.size 5 1 (.slice (some ⟨gi, 0, none⟩) LN.length ci) LN.length (nums .u8 LN) := HS3.out.h (Res.row w.heap.size 5 1 LN.length (.slice (some ⟨gi, 0, none⟩) LN.length ci) (nums .u8 LN)) List.mem_cons_self
  have kA : (convert 22 9 (.slice (some ⟨gi, 0, none⟩) LN.length ci)).run Try.prog w3 = .ok (.string (strOfNums LN)) w3 := own_string Try.underlying22 Try.underlying5 Try.underlying9 hrow3
  have kB : (convert 22 9 (.slice A b.length c)).run Try.prog w3 = .ok (.string (strOfNums b)) w3 := string_of_reads Try.underlying22 Try.underlying5 Try.underlying9 (HR.out.below HS3.out.B)
  have kS : strOfNums LN = strOfNums b ++ { data := #[1, 2, 3] } := by rw [HLN.out]; exact str_three b
  have kz : (strOfNums b).size = b.length := strOfNums_size b
  have kl : (strOfNums b).size + 3 ≤ 9223372036854775807 := by have := HL.out; omega
  have kl1 : decide ((strOfNums b).size + 3 ≤ 9223372036854775807) = true := decide_eq_true kl
  have kl2 : (9223372036854775807 < (strOfNums b).size + 3) = False := eq_false (Nat.not_lt.2 kl)
  clear hrow3
  go_upto_region 12 with fail
  clear kA kB kS kz kl kl1 kl2
  have HS4 := Aside0.mk (show ∃ cs : List Value, cs.length = LN.length ∧ Sep w0 w3 (Res.row w.heap.size 5 1 LN.length (.slice (some ⟨gi, 0, none⟩) LN.length ci) cs :: (listS w0.heap.size gs seed wide ⟨ga, gb, gc, gd, ra, rb, rc, rd, t0, t1, t2, t3⟩ la lb lc ld).set (1 + 2) (res64 w0.heap.size gc seed (lc ++ b) rv2)) from ⟨nums .u8 LN, by simp [nums], HS3.out⟩)
  clear HS3 hci
  go_wp2_with fail
  go_loopg [10] LN.length (fun kq v10 wc => ∃ i : Nat, kq + i = LN.length ∧ v10 = .int .i64 i ∧ Aside0 (∃ cs : List Value, cs.length = LN.length ∧ Sep w0 wc (Res.row w.heap.size 5 1 LN.length (.slice (some ⟨gi, 0, none⟩) LN.length ci) cs :: (listS w0.heap.size gs seed wide ⟨ga, gb, gc, gd, ra, rb, rc, rd, t0, t1, t2, t3⟩ la lb lc ld).set (1 + 2) (res64 w0.heap.size gc seed (lc ++ b) rv2))))
  case atStart => exact ⟨0, by omega, rfl, HS4⟩
  case round =>
    clear HS4
    obtain ⟨i, hk, rfl, HS⟩ := hrel
    cases gk with
    | succ k1 =>
      have hilt : (i : Int) < (LN.length : Int) := by omega
      have hi0 : (0 : Int) ≤ (i : Int) := by omega
      obtain ⟨cs, hcs, hS⟩ := HS.out
      have hrow : wr.ownsRow w.heap.size 5 1 (.slice (some ⟨gi, 0, none⟩) LN.length ci) LN.length cs := hS.h _ List.mem_cons_self
      have y0 : wr.cell? ⟨gi, i, none⟩ = some cs[i] := by rw [World.ownsRow.cellAt hrow i (by omega), List.getElem?_eq_getElem]
      have z0 := World.ownsRow.frozenAt hrow i
      have HS3 := Aside0.mk (hS.store i (.int .u8 238))
      have HCS := Aside0.mk (show (cs.set i (.int .u8 238)).length = LN.length by rw [List.length_set, hcs])
      generalize cs[i] = a0 at y0
      clear hS hrow hcs HS
      have hwi : wrap64 ((i : Int) + 1) = (i : Int) + 1 := IntWalk.wrap64_in _ (by have := HLE.out; omega)
      go_wp2
      go_roundg k1
      case measure => clear hwi; omega
      case rel => exact ⟨i + 1, by clear hwi; omega, by simp [hwi], ⟨_, HCS.out, HS3.out⟩⟩
    | zero =>
      have hge : ¬ ((i : Int) < (LN.length : Int)) := by omega
      obtain ⟨LM, hLM⟩ : ∃ LM, LM = lc ++ b := ⟨_, rfl⟩
      have HLM := Aside0.mk hLM
      clear hLM
      obtain ⟨cs, hcs, hS⟩ := HS.out
      have HS5 := Aside0.mk (hS.drop 0)
      have hblk : wr.heap[gs]? = some (.cells (stC seed wide ⟨ga, gb, gc, gd, ra, rb, rc, rd, t0, t1, t2, t3⟩) 57 (0, 0)) := HS5.out.h _ List.mem_cons_self
      have hrt : wr.ownsRow w0.heap.size 5 1 t2 lc.length (nums .u8 lc) := HS5.out.h _ (List.mem_cons_of_mem _ (List.mem_cons_of_mem _ (List.mem_cons_of_mem _ (List.mem_cons_of_mem _ (List.mem_cons_of_mem _ (List.mem_cons_of_mem _ (List.mem_cons_of_mem _ (List.mem_cons_self))))))))
      obtain ⟨At, ct, et⟩ := own_slice hrt
      rw [et] at hrt
      have HRT := Aside0.mk (own_reads' hrt)
      have HRA := Aside0.mk (HR.out.below HS5.out.B)
      have xt : wr.cell? ⟨gs, 6, none⟩ = some (.slice At lc.length ct) := by rw [← et]; exact cell_of_row wr gs 6 _ 57 (0, 0) hblk
      have xt' : wr.drew.cell? ⟨gs, 6, none⟩ = some (.slice At lc.length ct) := xt
      have HBK := Aside0.mk (show wr.drew.heap[gs]? = some (.cells (stC seed wide ⟨ga, gb, gc, gd, ra, rb, rc, rd, t0, t1, t2, t3⟩) 57 (0, 0)) from hblk)
      have HSd := Aside0.mk (HS5.out.drew)
      have HRTd := Aside0.mk (show ReadsInt wr.drew .u8 At lc.length lc from HRT.out)
      have HRAd := Aside0.mk (show ReadsInt wr.drew .u8 A b.length b from HRA.out)
      clear HS hS hcs HS5 hblk hrt et HRT HRA xt
      go_upto_region 16 with fail
      refine start_ (n := 16) (S := fun w' => w'.cell? ⟨gs, 6, none⟩ = some (.slice At lc.length ct)) (ds := [11, 15]) #[false, false, false, false, false, false, false, false, false, false, false, false, false, false, false, false] (by kernel_rfl) rfl rfl (xt') (fun hHeld => ?_)
      generalize wr.drew = wd at HSd HRTd HRAd HBK xt' hHeld ⊢
      refine pure_ (i := 0) (N := some 66) (v := ?_) (a' := ?_) #[true, false, false, false, false, false, false, false, false, false, false, false, false, false, false, false] rfl rfl (by kernel_rfl) (fun _ _ _ h => h) (Or.inl ⟨by rfl, ?_⟩) ?_ ?_
      rotate_left
      · intro w'
        go_simp
        with_reducible rfl
      rotate_left
      · simp only [Act.put, List.setIfInBounds_toArray, List.set_cons_zero, List.set_cons_succ, i64_w, i32_w]
        rfl
      refine pure_ (i := 1) (N := some 67) (v := ?_) (a' := ?_) #[true, true, false, false, false, false, false, false, false, false, false, false, false, false, false, false] rfl rfl (by kernel_rfl) (fun _ _ _ h => h) (Or.inl ⟨by rfl, ?_⟩) ?_ ?_
      rotate_left
      · intro w'
        go_simp
        with_reducible rfl
      rotate_left
      · simp only [Act.put, List.setIfInBounds_toArray, List.set_cons_zero, List.set_cons_succ, i64_w, i32_w]
        rfl
      refine pure_ (i := 3) (N := some 69) (v := ?_) (a' := ?_) #[true, true, false, true, false, false, false, false, false, false, false, false, false, false, false, false] rfl rfl (by kernel_rfl) (fun _ _ _ h => h) (Or.inl ⟨by rfl, ?_⟩) ?_ ?_
      rotate_left
      · intro w'
        go_simp
        with_reducible rfl
      rotate_left
      · simp only [Act.put, List.setIfInBounds_toArray, List.set_cons_zero, List.set_cons_succ, i64_w, i32_w]
        rfl
      refine pure_ (i := 4) (N := some 70) (v := ?_) (a' := ?_) #[true, true, false, true, true, false, false, false, false, false, false, false, false, false, false, false] rfl rfl (by kernel_rfl) (fun _ _ _ h => h) (Or.inl ⟨by rfl, ?_⟩) ?_ ?_
      rotate_left
      · intro w'
        go_simp
        with_reducible rfl
      rotate_left
      · simp only [Act.put, List.setIfInBounds_toArray, List.set_cons_zero, List.set_cons_succ, i64_w, i32_w]
        rfl
      refine pure_ (i := 5) (N := some 71) (v := ?_) (a' := ?_) #[true, true, false, true, true, true, false, false, false, false, false, false, false, false, false, false] rfl rfl (by kernel_rfl) (fun _ _ _ h => h) (Or.inl ⟨by rfl, ?_⟩) ?_ ?_
      rotate_left
      · intro w'
        go_simp
        with_reducible rfl
      rotate_left
      · simp only [Act.put, List.setIfInBounds_toArray, List.set_cons_zero, List.set_cons_succ, i64_w, i32_w]
        rfl
      refine pure_ (i := 6) (N := some 72) (v := ?_) (a' := ?_) #[true, true, false, true, true, true, true, false, false, false, false, false, false, false, false, false] rfl rfl (by kernel_rfl) (fun _ _ _ h => h) (Or.inl ⟨by rfl, ?_⟩) ?_ ?_
      rotate_left
      · intro w'
        go_simp
        with_reducible rfl
      rotate_left
      · simp only [Act.put, List.setIfInBounds_toArray, List.set_cons_zero, List.set_cons_succ, i64_w, i32_w]
        rfl
      refine pure_ (i := 7) (N := some 73) (v := ?_) (a' := ?_) #[true, true, false, true, true, true, true, true, false, false, false, false, false, false, false, false] rfl rfl (by kernel_rfl) (fun _ _ _ h => h) (Or.inl ⟨by rfl, ?_⟩) ?_ ?_
      rotate_left
      · intro w'
        go_simp
        with_reducible rfl
      rotate_left
      · simp only [Act.put, List.setIfInBounds_toArray, List.set_cons_zero, List.set_cons_succ, i64_w, i32_w]
        rfl
      refine pure_ (i := 10) (N := some 76) (v := ?_) (a' := ?_) #[true, true, false, true, true, true, true, true, false, false, true, false, false, false, false, false] rfl rfl (by kernel_rfl) (fun _ _ _ h => h) (Or.inl ⟨by rfl, ?_⟩) ?_ ?_
      rotate_left
      · intro w'
        go_simp
        with_reducible rfl
      rotate_left
      · simp only [Act.put, List.setIfInBounds_toArray, List.set_cons_zero, List.set_cons_succ, i64_w, i32_w]
        rfl
      refine pure_ (i := 12) (N := some 78) (v := ?_) (a' := ?_) #[true, true, false, true, true, true, true, true, false, false, true, false, true, false, false, false] rfl rfl (by kernel_rfl) (fun _ _ _ h => h) (Or.inl ⟨by rfl, ?_⟩) ?_ ?_
      rotate_left
      · intro w'
        go_simp
        with_reducible rfl
      rotate_left
      · simp only [Act.put, List.setIfInBounds_toArray, List.set_cons_zero, List.set_cons_succ, i64_w, i32_w]
        rfl
      refine pure_ (i := 13) (N := some 79) (v := ?_) (a' := ?_) #[true, true, false, true, true, true, true, true, false, false, true, false, true, true, false, false] rfl rfl (by kernel_rfl) (fun _ _ _ h => h) (Or.inl ⟨by rfl, ?_⟩) ?_ ?_
      rotate_left
      · intro w'
        go_simp
        with_reducible rfl
      rotate_left
      · simp only [Act.put, List.setIfInBounds_toArray, List.set_cons_zero, List.set_cons_succ, i64_w, i32_w]
        rfl
      refine take_ (i := 8) (N := some 74) (v := ?_) (a' := ?_) #[true, true, false, true, true, true, true, true, true, false, true, false, true, true, false, false] rfl rfl (by kernel_rfl) (fun _ _ _ h => h) (Or.inl ⟨by rfl, ?_⟩) hHeld ?_ ?_
      rotate_left
      · intro w' s0
        go_simp
        with_reducible rfl
      rotate_left
      · simp only [Act.put, List.setIfInBounds_toArray, List.set_cons_zero, List.set_cons_succ, i64_w, i32_w]
        rfl
      refine one_ (i := 2) (N := some 68) #[true, true, true, true, true, true, true, true, true, false, true, false, true, true, false, false] rfl rfl (by kernel_rfl) (by decide) (fun K hK => ?_)
      refine value_ (w1 := ?_) (v := ?_) (by rfl) rfl ?_ ?_
      rotate_left 2
      · go_simp
        constructor
        · rfl
        · rfl
      have HOe := Aside0.mk (own_empty wd)
      have HBe := Aside0.mk (below_alloc (Below.refl wd.heap.size wd) (.cells #[] 5))
      have HSe := Aside0.mk (HSd.out.keep (below_alloc (Below.refl _ _) (.cells #[] 5)))
      have HRTe := Aside0.mk (HRTd.out.below (below_alloc (Below.refl wd.heap.size wd) (.cells #[] 5)))
      have HRAe := Aside0.mk (HRAd.out.below (below_alloc (Below.refl wd.heap.size wd) (.cells #[] 5)))
      have xe := pw_cell_below (below_alloc (Below.refl _ _) (.cells #[] 5)) xt'
      generalize wd.alloc (.cells #[] 5) = we at HOe HBe HSe HRTe HRAe xe ⊢
      refine hK.out _ _ (xe) (fun hHeld => ?_)
      clear hK K
      refine norm_ (a' := ?_) ?_ ?_
      rotate_left
      · show Act.put _ (some 68) _ = _
        simp only [Act.put, List.setIfInBounds_toArray, List.set_cons_zero, List.set_cons_succ, i64_w, i32_w]
        rfl
      refine one_ (i := 9) (N := some 75) #[true, true, true, true, true, true, true, true, true, true, true, false, true, true, false, false] rfl rfl (by kernel_rfl) (by decide) (fun K hK => ?_)
      refine app_step (w0 := wd) wd.heap.size (by rfl) (.tmp 68) (.tmp 74) 22 5 .u8 1 rfl Try.underlying22 info5 (by decide) (.slice (some ⟨wd.heap.size, 0, none⟩) 0 0) [] lc At lc.length ct rfl rfl HOe.out HRTe.out HBe.out HBe.out.size (by have := HL.out; simp; omega) ?_
      intro v5 w5 hO hB hG hA
      have HO5 := Aside0.mk hO
      have HB5 := Aside0.mk hB
      have HS5 := Aside0.mk (HSd.out.keep hB)
      have HRA5 := Aside0.mk (HRAd.out.below hB)
      clear hO hB hG hA
      refine hK.out _ _ ((pw_cell_below HB5.out xt')) (fun hHeld => ?_)
      clear hK K
      refine norm_ (a' := ?_) ?_ ?_
      rotate_left
      · show Act.put _ (some 75) _ = _
        simp only [Act.put, List.setIfInBounds_toArray, List.set_cons_zero, List.set_cons_succ, i64_w, i32_w]
        rfl
      refine last_ (i := 11) (N := some 77) #[true, true, true, true, true, true, true, true, true, true, true, true, true, true, false, false] rfl rfl (by kernel_rfl) (by decide) (fun K hK => ?_)
      refine app_step (w0 := wd) wd.heap.size (by rfl) (.tmp 75) (.tmp 76) 22 5 .u8 1 rfl Try.underlying22 info5 (by decide) v5 ([] ++ lc) b A b.length c rfl rfl HO5.out HRA5.out HB5.out HB5.out.size (by have := HL.out; simp; omega) ?_
      intro v9 w9 hO hB hG hA
      rw [List.nil_append, ← HLM.out] at hO
      obtain ⟨A9, c9, e9⟩ := own_slice hO
      subst e9
      have HO9 := Aside0.mk hO
      have HB9 := Aside0.mk hB
      have HS9 := Aside0.mk (HSd.out.push hB (Res.row w0.heap.size 5 1 LM.length (.slice A9 LM.length c9) (nums .u8 LM)) (own_lower HO9.out HSd.out.B.size) (fun i hi => (own_ge hO i hi).1))
      have zb := blk_frozen ((hB.block gs (blk_lt HBK.out)).trans HBK.out) 6
      have xz := pw_cell_below hB xt'
      clear hO hB hG hA
      refine hK.out _ _ ?_
      clear hK K
      refine norm_ (a' := ?_) ?_ ?_
      rotate_left
      · show Act.put _ (some 77) _ = _
        simp only [Act.put, List.setIfInBounds_toArray, List.set_cons_zero, List.set_cons_succ, i64_w, i32_w]
        rfl
      refine pure_ (i := 14) (N := some 80) (v := ?_) (a' := ?_) #[true, true, true, true, true, true, true, true, true, true, true, true, true, true, true, false] rfl rfl (by kernel_rfl) (fun _ _ _ h => h) (Or.inl ⟨by rfl, ?_⟩) ?_ ?_
      rotate_left
      · intro w'
        go_simp
        with_reducible rfl
      rotate_left
      · simp only [Act.put, List.setIfInBounds_toArray, List.set_cons_zero, List.set_cons_succ, i64_w, i32_w]
        rfl
      refine last_ (i := 15) (N := none) #[true, true, true, true, true, true, true, true, true, true, true, true, true, true, true, true] rfl rfl (by kernel_rfl) (by decide) (fun K hK => ?_)
      refine skip_ (w1 := ?_) (by rfl) rfl ?_ ?_
      rotate_left
      · go_simp
        rfl
      refine hK.out _ _ ?_
      clear hK K
      refine done_ (by kernel_rfl) ?_
      have HSf := Aside0.mk (HS9.out.put 1 gs (stC seed wide ⟨ga, gb, gc, gd, ra, rb, rc, rd, t0, t1, t2, t3⟩) 57 rfl 6 (.slice A9 LM.length c9) (show 6 < 10 by decide))
      go_wp2
      go_ret
      have hLM := HLM.out
      subst hLM
      refine ⟨rfl, ⟨⟨ga, gb, gc, gd, ra, rb, rv2, rd, t0, t1, .slice A9 (lc ++ b).length c9, t3⟩, ?_⟩⟩
      have h := HSf.out.drop 8
      exact sep_perm h (perm_inw2 _ _ _ _ _ _ _ _ _)
set_option maxHeartbeats 16000000 in
set_option maxRecDepth 100000 in
theorem writes3 (w0 w : World) (gs : Nat) (seed wide : Int) (ga gb gc gd : Nat) (ra rb rc rd t0 t1 t2 t3 : Value) (la lb lc ld : List Int) (A : Option Addr) (c : Nat) (b : List Int) (hS : Sep w0 w (listS w0.heap.size gs seed wide ⟨ga, gb, gc, gd, ra, rb, rc, rd, t0, t1, t2, t3⟩ la lb lc ld)) (hr : ReadsInt w0 .u8 A b.length b) (hc : b.length ≤ c) (hb : Bytes (ld ++ b)) (hl : ld.length ≤ 1099511627776) (hbl : b.length ≤ 1099511627776) :
    Calls Try.prog 34 #[.pointer (some ⟨gs, 0, none⟩), .int .i64 3, .slice A b.length c] w fun e w' => e = .returned (.bool true) ∧ SI w0 w' gs seed wide la lb lc (ld ++ b) := by
  have HS := Aside0.mk hS
  have HR := Aside0.mk hr
  have HBY := Aside0.mk hb
  have HL := Aside0.mk (And.intro hl hbl)
  have HRw := Aside0.mk (hr.below hS.B)
  clear hS hr hb
  go_enter Try.func34, Try.ntmps34
  go_upto_region 2 with (first | (at_builtin; refine print_append_row (w0 := w) w.heap.size rfl (.tmp 11) (.tmp 12) 22 5 .u8 1 rfl Try.underlying22 info5 (by decide) (.slice (some ⟨w.heap.size, 0, none⟩) 0 0) [] b A b.length c rfl rfl (own_empty w) (HRw.out.below (below_alloc (Below.refl _ _) _)) (below_alloc (Below.refl _ _) _) (below_alloc (Below.refl _ _) _).size (by have := HL.out; simp; omega) ?_; intro v1 w1 hO hB hG hA; have HO1 := Aside0.mk hO; have HB1 := Aside0.mk hB; clear hO hB hG hA) | (at_builtin; refine print_append_row (w0 := w) w.heap.size rfl (.tmp 13) (.tmp 14) 22 5 .u8 1 rfl Try.underlying22 info5 (by decide) v1 b [1, 2, 3] (some ⟨w1.heap.size, 0, none⟩) 3 3 rfl rfl (own_fr (Fr.of_below (below_alloc (Below.refl _ _) _) (fun _ => True)) HO1.out (fun _ _ => trivial)) (reads_123 w1) (below_alloc HB1.out _) (below_alloc HB1.out _).size (by have := HL.out; omega) ?_; intro v2 w2 hO hB hG hA; have HO2 := Aside0.mk hO; have HB2 := Aside0.mk hB; clear hO hB hG hA HO1 HB1))
  have hLn : (b ++ [1, 2, 3]).length = b.length + 3 := by simp
  obtain ⟨gi, ci, ev, hci⟩ := own_sliceN HO2.out (by omega)
  obtain ⟨LN, hLN⟩ : ∃ LN, LN = b ++ [1, 2, 3] := ⟨_, rfl⟩
  rw [← hLN] at HO2 hLn ev hci
  subst ev
  have HLN := Aside0.mk hLN
  have HLE := Aside0.mk (show LN.length ≤ 1099511627779 by have := HL.out; omega)
  have HS2 := Aside0.mk (HS.out.push HB2.out (Res.row w.heap.size 5 1 LN.length (.slice (some ⟨gi, 0, none⟩) LN.length ci) (nums .u8 LN)) HO2.out (fun i hi => (own_ge HO2.out i hi).1))
  have HRL := Aside0.mk (own_reads' HO2.out)
  have HRB := Aside0.mk (show ReadsInt w2 .u8 (some ⟨gi, 0, none⟩) b.length b from reads_take (m := [1, 2, 3]) (by have := HRL.out; rw [HLN.out] at this; exact this))
  have hb0 : (0 : Int) ≤ (b.length : Int) := by omega
  have hb1 : (b.length : Int) ≤ (ci : Int) := by omega
  clear HS HO2 HB2 hLN HRw hLn
  have p0 : w2.cell? ⟨gs, 3, none⟩ = some (.pointer (some ⟨gd, 0, none⟩)) := cell_of_row w2 gs 3 _ 57 (0, 0) (HS2.out.h _ (List.mem_cons_of_mem _ List.mem_cons_self))
  have HW := Aside0.mk (Write64_calls (some ⟨gi, 0, none⟩) ci b ld gd w0.heap.size rd wide w2 HRB.out HBY.out (res64_d (HS2.out.h _ (List.mem_cons_of_mem _ (List.mem_cons_of_mem _ (List.mem_cons_of_mem _ (List.mem_cons_of_mem _ (List.mem_cons_of_mem _ (List.mem_cons_self)))))))) HS2.out.B.size (by have := HL.out; omega))
  go_upto_region 11 with (go_at_call 29; refine HW.out.mono ?_; rintro e w3 ⟨rfl, rv2, hd, hf⟩; have HS3 := Aside0.mk (HS2.out.upd 5 _ (res64 w0.heap.size gd wide (ld ++ b) rv2) rfl (d_res64 (hd.lower HS2.out.B.size)) (hf.mono (fun i _ hi => ⟨fun e => hi (.inl e), fun e => hi (.inr e)⟩)) (fun i hi => hi.elim (fun e => .inl (.inl e)) (fun e => .inr (own_ge hd.o i e).1))); clear hd hf)
  clear HW HS2 HRL HRB p0 hb0 hb1
  have hrow3 : w3.ownsRow w.heap.size 5 1 (.slice (some ⟨gi, 0, none⟩) LN.length ci) LN.length (nums .u8 LN) := HS3.out.h (Res.row w.heap.size 5 1 LN.length (.slice (some ⟨gi, 0, none⟩) LN.length ci) (nums .u8 LN)) List.mem_cons_self
  have kA : (convert 22 9 (.slice (some ⟨gi, 0, none⟩) LN.length ci)).run Try.prog w3 = .ok (.string (strOfNums LN)) w3 := own_string Try.underlying22 Try.underlying5 Try.underlying9 hrow3
  have kB : (convert 22 9 (.slice A b.length c)).run Try.prog w3 = .ok (.string (strOfNums b)) w3 := string_of_reads Try.underlying22 Try.underlying5 Try.underlying9 (HR.out.below HS3.out.B)
  have kS : strOfNums LN = strOfNums b ++ { data := #[1, 2, 3] } := by rw [HLN.out]; exact str_three b
  have kz : (strOfNums b).size = b.length := strOfNums_size b
  have kl : (strOfNums b).size + 3 ≤ 9223372036854775807 := by have := HL.out; omega
  have kl1 : decide ((strOfNums b).size + 3 ≤ 9223372036854775807) = true := decide_eq_true kl
  have kl2 : (9223372036854775807 < (strOfNums b).size + 3) = False := eq_false (Nat.not_lt.2 kl)
  clear hrow3
  go_upto_region 12 with fail
  clear kA kB kS kz kl kl1 kl2
  have HS4 := Aside0.mk (show ∃ cs : List Value, cs.length = LN.length ∧ Sep w0 w3 (Res.row w.heap.size 5 1 LN.length (.slice (some ⟨gi, 0, none⟩) LN.length ci) cs :: (listS w0.heap.size gs seed wide ⟨ga, gb, gc, gd, ra, rb, rc, rd, t0, t1, t2, t3⟩ la lb lc ld).set (1 + 3) (res64 w0.heap.size gd wide (ld ++ b) rv2)) from ⟨nums .u8 LN, by simp [nums], HS3.out⟩)
  clear HS3 hci
  go_wp2_with fail
  go_loopg [10] LN.length (fun kq v10 wc => ∃ i : Nat, kq + i = LN.length ∧ v10 = .int .i64 i ∧ Aside0 (∃ cs : List Value, cs.length = LN.length ∧ Sep w0 wc (Res.row w.heap.size 5 1 LN.length (.slice (some ⟨gi, 0, none⟩) LN.length ci) cs :: (listS w0.heap.size gs seed wide ⟨ga, gb, gc, gd, ra, rb, rc, rd, t0, t1, t2, t3⟩ la lb lc ld).set (1 + 3) (res64 w0.heap.size gd wide (ld ++ b) rv2))))
  case atStart => exact ⟨0, by omega, rfl, HS4⟩
  case round =>
    clear HS4
    obtain ⟨i, hk, rfl, HS⟩ := hrel
    cases gk with
    | succ k1 =>
      have hilt : (i : Int) < (LN.length : Int) := by omega
      have hi0 : (0 : Int) ≤ (i : Int) := by omega
      obtain ⟨cs, hcs, hS⟩ := HS.out
      have hrow : wr.ownsRow w.heap.size 5 1 (.slice (some ⟨gi, 0, none⟩) LN.length ci) LN.length cs := hS.h _ List.mem_cons_self
      have y0 : wr.cell? ⟨gi, i, none⟩ = some cs[i] := by rw [World.ownsRow.cellAt hrow i (by omega), List.getElem?_eq_getElem]
      have z0 := World.ownsRow.frozenAt hrow i
      have HS3 := Aside0.mk (hS.store i (.int .u8 238))
      have HCS := Aside0.mk (show (cs.set i (.int .u8 238)).length = LN.length by rw [List.length_set, hcs])
      generalize cs[i] = a0 at y0
      clear hS hrow hcs HS
      have hwi : wrap64 ((i : Int) + 1) = (i : Int) + 1 := IntWalk.wrap64_in _ (by have := HLE.out; omega)
      go_wp2
      go_roundg k1
      case measure => clear hwi; omega
      case rel => exact ⟨i + 1, by clear hwi; omega, by simp [hwi], ⟨_, HCS.out, HS3.out⟩⟩
    | zero =>
      have hge : ¬ ((i : Int) < (LN.length : Int)) := by omega
      obtain ⟨LM, hLM⟩ : ∃ LM, LM = ld ++ b := ⟨_, rfl⟩
      have HLM := Aside0.mk hLM
      clear hLM
      obtain ⟨cs, hcs, hS⟩ := HS.out
      have HS5 := Aside0.mk (hS.drop 0)
      have hblk : wr.heap[gs]? = some (.cells (stC seed wide ⟨ga, gb, gc, gd, ra, rb, rc, rd, t0, t1, t2, t3⟩) 57 (0, 0)) := HS5.out.h _ List.mem_cons_self
      have hrt : wr.ownsRow w0.heap.size 5 1 t3 ld.length (nums .u8 ld) := HS5.out.h _ (List.mem_cons_of_mem _ (List.mem_cons_of_mem _ (List.mem_cons_of_mem _ (List.mem_cons_of_mem _ (List.mem_cons_of_mem _ (List.mem_cons_of_mem _ (List.mem_cons_of_mem _ (List.mem_cons_of_mem _ (List.mem_cons_self)))))))))
      obtain ⟨At, ct, et⟩ := own_slice hrt
      rw [et] at hrt
      have HRT := Aside0.mk (own_reads' hrt)
      have HRA := Aside0.mk (HR.out.below HS5.out.B)
      have xt : wr.cell? ⟨gs, 7, none⟩ = some (.slice At ld.length ct) := by rw [← et]; exact cell_of_row wr gs 7 _ 57 (0, 0) hblk
      have xt' : wr.drew.cell? ⟨gs, 7, none⟩ = some (.slice At ld.length ct) := xt
      have HBK := Aside0.mk (show wr.drew.heap[gs]? = some (.cells (stC seed wide ⟨ga, gb, gc, gd, ra, rb, rc, rd, t0, t1, t2, t3⟩) 57 (0, 0)) from hblk)
      have HSd := Aside0.mk (HS5.out.drew)
      have HRTd := Aside0.mk (show ReadsInt wr.drew .u8 At ld.length ld from HRT.out)
      have HRAd := Aside0.mk (show ReadsInt wr.drew .u8 A b.length b from HRA.out)
      clear HS hS hcs HS5 hblk hrt et HRT HRA xt
      go_upto_region 16 with fail
      refine start_ (n := 16) (S := fun w' => w'.cell? ⟨gs, 7, none⟩ = some (.slice At ld.length ct)) (ds := [11, 15]) #[false, false, false, false, false, false, false, false, false, false, false, false, false, false, false, false] (by kernel_rfl) rfl rfl (xt') (fun hHeld => ?_)
      generalize wr.drew = wd at HSd HRTd HRAd HBK xt' hHeld ⊢
      refine pure_ (i := 0) (N := some 66) (v := ?_) (a' := ?_) #[true, false, false, false, false, false, false, false, false, false, false, false, false, false, false, false] rfl rfl (by kernel_rfl) (fun _ _ _ h => h) (Or.inl ⟨by rfl, ?_⟩) ?_ ?_
      rotate_left
      · intro w'
        go_simp
        with_reducible rfl
      rotate_left
      · simp only [Act.put, List.setIfInBounds_toArray, List.set_cons_zero, List.set_cons_succ, i64_w, i32_w]
        rfl
      refine pure_ (i := 1) (N := some 67) (v := ?_) (a' := ?_) #[true, true, false, false, false, false, false, false, false, false, false, false, false, false, false, false] rfl rfl (by kernel_rfl) (fun _ _ _ h => h) (Or.inl ⟨by rfl, ?_⟩) ?_ ?_
      rotate_left
      · intro w'
        go_simp
        with_reducible rfl
      rotate_left
      · simp only [Act.put, List.setIfInBounds_toArray, List.set_cons_zero, List.set_cons_succ, i64_w, i32_w]
        rfl
      refine pure_ (i := 3) (N := some 69) (v := ?_) (a' := ?_) #[true, true, false, true, false, false, false, false, false, false, false, false, false, false, false, false] rfl rfl (by kernel_rfl) (fun _ _ _ h => h) (Or.inl ⟨by rfl, ?_⟩) ?_ ?_
      rotate_left
      · intro w'
        go_simp
        with_reducible rfl
      rotate_left
      · simp only [Act.put, List.setIfInBounds_toArray, List.set_cons_zero, List.set_cons_succ, i64_w, i32_w]
        rfl
      refine pure_ (i := 4) (N := some 70) (v := ?_) (a' := ?_) #[true, true, false, true, true, false, false, false, false, false, false, false, false, false, false, false] rfl rfl (by kernel_rfl) (fun _ _ _ h => h) (Or.inl ⟨by rfl, ?_⟩) ?_ ?_
      rotate_left
      · intro w'
        go_simp
        with_reducible rfl
      rotate_left
      · simp only [Act.put, List.setIfInBounds_toArray, List.set_cons_zero, List.set_cons_succ, i64_w, i32_w]
        rfl
      refine pure_ (i := 5) (N := some 71) (v := ?_) (a' := ?_) #[true, true, false, true, true, true, false, false, false, false, false, false, false, false, false, false] rfl rfl (by kernel_rfl) (fun _ _ _ h => h) (Or.inl ⟨by rfl, ?_⟩) ?_ ?_
      rotate_left
      · intro w'
        go_simp
        with_reducible rfl
      rotate_left
      · simp only [Act.put, List.setIfInBounds_toArray, List.set_cons_zero, List.set_cons_succ, i64_w, i32_w]
        rfl
      refine pure_ (i := 6) (N := some 72) (v := ?_) (a' := ?_) #[true, true, false, true, true, true, true, false, false, false, false, false, false, false, false, false] rfl rfl (by kernel_rfl) (fun _ _ _ h => h) (Or.inl ⟨by rfl, ?_⟩) ?_ ?_
      rotate_left
      · intro w'
        go_simp
        with_reducible rfl
      rotate_left
      · simp only [Act.put, List.setIfInBounds_toArray, List.set_cons_zero, List.set_cons_succ, i64_w, i32_w]
        rfl
      refine pure_ (i := 7) (N := some 73) (v := ?_) (a' := ?_) #[true, true, false, true, true, true, true, true, false, false, false, false, false, false, false, false] rfl rfl (by kernel_rfl) (fun _ _ _ h => h) (Or.inl ⟨by rfl, ?_⟩) ?_ ?_
      rotate_left
      · intro w'
        go_simp
        with_reducible rfl
      rotate_left
      · simp only [Act.put, List.setIfInBounds_toArray, List.set_cons_zero, List.set_cons_succ, i64_w, i32_w]
        rfl
      refine pure_ (i := 10) (N := some 76) (v := ?_) (a' := ?_) #[true, true, false, true, true, true, true, true, false, false, true, false, false, false, false, false] rfl rfl (by kernel_rfl) (fun _ _ _ h => h) (Or.inl ⟨by rfl, ?_⟩) ?_ ?_
      rotate_left
      · intro w'
        go_simp
        with_reducible rfl
      rotate_left
      · simp only [Act.put, List.setIfInBounds_toArray, List.set_cons_zero, List.set_cons_succ, i64_w, i32_w]
        rfl
      refine pure_ (i := 12) (N := some 78) (v := ?_) (a' := ?_) #[true, true, false, true, true, true, true, true, false, false, true, false, true, false, false, false] rfl rfl (by kernel_rfl) (fun _ _ _ h => h) (Or.inl ⟨by rfl, ?_⟩) ?_ ?_
      rotate_left
      · intro w'
        go_simp
        with_reducible rfl
      rotate_left
      · simp only [Act.put, List.setIfInBounds_toArray, List.set_cons_zero, List.set_cons_succ, i64_w, i32_w]
        rfl
      refine pure_ (i := 13) (N := some 79) (v := ?_) (a' := ?_) #[true, true, false, true, true, true, true, true, false, false, true, false, true, true, false, false] rfl rfl (by kernel_rfl) (fun _ _ _ h => h) (Or.inl ⟨by rfl, ?_⟩) ?_ ?_
      rotate_left
      · intro w'
        go_simp
        with_reducible rfl
      rotate_left
      · simp only [Act.put, List.setIfInBounds_toArray, List.set_cons_zero, List.set_cons_succ, i64_w, i32_w]
        rfl
      refine take_ (i := 8) (N := some 74) (v := ?_) (a' := ?_) #[true, true, false, true, true, true, true, true, true, false, true, false, true, true, false, false] rfl rfl (by kernel_rfl) (fun _ _ _ h => h) (Or.inl ⟨by rfl, ?_⟩) hHeld ?_ ?_
      rotate_left
      · intro w' s0
        go_simp
        with_reducible rfl
      rotate_left
      · simp only [Act.put, List.setIfInBounds_toArray, List.set_cons_zero, List.set_cons_succ, i64_w, i32_w]
        rfl
      refine one_ (i := 2) (N := some 68) #[true, true, true, true, true, true, true, true, true, false, true, false, true, true, false, false] rfl rfl (by kernel_rfl) (by decide) (fun K hK => ?_)
      refine value_ (w1 := ?_) (v := ?_) (by rfl) rfl ?_ ?_
      rotate_left 2
      · go_simp
        constructor
        · rfl
        · rfl
      have HOe := Aside0.mk (own_empty wd)
      have HBe := Aside0.mk (below_alloc (Below.refl wd.heap.size wd) (.cells #[] 5))
      have HSe := Aside0.mk (HSd.out.keep (below_alloc (Below.refl _ _) (.cells #[] 5)))
      have HRTe := Aside0.mk (HRTd.out.below (below_alloc (Below.refl wd.heap.size wd) (.cells #[] 5)))
      have HRAe := Aside0.mk (HRAd.out.below (below_alloc (Below.refl wd.heap.size wd) (.cells #[] 5)))
      have xe := pw_cell_below (below_alloc (Below.refl _ _) (.cells #[] 5)) xt'
      generalize wd.alloc (.cells #[] 5) = we at HOe HBe HSe HRTe HRAe xe ⊢
      refine hK.out _ _ (xe) (fun hHeld => ?_)
      clear hK K
      refine norm_ (a' := ?_) ?_ ?_
      rotate_left
      · show Act.put _ (some 68) _ = _
        simp only [Act.put, List.setIfInBounds_toArray, List.set_cons_zero, List.set_cons_succ, i64_w, i32_w]
        rfl
      refine one_ (i := 9) (N := some 75) #[true, true, true, true, true, true, true, true, true, true, true, false, true, true, false, false] rfl rfl (by kernel_rfl) (by decide) (fun K hK => ?_)
      refine app_step (w0 := wd) wd.heap.size (by rfl) (.tmp 68) (.tmp 74) 22 5 .u8 1 rfl Try.underlying22 info5 (by decide) (.slice (some ⟨wd.heap.size, 0, none⟩) 0 0) [] ld At ld.length ct rfl rfl HOe.out HRTe.out HBe.out HBe.out.size (by have := HL.out; simp; omega) ?_
      intro v5 w5 hO hB hG hA
      have HO5 := Aside0.mk hO
      have HB5 := Aside0.mk hB
      have HS5 := Aside0.mk (HSd.out.keep hB)
      have HRA5 := Aside0.mk (HRAd.out.below hB)
      clear hO hB hG hA
      refine hK.out _ _ ((pw_cell_below HB5.out xt')) (fun hHeld => ?_)
      clear hK K
      refine norm_ (a' := ?_) ?_ ?_
      rotate_left
      · show Act.put _ (some 75) _ = _
        simp only [Act.put, List.setIfInBounds_toArray, List.set_cons_zero, List.set_cons_succ, i64_w, i32_w]
        rfl
      refine last_ (i := 11) (N := some 77) #[true, true, true, true, true, true, true, true, true, true, true, true, true, true, false, false] rfl rfl (by kernel_rfl) (by decide) (fun K hK => ?_)
      refine app_step (w0 := wd) wd.heap.size (by rfl) (.tmp 75) (.tmp 76) 22 5 .u8 1 rfl Try.underlying22 info5 (by decide) v5 ([] ++ ld) b A b.length c rfl rfl HO5.out HRA5.out HB5.out HB5.out.size (by have := HL.out; simp; omega) ?_
      intro v9 w9 hO hB hG hA
      rw [List.nil_append, ← HLM.out] at hO
      obtain ⟨A9, c9, e9⟩ := own_slice hO
      subst e9
      have HO9 := Aside0.mk hO
      have HB9 := Aside0.mk hB
      have HS9 := Aside0.mk (HSd.out.push hB (Res.row w0.heap.size 5 1 LM.length (.slice A9 LM.length c9) (nums .u8 LM)) (own_lower HO9.out HSd.out.B.size) (fun i hi => (own_ge hO i hi).1))
      have zb := blk_frozen ((hB.block gs (blk_lt HBK.out)).trans HBK.out) 7
      have xz := pw_cell_below hB xt'
      clear hO hB hG hA
      refine hK.out _ _ ?_
      clear hK K
      refine norm_ (a' := ?_) ?_ ?_
      rotate_left
      · show Act.put _ (some 77) _ = _
        simp only [Act.put, List.setIfInBounds_toArray, List.set_cons_zero, List.set_cons_succ, i64_w, i32_w]
        rfl
      refine pure_ (i := 14) (N := some 80) (v := ?_) (a' := ?_) #[true, true, true, true, true, true, true, true, true, true, true, true, true, true, true, false] rfl rfl (by kernel_rfl) (fun _ _ _ h => h) (Or.inl ⟨by rfl, ?_⟩) ?_ ?_
      rotate_left
      · intro w'
        go_simp
        with_reducible rfl
      rotate_left
      · simp only [Act.put, List.setIfInBounds_toArray, List.set_cons_zero, List.set_cons_succ, i64_w, i32_w]
        rfl
      refine last_ (i := 15) (N := none) #[true, true, true, true, true, true, true, true, true, true, true, true, true, true, true, true] rfl rfl (by kernel_rfl) (by decide) (fun K hK => ?_)
      refine skip_ (w1 := ?_) (by rfl) rfl ?_ ?_
      rotate_left
      · go_simp
        rfl
      refine hK.out _ _ ?_
      clear hK K
      refine done_ (by kernel_rfl) ?_
      have HSf := Aside0.mk (HS9.out.put 1 gs (stC seed wide ⟨ga, gb, gc, gd, ra, rb, rc, rd, t0, t1, t2, t3⟩) 57 rfl 7 (.slice A9 LM.length c9) (show 7 < 10 by decide))
      go_wp2
      go_ret
      have hLM := HLM.out
      subst hLM
      refine ⟨rfl, ⟨⟨ga, gb, gc, gd, ra, rb, rc, rv2, t0, t1, t2, .slice A9 (ld ++ b).length c9⟩, ?_⟩⟩
      have h := HSf.out.drop 9
      exact sep_perm h (perm_inw3 _ _ _ _ _ _ _ _ _ _)
end Go.Proofs.Ytnkcbkfccbfjpaa.XxhW
