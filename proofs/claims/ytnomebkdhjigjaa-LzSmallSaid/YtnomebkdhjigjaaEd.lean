/- slices.Grow of nothing, slices.Concat of two rows of bytes: contracts. -/
import Derived.Test.YtnomebkdhjigjaaLu
import Derived.Lib.AppendZeros
namespace Go.Proofs.Ytnomebkdhjigjaa.W
open Go.RowKit Go.Proofs.YtnomebkdhjigjaaW.PrintWords Go.Proofs.YtnomebkdhjigjaaW.PrintLast Go.Proofs.YtnomebkdhjigjaaW.PrintMore
set_option linter.unusedVariables false
set_option linter.unusedSimpArgs false
/-- append at the operation, its run at hand. -/
theorem append_run {P : Program} {w w1 : World} {ops : Array Oper} {rest : List Oper} {o : Oper} {a : Act} {Q : Exit → Act → World → Prop} (hgd : o.guard = none) (s x : Operand) (t u : TypeId)
    (ho : o.op = .call { callee := .builtin .append, args := #[s, x], argTypes := #[t, u] }) (vs vx : Value) (hs : a.eval s = vs) (hx : a.eval x = vx) (v : Value) (hr : (Builtin.append_ #[t, u] o.type #[vs, vx]).run P w = .ok v w1)
    (h : wpList P ops Q rest (a.put o.dst v) w1) : wpList P ops Q (o :: rest) a w := by
  refine wpList_plain hgd fun K hK => ?_
  unfold Oper.wp execOp
  simp only [ho, resolve, invoke, builtin, Sem.run_bind, Sem.run_pure, Result.andThen_ok, List.map_toArray, List.map_cons, List.map_nil, hs, hx, hr]
  exact hK _ _ h
set_option maxHeartbeats 2000000 in
set_option maxRecDepth 100000 in
theorem Grow_calls (n : Nat) (w : World) (hn : n ≤ 140737488355328) :
    Calls Try.prog 92 #[.slice none 0 0, .int .i64 (n : Int)] w fun e w' => ∃ v, e = .returned v ∧ w'.ownsRow w.heap.size 5 1 v ([] : List Int).length (nums .u8 []) ∧ Below w.heap.size w w' := by
  obtain ⟨i0, hi, hz0, hz1, hz2⟩ := info_parts info5
  have h0 : (0 : Int) ≤ (n : Int) := by omega
  have h1 : ¬ ((n : Int) < 0) := by omega
  by_cases h : n = 0
  · subst h
    clear hi hz0 hz1 hz2
    go_enter Try.func92, Try.ntmps92
    go_wp2
    go_ret
    exact ⟨_, rfl, own_nil _ _ _ _, Below.refl _ _⟩
  · have hp : (0 : Int) < (n : Int) := by omega
    have hap := Lib.run_append_nil_zeros (P := Try.prog) w 22 3 22 5 i0 (.int .u8 0) .i64 .i64 Try.underlying22 Try.underlying3 hi hz0 n (by omega) (by omega) (by omega) (by rw [hz2]; omega)
    have hge := grownCap_ge w n 0 5
    have hle := grownCap_le_maxLen w n 0 5 (Nat.le_trans hn (by decide))
    obtain ⟨cp, hcp⟩ : ∃ cp, cp = grownCap w n 0 5 := ⟨_, rfl⟩
    rw [← hcp] at hap hge hle
    obtain ⟨cs, hcs⟩ : ∃ cs, cs = Builtin.zeroCells (Value.int IntKind.u8 0).cells n ++ Builtin.zeroCells (Value.int IntKind.u8 0).cells (cp - n) := ⟨_, rfl⟩
    rw [← hcs] at hap
    have hsz : cs.size = cp := by rw [hcs]; simp [Builtin.zeroCells, Value.cells]; omega
    have HO := Aside0.mk (show (w.drew.alloc (.cells cs 5)).ownsRow w.heap.size 5 1 (.slice (some ⟨w.heap.size, 0, none⟩) 0 cp) ([] : List Int).length (nums .u8 []) from
      ⟨by simp [nums], .inr ⟨w.heap.size, cp, cs, rfl, Nat.le_refl _, heap_alloc_new w.drew _, by simp, hle, by omega, by simp [nums]⟩⟩)
    have HAP := Aside0.mk hap
    have HB := Aside0.mk (below_alloc (below_drew (Below.refl w.heap.size w)) (.cells cs 5))
    have hcpi : (n : Int) ≤ (cp : Int) := by omega
    have hcp0 : (0 : Int) ≤ (cp : Int) := by omega
    clear hi hz0 hz1 hz2 hcs hsz hcp h hge hle hap
    generalize hwq : w.drew.alloc (.cells cs 5) = wq at HO HAP HB
    clear hwq
    generalize w.heap.size = g at HO HAP HB ⊢
    go_enter Try.func92, Try.ntmps92
    go_wp2_with (at_builtin; refine append_run rfl (.tmp 20) (.tmp 21) 22 3 rfl _ _ rfl rfl _ HAP.out ?_)
    go_ret
    exact ⟨_, rfl, HO.out, HB.out⟩
set_option maxHeartbeats 2000000 in
set_option maxRecDepth 100000 in
/-- Concat of two. -/
theorem Concat_calls (g c : Nat) (A1 A2 : Option Addr) (c1 c2 : Nat) (l1 l2 : List Int) (w : World) (h1 : w.cell? ⟨g, 0, none⟩ = some (.slice A1 l1.length c1)) (h2 : w.cell? ⟨g, 1, none⟩ = some (.slice A2 l2.length c2))
    (r1 : ReadsInt w .u8 A1 l1.length l1) (r2 : ReadsInt w .u8 A2 l2.length l2) (hl1 : l1.length ≤ 1099511627776) (hl2 : l2.length ≤ 1099511627776) :
    Calls Try.prog 57 #[.slice (some ⟨g, 0, none⟩) 2 c] w fun e w' => ∃ v, e = .returned v ∧ w'.ownsRow w.heap.size 5 1 v (l1 ++ l2).length (nums .u8 (l1 ++ l2)) ∧ Below w.heap.size w w' := by
  have HL := Aside0.mk (And.intro hl1 hl2)
  have X1 := Aside0.mk h1
  have X2 := Aside0.mk h2
  have HG := Aside0.mk (fun W => Grow_calls (l1.length + l2.length) W (by omega))
  obtain ⟨n1, hn1⟩ : ∃ n1, n1 = l1.length := ⟨_, rfl⟩
  obtain ⟨n2, hn2⟩ : ∃ n2, n2 = l2.length := ⟨_, rfl⟩
  rw [← hn1] at h1 hl1 HG r1 X1
  rw [← hn2] at h2 hl2 HG r2 X2
  have R1 := Aside0.mk r1
  have R2 := Aside0.mk r2
  have HN1 := Aside0.mk hn1
  have HN2 := Aside0.mk hn2
  clear r1 r2 hn1 hn2
  go_enter Try.func57, Try.ntmps57
  go_wp2_with fail
  go_loopg [3, 5, 11] 2 (fun kq v3 v5 v11 wc => w = wc ∧ ((kq = 2 ∧ v11 = .int .i64 0 ∧ v3 = .int .i64 0) ∨ (kq = 1 ∧ v11 = .int .i64 1 ∧ v3 = .int .i64 (n1 : Int)) ∨ (kq = 0 ∧ v11 = .int .i64 2 ∧ v3 = .int .i64 ((n1 : Int) + (n2 : Int)))))
  case atStart => exact ⟨rfl, .inl ⟨rfl, rfl, rfl⟩⟩
  case round =>
    obtain ⟨rfl, hrel⟩ := hrel
    rcases hrel with ⟨rfl, rfl, rfl⟩ | ⟨rfl, rfl, rfl⟩ | ⟨rfl, rfl, rfl⟩
    · go_wp2_with fail
      go_roundg 1
      case measure => omega
      case rel => exact ⟨rfl, .inr (.inl ⟨rfl, rfl, by simp⟩)⟩
    · have hs : ¬ ((n1 : Int) + (n2 : Int) < 0) := by omega
      go_wp2_with fail
      go_roundg 0
      case measure => omega
      case rel => exact ⟨rfl, .inr (.inr ⟨rfl, rfl, by simp⟩)⟩
    · rw [show (n1 : Int) + (n2 : Int) = ((n1 + n2 : Nat) : Int) by omega]
      have HGw := Aside0.mk (HG.out w)
      clear HG
      go_upto_region 10 with (go_at_call 92; refine HGw.out.mono ?_; rintro e w1 ⟨v1, rfl, ho1, hb1⟩; have HO1 := Aside0.mk ho1; have HB1 := Aside0.mk hb1; clear ho1 hb1)
      clear HGw
      go_wp2_with fail
      go_loopg [6, 8, 27] 2 (fun kq v6 v8 v27 wc => ∃ L : List Int, Aside0 (wc.ownsRow w.heap.size 5 1 v6 L.length (nums .u8 L)) ∧ Aside0 (Below w.heap.size w wc) ∧ ((kq = 2 ∧ v27 = .int .i64 0 ∧ Aside0 (L = [])) ∨ (kq = 1 ∧ v27 = .int .i64 1 ∧ Aside0 (L = l1)) ∨ (kq = 0 ∧ v27 = .int .i64 2 ∧ Aside0 (L = l1 ++ l2))))
      case atStart => exact ⟨[], HO1, HB1, .inl ⟨rfl, rfl, ⟨rfl⟩⟩⟩
      case round =>
        clear HO1 HB1
        obtain ⟨L, HO, HB, hrel⟩ := hrel
        have x1 : wr.cell? ⟨g, 0, none⟩ = some (.slice A1 n1 c1) := (Fr.all HB.out).cell X1.out trivial
        have x2 : wr.cell? ⟨g, 1, none⟩ = some (.slice A2 n2 c2) := (Fr.all HB.out).cell X2.out trivial
        obtain ⟨A6, c6, rfl⟩ := own_slice HO.out
        rcases hrel with ⟨rfl, rfl, hL⟩ | ⟨rfl, rfl, hL⟩ | ⟨rfl, rfl, hL⟩
        · have HSZ := Aside0.mk (show (L.length + n1) * 1 ≤ 140737488355328 by rw [hL.out]; simp; omega)
          go_wp2_with (at_builtin; refine print_append_row (w0 := w) w.heap.size rfl (.tmp 31) (.tmp 32) 22 5 .u8 1 rfl Try.underlying22 info5 (by decide) _ L l1 A1 n1 c1 rfl rfl HO.out (R1.out.below HB.out) HB.out HB.out.size HSZ.out ?_; intro v4 w4 ho hb hg hat; have HO4 := Aside0.mk ho; have HB4 := Aside0.mk hb; clear ho hb hg hat)
          go_roundg 1
          case measure => omega
          case rel => exact ⟨L ++ l1, HO4, HB4, .inr (.inl ⟨rfl, by simp, ⟨by rw [hL.out, List.nil_append]⟩⟩)⟩
        · have HSZ := Aside0.mk (show (L.length + n2) * 1 ≤ 140737488355328 by rw [hL.out, ← HN1.out]; omega)
          go_wp2_with (at_builtin; refine print_append_row (w0 := w) w.heap.size rfl (.tmp 31) (.tmp 32) 22 5 .u8 1 rfl Try.underlying22 info5 (by decide) _ L l2 A2 n2 c2 rfl rfl HO.out (R2.out.below HB.out) HB.out HB.out.size HSZ.out ?_; intro v4 w4 ho hb hg hat; have HO4 := Aside0.mk ho; have HB4 := Aside0.mk hb; clear ho hb hg hat)
          go_roundg 0
          case measure => omega
          case rel => exact ⟨L ++ l2, HO4, HB4, .inr (.inr ⟨rfl, by simp, ⟨by rw [hL.out]⟩⟩)⟩
        · rw [hL.out] at HO ⊢
          go_wp2
          go_ret
          exact ⟨_, rfl, HO.out, HB.out⟩
end Go.Proofs.Ytnomebkdhjigjaa.W
