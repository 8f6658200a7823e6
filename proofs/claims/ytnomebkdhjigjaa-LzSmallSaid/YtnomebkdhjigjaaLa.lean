/- Contracts of slices.Clone at []byte and of lz's player: newPlayer, room, reaches, copies, plain, over what it holds. Conditions: lengths below 2^40. -/
import Derived.Test.YtnomebkdhjigjaaFr
import Derived.WalkSpells
import Derived.Lib.Hide
import Derived.Deep.QuietTactic
import Derived.BigQuiet
import Derived.Deep.LoopGhost
namespace Go.Proofs.Ytnomebkdhjigjaa.W
open Go.RowKit Go.Proofs.YtnomebkdhjigjaaW.PrintWords Go.Proofs.YtnomebkdhjigjaaW.PrintLast Go.Proofs.YtnomebkdhjigjaaW.PrintMore
set_option linter.unusedVariables false
set_option linter.unusedSimpArgs false
theorem info5 : (Try.prog.info? 5).map (fun i => (i.zero, i.size, i.bytes)) = some (some (.int .u8 0), 1, 1) := by kernel_rfl

theorem clone_nil (n c : Nat) (w : World) : Calls Try.prog 52 #[.slice none n c] w fun e w' => e = .returned (.slice none 0 0) ∧ w' = w := by
  have hq := @Lib.run_eql_slice_nil Try.prog
  go_enter Try.func52, Try.ntmps52
  go_wp2
  go_ret
  exact ⟨rfl, rfl⟩

theorem clone_some (ad : Addr) (c : Nat) (l : List Int) (w : World) (hr : ReadsInt w .u8 (some ad) l.length l) (hl : l.length ≤ 140737488355327) :
    Calls Try.prog 52 #[.slice (some ad) l.length c] w fun e w' => ∃ v, e = .returned v ∧ w'.ownsRow w.heap.size 5 1 v l.length (nums .u8 l) ∧ Below w.heap.size w w' := by
  have hq := @Lib.run_eql_slice_nil Try.prog
  have hb : Below w.heap.size w (w.alloc (.cells #[] 5)) := below_alloc (Below.refl _ _) _
  have ho : (w.alloc (.cells #[] 5)).ownsRow w.heap.size 5 1 (.slice (some ⟨w.heap.size, 0, none⟩) 0 0) ([] : List Int).length (nums .u8 []) := own_lit w w.heap.size 5 .u8 [] (Nat.le_refl _) (by simp)
  go_enter Try.func52, Try.ntmps52
  go_wp2_with (first | (at_builtin; refine print_append_row (w0 := w) w.heap.size rfl (.tmp 5) (.tmp 6) 22 5 .u8 1 rfl Try.underlying22 info5 (by decide) (.slice (some ⟨w.heap.size, 0, none⟩) 0 0) [] l (some ad) l.length c rfl rfl ho (hr.below hb) hb (by simp) (by simp; omega) ?_; intro v1 w1 hO hB hG hA))
  go_ret
  exact ⟨v1, rfl, by simpa using hO, hB⟩

/-- Whatever the slice: what it reads is owned by the result. -/
theorem clone_any (A : Option Addr) (c : Nat) (l : List Int) (w : World) (hr : ReadsInt w .u8 A l.length l) (hl : l.length ≤ 140737488355327) :
    Calls Try.prog 52 #[.slice A l.length c] w fun e w' => ∃ A' c', e = .returned (.slice A' l.length c') ∧ w'.ownsRow w.heap.size 5 1 (.slice A' l.length c') l.length (nums .u8 l) ∧ Below w.heap.size w w' := by
  cases A with
  | some ad =>
    refine (clone_some ad c l w hr hl).mono fun e w' ⟨v, he, ho, hb⟩ => ?_
    obtain ⟨A', c', rfl⟩ := own_slice ho
    exact ⟨A', c', he, ho, hb⟩
  | none =>
    have h0 : l.length = 0 := by
      rcases Nat.eq_zero_or_pos l.length with h | h
      · exact h
      · obtain ⟨ad, e, _⟩ := hr.2.2 h; cases e
    obtain rfl : l = [] := List.eq_nil_of_length_eq_zero h0
    exact (clone_nil _ c w).mono fun e w' ⟨he, hw⟩ => by
      subst he hw
      exact ⟨_, _, rfl, own_nil _ _ _ _, Below.refl _ _⟩
section
variable {P : Program} {ops : Array Oper} {o : Oper} {a : Act} {Q : Exit → Act → World → Prop} {Kc : Act → World → Prop}
theorem app_step {w0 W : World} (base : Nat) (hwt : Region.wanted o (yielded ops a.tmps) = true) (s x : Operand) (t e : TypeId) (k : IntKind) (bytes : Nat)
    (ho : o.op = .call { callee := .builtin .append, args := #[s, x], argTypes := #[t, t] })
    (ht : P.underlying t = some (.slice e)) (hinfo : (P.info? e).map (fun i => (i.zero, i.size, i.bytes)) = some (some (.int k 0), 1, bytes)) (hb0 : 0 < bytes)
    (v : Value) (xs ys : List Int) (A : Option Addr) (m c : Nat) (hs : a.eval s = v) (hx : a.eval x = .slice A m c)
    (HO : W.ownsRow base e 1 v xs.length (nums k xs)) (HR : ReadsInt W k A m ys) (HB : Below base w0 W) (hbase : base ≤ W.heap.size) (hl : (xs.length + m) * bytes ≤ 140737488355328)
    (h : ∀ v1 w1, w1.ownsRow base e 1 v1 (xs ++ ys).length (nums k (xs ++ ys)) → Below base w0 w1 → W.grownBy w1 v.ownBlock → (v1.ownBlock = v.ownBlock ∨ ∃ b, v1.ownBlock = some b ∧ W.heap.size ≤ b) → Kc (a.put o.dst v1) w1) :
    if Region.wanted o (yielded ops a.tmps) = true then Oper.wp P o a W Kc Q else Kc (a.put o.dst undef) W := by
  obtain ⟨i0, hi, hzz⟩ := Option.map_eq_some_iff.1 hinfo
  simp only [Prod.mk.injEq] at hzz
  obtain ⟨hz0, hz1, hz2⟩ := hzz
  have hm : ys.length = m := HR.1
  have hlen : xs.length + m ≤ 140737488355328 := Nat.le_trans (Nat.le_mul_of_pos_right _ hb0) hl
  have hrun : ∃ v1 w1, (Builtin.append_ #[t, t] o.type #[v, .slice A m c]).run P W = .ok v1 w1 ∧ w1.ownsRow base e 1 v1 (xs ++ ys).length (nums k (xs ++ ys)) ∧ W.grownBy w1 v.ownBlock ∧ (v1.ownBlock = v.ownBlock ∨ v1.ownBlock = some W.heap.size) := by
    rcases A with _ | ad
    · have h0 : m = 0 := by
        rcases Nat.eq_zero_or_pos m with h0 | h0
        · exact h0
        · obtain ⟨ad, h, _⟩ := HR.2.2 h0
          cases h
      subst h0
      obtain rfl : ys = [] := List.eq_nil_of_length_eq_zero hm
      refine ⟨v, W, ?_, by simpa using HO, World.grownBy.refl W _, .inl rfl⟩
      rcases HO.2 with ⟨rfl, hn⟩ | ⟨g, cap, cur, rfl, _, _, hnc, _⟩
      · simp [Builtin.append_, run_underlying ht, sizeOf, typeInfo, hi, Builtin.lenOf, Builtin.firstCells]
      · simp [Builtin.append_, run_underlying ht, sizeOf, typeInfo, hi, Builtin.lenOf, Builtin.firstCells, hnc, storeCells]
    · have hcells : ∀ j u, (nums k ys)[j]? = some u → W.cell? (ad.add j) = some u := by
        intro j u hu
        have hj : j < ys.length := by
          rcases Nat.lt_or_ge j ys.length with h | h
          · exact h
          · simp [nums, List.getElem?_eq_none h] at hu
        obtain ⟨ad', h', hc⟩ := HR.2.2 (by omega)
        injection h' with h'
        subst h'
        have := hc j (by omega)
        simp [nums, List.getElem?_eq_getElem hj] at hu
        subst hu
        rw [this]
        simp [List.getD_eq_getElem?_getD, List.getElem?_eq_getElem hj]
      obtain ⟨v1, w1, hr, h2, h3, _, h5⟩ := run_append_own_at (P := P) W base t o.type e i0 (.int k 0) 1 bytes ht hi hz0 hz1 hz2 rfl (by omega) v xs.length (nums k xs) HO ad m c (nums k ys) (by simp [nums, hm]) hcells
        (by intro u hu; simp only [nums, List.mem_map] at hu; obtain ⟨q, _, rfl⟩ := hu; rfl) (by simp only [maxLen]; omega) hl hbase
      exact ⟨v1, w1, hr, by simpa [nums, hm] using h2, h3, h5⟩
  obtain ⟨v1, w1, hr, hown, hg, hat⟩ := hrun
  rw [if_pos hwt]
  unfold Oper.wp execOp
  simp only [ho, resolve, invoke, builtin, Sem.run_bind, Sem.run_pure, Result.andThen_ok, List.map_toArray, List.map_cons, List.map_nil, hs, hx, hr]
  refine (h v1 w1 hown (HB.grown hg hbase (own_base HO)) hg ?_)
  rcases hat with hat | hat
  · exact .inl hat
  · exact .inr ⟨_, hat, Nat.le_refl _⟩
end
theorem own_reads' {w : World} {base : Nat} {v : Value} {l : List Int} (h : w.ownsRow base 5 1 v l.length (nums .u8 l)) : ∃ A c, v = .slice A l.length c ∧ ReadsInt w .u8 A l.length l ∧ l.length ≤ c := by
  obtain ⟨A, c, e, hr⟩ := own_reads h
  refine ⟨A, c, e, hr, ?_⟩
  rcases h.2 with ⟨rfl, h0⟩ | ⟨g, cap, cur, rfl, _, _, h1, _⟩
  · omega
  · cases e
    exact h1
/-- The player. -/
def IsP (w : World) (g : Nat) (va : Value) (b m : Int) : Prop := w.heap[g]? = some (.cells #[va, .int .i64 b, .int .i64 m] 105 (0, 0))
theorem IsP.at {w : World} {g : Nat} {va : Value} {b m : Int} (h : IsP w g va b m) (i : Nat) (u : Value) (hu : (#[va, .int .i64 b, .int .i64 m] : Array Value)[i]? = some u) : w.cell? ⟨g, i, none⟩ = some u ∧ w.frozen? ⟨g, i, none⟩ = false :=
  ⟨(cell_of_row w g i _ 105 (0, 0) h).trans hu, blk_frozen h i⟩
structure Pl (w : World) (B g : Nat) (all : List Int) (va : Value) (b m : Int) : Prop where
  d : IsP w g va b m
  o : w.ownsRow B 5 1 va all.length (nums .u8 all)
theorem Pl.fr {w w' : World} {B g : Nat} {all : List Int} {va : Value} {b m : Int} {ok : Nat → Prop} (h : Pl w B g all va b m) (f : Fr w w' ok) (h1 : ok g) (h2 : ∀ i, some i = va.ownBlock → ok i) : Pl w' B g all va b m :=
  ⟨f.heap h.d h1, own_fr f h.o h2⟩
theorem Pl.lower {w : World} {B B' g : Nat} {all : List Int} {va : Value} {b m : Int} (h : Pl w B g all va b m) (hb : B' ≤ B) : Pl w B' g all va b m := ⟨h.d, own_lower h.o hb⟩
theorem room_calls (g B : Nat) (all : List Int) (va : Value) (b m n : Int) (w : World) (h : Pl w B g all va b m) (hb : 0 ≤ b ∧ b ≤ 1099511627776) (hm : 0 ≤ m ∧ m ≤ 1099511627776) (hl : all.length ≤ 1099511627776) :
    Calls Try.prog 71 #[.pointer (some ⟨g, 0, none⟩), .int .i64 n] w fun e w' => e = .returned (.int .i64 (if n > m - ((all.length : Int) - b) then 32 else 0)) ∧ ∃ k, w' = w.drewN k := by
  obtain ⟨A, c, rfl, hr, hc⟩ := own_reads' h.o
  have x0 := (h.d.at 0 _ rfl).1
  have x1 := (h.d.at 1 _ rfl).1
  have x2 := (h.d.at 2 _ rfl).1
  have w1 : wrap64 ((all.length : Int) - b) = (all.length : Int) - b := IntWalk.wrap64_in _ (by omega)
  have w2 : wrap64 (m - ((all.length : Int) - b)) = m - ((all.length : Int) - b) := IntWalk.wrap64_in _ (by omega)
  clear h hr hc
  by_cases hk : n > m - ((all.length : Int) - b)
  · rw [if_pos hk]
    go_enter Try.func71, Try.ntmps71
    go_wp2
    go_quiet (fail)
    go_wp2
    go_ret
    exact ⟨rfl, _, rfl⟩
  · rw [if_neg hk]
    go_enter Try.func71, Try.ntmps71
    go_wp2
    go_quiet (fail)
    go_wp2
    go_ret
    exact ⟨rfl, _, rfl⟩
theorem reaches_calls (g B : Nat) (all : List Int) (va : Value) (b m n : Int) (w : World) (h : Pl w B g all va b m) :
    Calls Try.prog 72 #[.pointer (some ⟨g, 0, none⟩), .int .i64 n] w fun e w' => e = .returned (.int .i64 (if n > (all.length : Int) then 30 else 0)) ∧ w' = w := by
  obtain ⟨A, c, rfl, hr, hc⟩ := own_reads' h.o
  have x0 := (h.d.at 0 _ rfl).1
  clear h hr hc
  by_cases hk : n > (all.length : Int)
  · rw [if_pos hk]
    go_enter Try.func72, Try.ntmps72
    go_wp2
    go_ret
    exact ⟨rfl, rfl⟩
  · rw [if_neg hk]
    go_enter Try.func72, Try.ntmps72
    go_wp2
    go_ret
    exact ⟨rfl, rfl⟩
/-- A match is copied, byte by byte. -/
def copied (back : Nat) : Nat → List Int → List Int
  | 0, all => all
  | n + 1, all => copied back n (all ++ [all.getD (all.length - back) 0])
theorem copied_len (back : Nat) : ∀ (n : Nat) (all : List Int), (copied back n all).length = all.length + n := by
  intro n
  induction n with
  | zero => intro all; rfl
  | succ n ih => intro all; rw [copied, ih]; simp; omega
theorem copied_snoc (back : Nat) : ∀ (n : Nat) (all : List Int), copied back (n + 1) all = copied back n all ++ [(copied back n all).getD ((copied back n all).length - back) 0] := by
  intro n
  induction n with
  | zero => intro all; rfl
  | succ n ih => intro all; rw [copied, ih, ← copied]
/-- A row of one's own, grown or new. -/
def Moved (w : World) (va va' : Value) : Prop := va'.ownBlock = va.ownBlock ∨ ∃ b, va'.ownBlock = some b ∧ w.heap.size ≤ b
theorem Moved.trans {w w1 : World} {va v1 v2 : Value} (h : Moved w va v1) (h' : Moved w1 v1 v2) (hs : w.heap.size ≤ w1.heap.size) : Moved w va v2 := by
  rcases h' with e | ⟨b, e, hb⟩
  · rcases h with e0 | ⟨b, e0, hb⟩
    · exact .inl (e.trans e0)
    · exact .inr ⟨b, e.trans e0, hb⟩
  · exact .inr ⟨b, e, Nat.le_trans hs hb⟩
theorem reads_one (w : World) (y : Int) : ReadsInt (w.alloc (.cells #[.int .u8 y] 5)) .u8 (some ⟨w.heap.size, 0, none⟩) 1 [y] :=
  ⟨rfl, by decide, fun _ => ⟨_, rfl, fun j hj => by
    have : j = 0 := by omega
    subst this
    rw [Addr.add_zero']
    exact cell_of_one (heap_alloc_new w (.cells #[.int .u8 y] 5))⟩⟩
set_option maxHeartbeats 4000000 in
set_option maxRecDepth 100000 in
theorem copies_calls (g B back n : Nat) (all : List Int) (va : Value) (b m : Int) (w : World) (h : Pl w B g all va b m) (hB : B ≤ w.heap.size) (h1 : 1 ≤ back) (h2 : back ≤ all.length) (hl : all.length + n ≤ 1099511627776) :
    Calls Try.prog 73 #[.pointer (some ⟨g, 0, none⟩), .int .i64 back, .int .i64 n] w fun e w' => e = .returned (.tuple #[]) ∧ ∃ va', Pl w' B g (copied back n all) va' b m ∧ Moved w va va' ∧ Fr w w' (fun i => i ≠ g ∧ some i ≠ va.ownBlock) := by
  have H := Aside0.mk h
  clear h
  go_enter Try.func73, Try.ntmps73
  go_wp2_with fail
  go_loopg [7] n (fun kq v7 wc => ∃ (j : Nat) (vc : Value), kq + j = n ∧ v7 = .int .i64 j ∧ Aside0 (Pl wc B g (copied back j all) vc b m) ∧ Aside0 (Moved w va vc) ∧ Aside0 (Fr w wc (fun i => i ≠ g ∧ some i ≠ va.ownBlock)))
  case atStart => exact ⟨0, va, by omega, rfl, H, ⟨.inl rfl⟩, ⟨Fr.refl _ _⟩⟩
  case round =>
    obtain ⟨j, vc, hk, rfl, HP, HM, HF⟩ := hrel
    clear H
    cases gk with
    | zero =>
      have hj : j = n := by omega
      subst hj
      go_wp2
      go_end0
      exact ⟨rfl, vc, HP.out, HM.out, HF.out⟩
    | succ k1 =>
      obtain ⟨L, eL⟩ : ∃ L, L = copied back j all := ⟨_, rfl⟩
      have hL1 : all.length ≤ L.length := by rw [eL, copied_len]; omega
      have hL2 : L.length ≤ all.length + j := by rw [eL, copied_len]; omega
      have HX := Aside0.mk (show copied back (j + 1) all = L ++ [L.getD (L.length - back) 0] by rw [copied_snoc, ← eL])
      rw [← eL] at HP
      clear eL
      obtain ⟨A, c, rfl, hr, hc⟩ := own_reads' HP.out.o
      obtain ⟨ad, rfl, hc0⟩ := hr.2.2 (by omega)
      have x0 := (HP.out.d.at 0 _ rfl).1
      have z0 := blk_frozen HP.out.d 0
      have hlt : (j : Int) < (n : Int) := by omega
      obtain ⟨y, hy⟩ : ∃ y, y = L.getD (L.length - back) 0 := ⟨_, rfl⟩
      have x1 := hc0 (L.length - back) (by omega)
      rw [← hy] at x1 HX
      clear hy
      obtain ⟨q, hq⟩ : ∃ q : Nat, q = L.length - back := ⟨_, rfl⟩
      rw [← hq] at x1
      have e1 : (L.length : Int) - (back : Int) = (q : Int) := by omega
      have e2 : wrap64 ((L.length : Int) - (back : Int)) = (q : Int) := by rw [e1]; exact IntWalk.wrap64_in _ (by omega)
      have q0 : (0 : Int) ≤ (q : Int) := by omega
      have q1 : (q : Int) < (L.length : Int) := by omega
      have HB := Aside0.mk (Nat.le_trans hB HF.out.size)
      clear hr hc0 hq e1
      go_upto_region 2 with fail
      have HPd := Aside0.mk (HP.out.fr (Fr.drew (fun _ => True)) trivial (fun _ _ => trivial))
      have HBd := Aside0.mk (show B ≤ wr.drew.heap.size from HB.out)
      have x0' : wr.drew.cell? ⟨g, 0, none⟩ = some (.slice (some ad) L.length c) := x0
      have x1' : wr.drew.cell? (ad.add q) = some (.int .u8 y) := x1
      have HFd := Aside0.mk (HF.out.then (Fr.drew _))
      refine start_ (n := 23) (S := fun w' => w'.cell? ⟨g, 0, none⟩ = some (.slice (some ad) L.length c) ∧ w'.cell? (ad.add q) = some (.int .u8 y)) (ds := [19, 22]) #[false, false, false, false, false, false, false, false, false, false, false, false, false, false, false, false, false, false, false, false, false, false, false] (by kernel_rfl) rfl rfl ⟨x0', x1'⟩ (fun hHeld => ?_)
      generalize wr.drew = wd at HPd HBd x0' x1' HFd hHeld ⊢
      refine pure_ (i := 0) (N := some 9) (v := ?_) (a' := ?_) #[true, false, false, false, false, false, false, false, false, false, false, false, false, false, false, false, false, false, false, false, false, false, false] rfl rfl (by kernel_rfl) (fun _ _ _ h => h) (Or.inl ⟨by rfl, ?_⟩) ?_ ?_
      rotate_left
      · intro w'
        go_simp
        with_reducible rfl
      rotate_left
      · simp only [Act.put, List.setIfInBounds_toArray, List.set_cons_zero, List.set_cons_succ, i64_w, i32_w]
        rfl
      refine pure_ (i := 1) (N := some 10) (v := ?_) (a' := ?_) #[true, true, false, false, false, false, false, false, false, false, false, false, false, false, false, false, false, false, false, false, false, false, false] rfl rfl (by kernel_rfl) (fun _ _ _ h => h) (Or.inl ⟨by rfl, ?_⟩) ?_ ?_
      rotate_left
      · intro w'
        go_simp
        with_reducible rfl
      rotate_left
      · simp only [Act.put, List.setIfInBounds_toArray, List.set_cons_zero, List.set_cons_succ, i64_w, i32_w]
        rfl
      refine pure_ (i := 2) (N := some 11) (v := ?_) (a' := ?_) #[true, true, true, false, false, false, false, false, false, false, false, false, false, false, false, false, false, false, false, false, false, false, false] rfl rfl (by kernel_rfl) (fun _ _ _ h => h) (Or.inl ⟨by rfl, ?_⟩) ?_ ?_
      rotate_left
      · intro w'
        go_simp
        with_reducible rfl
      rotate_left
      · simp only [Act.put, List.setIfInBounds_toArray, List.set_cons_zero, List.set_cons_succ, i64_w, i32_w]
        rfl
      refine pure_ (i := 3) (N := some 12) (v := ?_) (a' := ?_) #[true, true, true, true, false, false, false, false, false, false, false, false, false, false, false, false, false, false, false, false, false, false, false] rfl rfl (by kernel_rfl) (fun _ _ _ h => h) (Or.inl ⟨by rfl, ?_⟩) ?_ ?_
      rotate_left
      · intro w'
        go_simp
        with_reducible rfl
      rotate_left
      · simp only [Act.put, List.setIfInBounds_toArray, List.set_cons_zero, List.set_cons_succ, i64_w, i32_w]
        rfl
      refine pure_ (i := 5) (N := some 14) (v := ?_) (a' := ?_) #[true, true, true, true, false, true, false, false, false, false, false, false, false, false, false, false, false, false, false, false, false, false, false] rfl rfl (by kernel_rfl) (fun _ _ _ h => h) (Or.inl ⟨by rfl, ?_⟩) ?_ ?_
      rotate_left
      · intro w'
        go_simp
        with_reducible rfl
      rotate_left
      · simp only [Act.put, List.setIfInBounds_toArray, List.set_cons_zero, List.set_cons_succ, i64_w, i32_w]
        rfl
      refine pure_ (i := 6) (N := some 15) (v := ?_) (a' := ?_) #[true, true, true, true, false, true, true, false, false, false, false, false, false, false, false, false, false, false, false, false, false, false, false] rfl rfl (by kernel_rfl) (fun _ _ _ h => h) (Or.inl ⟨by rfl, ?_⟩) ?_ ?_
      rotate_left
      · intro w'
        go_simp
        with_reducible rfl
      rotate_left
      · simp only [Act.put, List.setIfInBounds_toArray, List.set_cons_zero, List.set_cons_succ, i64_w, i32_w]
        rfl
      refine pure_ (i := 7) (N := some 16) (v := ?_) (a' := ?_) #[true, true, true, true, false, true, true, true, false, false, false, false, false, false, false, false, false, false, false, false, false, false, false] rfl rfl (by kernel_rfl) (fun _ _ _ h => h) (Or.inl ⟨by rfl, ?_⟩) ?_ ?_
      rotate_left
      · intro w'
        go_simp
        with_reducible rfl
      rotate_left
      · simp only [Act.put, List.setIfInBounds_toArray, List.set_cons_zero, List.set_cons_succ, i64_w, i32_w]
        rfl
      refine pure_ (i := 9) (N := some 18) (v := ?_) (a' := ?_) #[true, true, true, true, false, true, true, true, false, true, false, false, false, false, false, false, false, false, false, false, false, false, false] rfl rfl (by kernel_rfl) (fun _ _ _ h => h) (Or.inl ⟨by rfl, ?_⟩) ?_ ?_
      rotate_left
      · intro w'
        go_simp
        with_reducible rfl
      rotate_left
      · simp only [Act.put, List.setIfInBounds_toArray, List.set_cons_zero, List.set_cons_succ, i64_w, i32_w]
        rfl
      refine pure_ (i := 10) (N := some 19) (v := ?_) (a' := ?_) #[true, true, true, true, false, true, true, true, false, true, true, false, false, false, false, false, false, false, false, false, false, false, false] rfl rfl (by kernel_rfl) (fun _ _ _ h => h) (Or.inl ⟨by rfl, ?_⟩) ?_ ?_
      rotate_left
      · intro w'
        go_simp
        with_reducible rfl
      rotate_left
      · simp only [Act.put, List.setIfInBounds_toArray, List.set_cons_zero, List.set_cons_succ, i64_w, i32_w]
        rfl
      refine pure_ (i := 11) (N := some 20) (v := ?_) (a' := ?_) #[true, true, true, true, false, true, true, true, false, true, true, true, false, false, false, false, false, false, false, false, false, false, false] rfl rfl (by kernel_rfl) (fun _ _ _ h => h) (Or.inl ⟨by rfl, ?_⟩) ?_ ?_
      rotate_left
      · intro w'
        go_simp
        with_reducible rfl
      rotate_left
      · simp only [Act.put, List.setIfInBounds_toArray, List.set_cons_zero, List.set_cons_succ, i64_w, i32_w]
        rfl
      refine pure_ (i := 14) (N := some 23) (v := ?_) (a' := ?_) #[true, true, true, true, false, true, true, true, false, true, true, true, false, false, true, false, false, false, false, false, false, false, false] rfl rfl (by kernel_rfl) (fun _ _ _ h => h) (Or.inl ⟨by rfl, ?_⟩) ?_ ?_
      rotate_left
      · intro w'
        go_simp
        with_reducible rfl
      rotate_left
      · simp only [Act.put, List.setIfInBounds_toArray, List.set_cons_zero, List.set_cons_succ, i64_w, i32_w]
        rfl
      refine take_ (i := 4) (N := some 13) (v := ?_) (a' := ?_) #[true, true, true, true, true, true, true, true, false, true, true, true, false, false, true, false, false, false, false, false, false, false, false] rfl rfl (by kernel_rfl) (fun _ _ _ h => h) (Or.inl ⟨by rfl, ?_⟩) hHeld ?_ ?_
      rotate_left
      · rintro w' ⟨s0, s1⟩
        go_simp
        with_reducible rfl
      rotate_left
      · simp only [Act.put, List.setIfInBounds_toArray, List.set_cons_zero, List.set_cons_succ, i64_w, i32_w]
        rfl
      refine take_ (i := 8) (N := some 17) (v := ?_) (a' := ?_) #[true, true, true, true, true, true, true, true, true, true, true, true, false, false, true, false, false, false, false, false, false, false, false] rfl rfl (by kernel_rfl) (fun _ _ _ h => h) (Or.inl ⟨by rfl, ?_⟩) hHeld ?_ ?_
      rotate_left
      · rintro w' ⟨s0, s1⟩
        go_simp
        with_reducible rfl
      rotate_left
      · simp only [Act.put, List.setIfInBounds_toArray, List.set_cons_zero, List.set_cons_succ, i64_w, i32_w]
        rfl
      refine take_ (i := 12) (N := some 21) (v := ?_) (a' := ?_) #[true, true, true, true, true, true, true, true, true, true, true, true, true, false, true, false, false, false, false, false, false, false, false] rfl rfl (by kernel_rfl) (fun _ _ _ h => h) (Or.inl ⟨by rfl, ?_⟩) hHeld ?_ ?_
      rotate_left
      · rintro w' ⟨s0, s1⟩
        go_simp
        with_reducible rfl
      rotate_left
      · simp only [Act.put, List.setIfInBounds_toArray, List.set_cons_zero, List.set_cons_succ, i64_w, i32_w]
        rfl
      refine pure_ (i := 13) (N := some 22) (v := ?_) (a' := ?_) #[true, true, true, true, true, true, true, true, true, true, true, true, true, true, true, false, false, false, false, false, false, false, false] rfl rfl (by kernel_rfl) (fun _ _ _ h => h) (Or.inl ⟨by rfl, ?_⟩) ?_ ?_
      rotate_left
      · intro w'
        go_simp
        with_reducible rfl
      rotate_left
      · simp only [Act.put, List.setIfInBounds_toArray, List.set_cons_zero, List.set_cons_succ, i64_w, i32_w]
        rfl
      refine pure_ (i := 15) (N := some 24) (v := ?_) (a' := ?_) #[true, true, true, true, true, true, true, true, true, true, true, true, true, true, true, true, false, false, false, false, false, false, false] rfl rfl (by kernel_rfl) (fun _ _ _ h => h) (Or.inl ⟨by rfl, ?_⟩) ?_ ?_
      rotate_left
      · intro w'
        go_simp
        with_reducible rfl
      rotate_left
      · simp only [Act.put, List.setIfInBounds_toArray, List.set_cons_zero, List.set_cons_succ, i64_w, i32_w]
        rfl
      refine pure_ (i := 16) (N := some 25) (v := ?_) (a' := ?_) #[true, true, true, true, true, true, true, true, true, true, true, true, true, true, true, true, true, false, false, false, false, false, false] rfl rfl (by kernel_rfl) (fun _ _ _ h => h) (Or.inl ⟨by rfl, ?_⟩) ?_ ?_
      rotate_left
      · intro w'
        go_simp
        with_reducible rfl
      rotate_left
      · simp only [Act.put, List.setIfInBounds_toArray, List.set_cons_zero, List.set_cons_succ, i64_w, i32_w]
        rfl
      refine take_ (i := 17) (N := some 26) (v := ?_) (a' := ?_) #[true, true, true, true, true, true, true, true, true, true, true, true, true, true, true, true, true, true, false, false, false, false, false] rfl rfl (by kernel_rfl) (fun _ _ _ h => h) (Or.inl ⟨by rfl, ?_⟩) hHeld ?_ ?_
      rotate_left
      · rintro w' ⟨s0, s1⟩
        go_simp
        with_reducible rfl
      rotate_left
      · simp only [Act.put, List.setIfInBounds_toArray, List.set_cons_zero, List.set_cons_succ, i64_w, i32_w]
        rfl
      refine one_ (i := 18) (N := some 27) #[true, true, true, true, true, true, true, true, true, true, true, true, true, true, true, true, true, true, true, false, false, false, false] rfl rfl (by kernel_rfl) (by decide) (fun K hK => ?_)
      refine value_ (w1 := ?_) (v := ?_) (by rfl) rfl ?_ ?_
      rotate_left 2
      · go_simp
        constructor
        · rfl
        · rfl
      have HO3 := Aside0.mk (show (wd.alloc (.cells #[.int .u8 y] 5)).ownsRow B 5 1 (.slice (some ad) L.length c) L.length (nums .u8 L) from own_fr (Fr.alloc _ (fun _ => True)) HPd.out.o (fun _ _ => trivial))
      have HD3 := Aside0.mk (show IsP (wd.alloc (.cells #[.int .u8 y] 5)) g (.slice (some ad) L.length c) b m from (Fr.alloc _ (fun _ => True)).heap HPd.out.d trivial)
      have HR3 := Aside0.mk (reads_one wd y)
      have HF3 := Aside0.mk (Fr.alloc (w := wd) (.cells #[.int .u8 y] 5) (fun _ => True))
      have hx1 := pw_cell_below (below_alloc (Below.refl _ _) (.cells #[.int .u8 y] 5)) x1'
      generalize wd.alloc (.cells #[.int .u8 y] 5) = w3 at HO3 HD3 HR3 HF3 hx1 ⊢
      refine hK.out _ _ ⟨(HD3.out.at 0 _ rfl).1, hx1⟩ (fun hHeld => ?_)
      clear hK K
      refine norm_ (a' := ?_) ?_ ?_
      rotate_left
      · show Act.put _ (some 27) _ = _
        simp only [Act.put, List.setIfInBounds_toArray, List.set_cons_zero, List.set_cons_succ, i64_w, i32_w]
        rfl
      refine last_ (i := 19) (N := some 28) #[true, true, true, true, true, true, true, true, true, true, true, true, true, true, true, true, true, true, true, true, false, false, false] rfl rfl (by kernel_rfl) (by decide) (fun K hK => ?_)
      refine app_step (w0 := w3) B (by rfl) (.tmp 13) (.tmp 27) 22 5 .u8 1 rfl Try.underlying22 info5 (by decide) _ L [y] _ 1 1 rfl rfl HO3.out HR3.out (Below.refl _ _) (Nat.le_trans HBd.out HF3.out.size) (by omega) ?_
      intro v4 w4 hO hBl hG hA
      obtain ⟨L4, eL4⟩ : ∃ L4, L4 = L ++ [y] := ⟨_, rfl⟩
      rw [← eL4] at hO
      have HL4 := Aside0.mk eL4
      clear eL4
      obtain ⟨A4, c4, rfl, hr4, hc4⟩ := own_reads' hO
      have HO4 := Aside0.mk hO
      have HD4 := Aside0.mk (show IsP w4 g (.slice (some ad) L.length c) b m from blk_grown HD3.out hG (own_ne HO3.out HD3.out (by decide)))
      have HG4 := Aside0.mk hG
      have HA4 := Aside0.mk hA
      have x4 := (HD4.out.at 0 _ rfl).1
      have z4 := blk_frozen HD4.out 0
      clear hO hBl hG hA hr4 hc4
      refine hK.out _ _ ?_
      clear hK K
      refine norm_ (a' := ?_) ?_ ?_
      rotate_left
      · show Act.put _ (some 28) _ = _
        simp only [Act.put, List.setIfInBounds_toArray, List.set_cons_zero, List.set_cons_succ, i64_w, i32_w]
        rfl
      refine pure_ (i := 20) (N := some 29) (v := ?_) (a' := ?_) #[true, true, true, true, true, true, true, true, true, true, true, true, true, true, true, true, true, true, true, true, true, false, false] rfl rfl (by kernel_rfl) (fun _ _ _ h => h) (Or.inl ⟨by rfl, ?_⟩) ?_ ?_
      rotate_left
      · intro w'
        go_simp
        with_reducible rfl
      rotate_left
      · simp only [Act.put, List.setIfInBounds_toArray, List.set_cons_zero, List.set_cons_succ, i64_w, i32_w]
        rfl
      refine pure_ (i := 21) (N := some 30) (v := ?_) (a' := ?_) #[true, true, true, true, true, true, true, true, true, true, true, true, true, true, true, true, true, true, true, true, true, true, false] rfl rfl (by kernel_rfl) (fun _ _ _ h => h) (Or.inl ⟨by rfl, ?_⟩) ?_ ?_
      rotate_left
      · intro w'
        go_simp
        with_reducible rfl
      rotate_left
      · simp only [Act.put, List.setIfInBounds_toArray, List.set_cons_zero, List.set_cons_succ, i64_w, i32_w]
        rfl
      refine last_ (i := 22) (N := none) #[true, true, true, true, true, true, true, true, true, true, true, true, true, true, true, true, true, true, true, true, true, true, true] rfl rfl (by kernel_rfl) (by decide) (fun K hK => ?_)
      refine skip_ (w1 := ?_) (by rfl) rfl ?_ ?_
      rotate_left
      · go_simp
        rfl
      refine hK.out _ _ ?_
      clear hK K
      refine done_ (by kernel_rfl) ?_
      go_wp2
      go_roundg k1
      case measure => omega
      case rel =>
        refine ⟨j + 1, .slice A4 L4.length c4, by omega, by simp, ⟨?_⟩, ⟨?_⟩, ⟨?_⟩⟩
        · rw [HX.out, ← HL4.out]
          exact ⟨blk_set HD4.out 0 _, own_setCell (p := ⟨g, 0, none⟩) HO4.out (own_ne HO4.out (show w4.heap[g]? = some (.cells _ 105 (0, 0)) from HD4.out) (by decide)) _⟩
        · exact HM.out.trans (show Moved w3 (.slice (some ad) L.length c) _ from HA4.out) (Nat.le_trans HFd.out.size HF3.out.size)
        · have hG4 : w3.grownBy w4 (some ad.block) := HG4.out
          have f2 : Fr wd (w4.setCell ⟨g, 0, none⟩ (.slice A4 L4.length c4)) (fun i => i ≠ g ∧ some i ≠ some ad.block) :=
            (HF3.out.mono (fun _ _ _ => trivial)).then' ((Fr.of_grown hG4).mono (ok' := fun i => i ≠ g ∧ some i ≠ some ad.block) (fun _ _ h => h.2) |>.then' (Fr.set ⟨g, 0, none⟩ _) (fun i _ h => h.1)) (fun _ _ h => h)
          refine HFd.out.then' f2 (fun i hi hk => ⟨hk.1, fun e => ?_⟩)
          have hm : (Value.slice (some ad) L.length c).ownBlock = va.ownBlock ∨ ∃ b, (Value.slice (some ad) L.length c).ownBlock = some b ∧ w.heap.size ≤ b := HM.out
          have ho : (Value.slice (some ad) L.length c).ownBlock = some ad.block := rfl
          rcases hm with h | ⟨b, h, hb⟩
          · exact hk.2 (e.trans (ho.symm.trans h))
          · rw [ho] at h
            cases h
            cases e
            omega
end Go.Proofs.Ytnomebkdhjigjaa.W
