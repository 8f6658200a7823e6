/- The four functions that lz.Parse hands to walk, as contracts over the sequences so far. -/
import Derived.Test.YtnomebkdhjigjaaAb
import Derived.Test.YtnomebkdhjigjaaAd
import Derived.Test.YtnomebkdhjigjaaAc
namespace Go.Proofs.Ytnomebkdhjigjaa.W
open Go.RowKit Go.Proofs.Ytnomebkdhjigjaa.Z Go.Proofs.YtnomebkdhjigjaaW.PrintWords Go.Proofs.YtnomebkdhjigjaaW.PrintLast Go.Proofs.YtnomebkdhjigjaaW.PrintMore
set_option linter.unusedVariables false
set_option linter.unusedSimpArgs false
/-- The cells of sequences whose rows are given. -/
def cells3 (L : List (Value × S44)) : List Value := L.flatMap fun p => [p.1, .int .i64 p.2.f1, .int .i64 p.2.f2]
theorem cells3_len (L : List (Value × S44)) : (cells3 L).length = L.length * 3 := by
  unfold cells3
  induction L with
  | nil => rfl
  | cons a t ih => rw [List.flatMap_cons, List.length_append, ih, List.length_cons]; simp; omega
theorem cells3_app (L : List (Value × S44)) (p : Value × S44) : cells3 (L ++ [p]) = cells3 L ++ [p.1, .int .i64 p.2.f1, .int .i64 p.2.f2] := by
  unfold cells3
  rw [List.flatMap_append]
  simp
/-- A sequence's plain bytes. -/
def innerR (B : Nat) (p : Value × S44) : Res := Res.row B 5 1 p.2.f0.length p.1 (nums .u8 p.2.f0)
def QList (w0 : World) (gl : Nat) (v : Value) (L : List (Value × S44)) : List Res := Res.blk gl #[v] 37 :: Res.row w0.heap.size 44 3 L.length v (cells3 L) :: L.map (innerR w0.heap.size)
/-- The sequences so far, each in memory of its own. -/
structure QInv (w0 w : World) (gl : Nat) (v : Value) (L : List (Value × S44)) : Prop where
  s : Sep w0 w (QList w0 gl v L)
theorem QInv.B {w0 w : World} {gl : Nat} {v : Value} {L : List (Value × S44)} (h : QInv w0 w gl v L) : Below w0.heap.size w0 w := h.s.B
theorem QInv.keep {w0 w w' : World} {gl : Nat} {v : Value} {L : List (Value × S44)} (h : QInv w0 w gl v L) (b : Below w.heap.size w w') : QInv w0 w' gl v L := ⟨h.s.keep b⟩
theorem QInv.keepF {w0 w w' : World} {gl : Nat} {v : Value} {L : List (Value × S44)} (h : QInv w0 w gl v L) (f : Fr w w' (fun _ => True)) : QInv w0 w' gl v L := ⟨h.s.keepFr f⟩
theorem QInv.cell {w0 w : World} {gl : Nat} {v : Value} {L : List (Value × S44)} (h : QInv w0 w gl v L) : w.cell? ⟨gl, 0, none⟩ = some v ∧ w.frozen? ⟨gl, 0, none⟩ = false := h.s.cell 0 gl #[v] 37 rfl 0 v rfl
theorem QInv.row {w0 w : World} {gl : Nat} {v : Value} {L : List (Value × S44)} (h : QInv w0 w gl v L) : w.ownsRow w0.heap.size 44 3 v L.length (cells3 L) := h.s.get 1 rfl
/-- Whatever leaves all these blocks. -/
theorem QInv.other {w0 w w' : World} {gl gr : Nat} {v : Value} {L : List (Value × S44)} {cs : Array Value} {t : TypeId} (h : QInv w0 w gl v L) (hr : w.heap[gr]? = some (.cells cs t (0, 0))) (ht : t ≠ 37 ∧ t ≠ 44 ∧ t ≠ 5) (hg : w0.heap.size ≤ gr) (f : Fr w w' (fun i => i ≠ gr)) : QInv w0 w' gl v L := by
  have hs : Sep w0 w (Res.blk gr cs t :: QList w0 gl v L) := by
    refine ⟨h.s.B, ?_, ?_, ?_⟩
    · intro r hm
      rcases List.mem_cons.1 hm with rfl | hm
      · exact hr
      · exact h.s.h r hm
    · intro r hm i hi
      rcases List.mem_cons.1 hm with rfl | hm
      · subst hi; exact hg
      · exact h.s.ge r hm i hi
    · refine List.pairwise_cons.2 ⟨fun r hm i hi hi2 => ?_, h.s.ne⟩
      subst hi
      have hh := h.s.h r hm
      unfold QList at hm
      rcases List.mem_cons.1 hm with rfl | hm
      · exact absurd hi2 (blk_ne hr (show w.heap[gl]? = some (.cells #[v] 37 (0, 0)) from hh) ht.1)
      · rcases List.mem_cons.1 hm with rfl | hm
        · exact own_ne (show w.ownsRow w0.heap.size 44 3 v L.length (cells3 L) from hh) hr (Ne.symm ht.2.1) hi2
        · obtain ⟨p, _, rfl⟩ := List.mem_map.1 hm
          exact own_ne (show w.ownsRow w0.heap.size 5 1 p.1 p.2.f0.length (nums .u8 p.2.f0) from hh) hr (Ne.symm ht.2.2) hi2
  have hu := hs.upd 0 (Res.blk gr cs t) (Res.pure True) rfl trivial (f.mono (fun i _ hi => hi)) (fun i hi => hi.elim)
  exact ⟨hu.drop 0⟩
theorem QInv.app {w0 w w3 w5 : World} {gl : Nat} {v v5 rv : Value} {xs : List Int} {L : List (Value × S44)} (h : QInv w0 w gl v L) (b : Below w.heap.size w w3) (ho : w3.ownsRow w.heap.size 5 1 rv xs.length (nums .u8 xs))
    (hO : w5.ownsRow w0.heap.size 44 3 v5 (L.length + 1) (cells3 L ++ [rv, .int .i64 0, .int .i64 0])) (hG : w3.grownBy w5 v.ownBlock) (hA : v5.ownBlock = v.ownBlock ∨ ∃ b, v5.ownBlock = some b ∧ w3.heap.size ≤ b) :
    QInv w0 (w5.setCell ⟨gl, 0, none⟩ v5) gl v5 (L ++ [(rv, ⟨xs, 0, 0⟩)]) := by
  have s1 := h.s.push b (Res.row w0.heap.size 5 1 xs.length rv (nums .u8 xs)) (own_lower ho h.s.B.size) (fun i hi => (own_ge ho i hi).1)
  have s2 := s1.upd 2 (Res.row w0.heap.size 44 3 L.length v (cells3 L)) (Res.row w0.heap.size 44 3 (L.length + 1) v5 (cells3 L ++ [rv, .int .i64 0, .int .i64 0])) rfl hO (Fr.of_grown hG) (fun i hi => by
    have hi : some i = v5.ownBlock := hi
    rcases hA with e | ⟨q, e, hq⟩
    · exact .inl (show some i = v.ownBlock by rw [← e]; exact hi)
    · rw [e] at hi
      injection hi with hi
      subst hi
      exact .inr hq)
  have s3 := s2.put 1 gl #[v] 37 rfl 0 v5 (Nat.zero_lt_one)
  refine ⟨?_⟩
  have e : QList w0 gl v5 (L ++ [(rv, ⟨xs, 0, 0⟩)]) = (Res.blk gl #[v5] 37 :: Res.row w0.heap.size 44 3 (L.length + 1) v5 (cells3 L ++ [rv, .int .i64 0, .int .i64 0]) :: (L.map (innerR w0.heap.size))) ++ [Res.row w0.heap.size 5 1 xs.length rv (nums .u8 xs)] := by
    unfold QList
    rw [cells3_app, List.map_append, List.length_append]
    rfl
  rw [e]
  exact s3.perm (List.perm_append_comm (l₁ := [Res.row w0.heap.size 5 1 xs.length rv (nums .u8 xs)]))
theorem set_three (l : List Value) (a b c u : Value) : (l ++ [a, b, c]).set (l.length + 1) u = l ++ [a, u, c] ∧ (l ++ [a, b, c]).set (l.length + 2) u = l ++ [a, b, u] := by
  constructor
  · rw [List.set_append_right _ _ (by omega), show l.length + 1 - l.length = 1 by omega]; rfl
  · rw [List.set_append_right _ _ (by omega), show l.length + 2 - l.length = 2 by omega]; rfl
theorem QInv.set1 {w0 w : World} {gl g cp : Nat} {L : List (Value × S44)} {p : Value × S44} (h : QInv w0 w gl (.slice (some ⟨g, 0, none⟩) (L ++ [p]).length cp) (L ++ [p])) (z : Int) :
    QInv w0 (w.setCell ⟨g, L.length * 3 + 1, none⟩ (.int .i64 z)) gl (.slice (some ⟨g, 0, none⟩) (L ++ [p]).length cp) (L ++ [(p.1, ⟨p.2.f0, z, p.2.f2⟩)]) := by
  have hst := World.ownsRow.stored h.row (L.length * 3 + 1) (.int .i64 z)
  rw [cells3_app, ← cells3_len L, (set_three (cells3 L) p.1 (.int .i64 p.2.f1) (.int .i64 p.2.f2) (.int .i64 z)).1, cells3_len L] at hst
  have s2 := h.s.upd 1 (Res.row w0.heap.size 44 3 (L ++ [p]).length (.slice (some ⟨g, 0, none⟩) (L ++ [p]).length cp) (cells3 (L ++ [p]))) (Res.row w0.heap.size 44 3 (L ++ [p]).length (.slice (some ⟨g, 0, none⟩) (L ++ [p]).length cp) (cells3 L ++ [p.1, .int .i64 z, .int .i64 p.2.f2])) rfl hst.1 (Fr.of_grown hst.2) (fun i hi => .inl hi)
  refine ⟨?_⟩
  have e : QList w0 gl (.slice (some ⟨g, 0, none⟩) (L ++ [p]).length cp) (L ++ [(p.1, ⟨p.2.f0, z, p.2.f2⟩)]) = (QList w0 gl (.slice (some ⟨g, 0, none⟩) (L ++ [p]).length cp) (L ++ [p])).set 1 (Res.row w0.heap.size 44 3 (L ++ [p]).length (.slice (some ⟨g, 0, none⟩) (L ++ [p]).length cp) (cells3 L ++ [p.1, .int .i64 z, .int .i64 p.2.f2])) := by
    unfold QList
    rw [cells3_app, List.map_append, List.map_append, List.length_append, List.length_append]
    rfl
  rw [e]
  exact s2
theorem QInv.set2 {w0 w : World} {gl g cp : Nat} {L : List (Value × S44)} {p : Value × S44} (h : QInv w0 w gl (.slice (some ⟨g, 0, none⟩) (L ++ [p]).length cp) (L ++ [p])) (z : Int) :
    QInv w0 (w.setCell ⟨g, L.length * 3 + 2, none⟩ (.int .i64 z)) gl (.slice (some ⟨g, 0, none⟩) (L ++ [p]).length cp) (L ++ [(p.1, ⟨p.2.f0, p.2.f1, z⟩)]) := by
  have hst := World.ownsRow.stored h.row (L.length * 3 + 2) (.int .i64 z)
  rw [cells3_app, ← cells3_len L, (set_three (cells3 L) p.1 (.int .i64 p.2.f1) (.int .i64 p.2.f2) (.int .i64 z)).2, cells3_len L] at hst
  have s2 := h.s.upd 1 (Res.row w0.heap.size 44 3 (L ++ [p]).length (.slice (some ⟨g, 0, none⟩) (L ++ [p]).length cp) (cells3 (L ++ [p]))) (Res.row w0.heap.size 44 3 (L ++ [p]).length (.slice (some ⟨g, 0, none⟩) (L ++ [p]).length cp) (cells3 L ++ [p.1, .int .i64 p.2.f1, .int .i64 z])) rfl hst.1 (Fr.of_grown hst.2) (fun i hi => .inl hi)
  refine ⟨?_⟩
  have e : QList w0 gl (.slice (some ⟨g, 0, none⟩) (L ++ [p]).length cp) (L ++ [(p.1, ⟨p.2.f0, p.2.f1, z⟩)]) = (QList w0 gl (.slice (some ⟨g, 0, none⟩) (L ++ [p]).length cp) (L ++ [p])).set 1 (Res.row w0.heap.size 44 3 (L ++ [p]).length (.slice (some ⟨g, 0, none⟩) (L ++ [p]).length cp) (cells3 L ++ [p.1, .int .i64 p.2.f1, .int .i64 z])) := by
    unfold QList
    rw [cells3_app, List.map_append, List.map_append, List.length_append, List.length_append]
    rfl
  rw [e]
  exact s2
theorem own_slice' {w : World} {B e size n : Nat} {v : Value} {xs : List Value} (h : w.ownsRow B e size v n xs) (hn : 0 < n) : ∃ g cp, v = .slice (some ⟨g, 0, none⟩) n cp ∧ n ≤ cp := by
  rcases h.2 with ⟨_, h0⟩ | ⟨g, cap, cur, rfl, _, _, h1, _⟩
  · omega
  · exact ⟨g, cap, rfl, h1⟩
theorem prun_calls (n k : Int) (w : World) : Calls Try.prog 50 #[.int .i64 n, .int .i64 k] w fun e w' => e = .returned (.int .i64 0) ∧ w' = w := by
  go_enter Try.func50, Try.ntmps50
  go_wp2
  go_ret
  exact ⟨rfl, rfl⟩
set_option maxHeartbeats 4000000 in
set_option maxRecDepth 100000 in
theorem pseen_calls (w0 : World) (gl : Nat) (xs : List Int) (v : Value) (L : List (Value × S44)) (A : Option Addr) (c : Nat) (w : World) (h : QInv w0 w gl v L) (hr : ReadsInt w .u8 A xs.length xs) (hx : xs.length ≤ 140737488355327) (hL : L.length ≤ 1099511627776) :
    Calls Try.prog 51 #[.slice A xs.length c, .pointer (some ⟨gl, 0, none⟩)] w fun e w' => e = .returned (.tuple #[]) ∧ ∃ v' rv, QInv w0 w' gl v' (L ++ [(rv, ⟨xs, 0, 0⟩)]) ∧ Fr w w' (fun i => i ≠ gl ∧ some i ≠ v.ownBlock) := by
  have HI := Aside0.mk h
  have HR := Aside0.mk hr
  have hcap : (L.length + 1) * 40 ≤ 140737488355328 := by omega
  have HX := Aside0.mk hx
  clear h hr
  go_enter Try.func51, Try.ntmps51
  go_upto_region 0 with fail
  have HId := Aside0.mk (HI.out.keepF (Fr.drew _))
  have HRd := Aside0.mk (show ReadsInt w.drew .u8 A xs.length xs from HR.out)
  have HFd := Aside0.mk (Fr.drew (w := w) (fun i => i ≠ gl ∧ some i ≠ v.ownBlock))
  have xc : w.drew.cell? ⟨gl, 0, none⟩ = some v := HId.out.cell.1
  refine start_ (n := 7) (S := fun w' => w'.cell? ⟨gl, 0, none⟩ = some v) (ds := [6]) #[false, false, false, false, false, false, false] (by kernel_rfl) rfl rfl (xc) (fun hHeld => ?_)
  generalize w.drew = wd at HId HRd HFd xc hHeld ⊢
  refine pure_ (i := 1) (N := some 4) (v := ?_) (a' := ?_) #[false, true, false, false, false, false, false] rfl rfl (by kernel_rfl) (fun _ _ _ h => h) (Or.inl ⟨by rfl, ?_⟩) ?_ ?_
  rotate_left
  · intro w'
    go_simp
    with_reducible rfl
  rotate_left
  · simp only [Act.put, List.setIfInBounds_toArray, List.set_cons_zero, List.set_cons_succ, i64_w, i32_w]
    rfl
  refine take_ (i := 0) (N := some 3) (v := ?_) (a' := ?_) #[true, true, false, false, false, false, false] rfl rfl (by kernel_rfl) (fun _ _ _ h => h) (Or.inl ⟨by rfl, ?_⟩) hHeld ?_ ?_
  rotate_left
  · intro w' s0
    go_simp
    with_reducible rfl
  rotate_left
  · simp only [Act.put, List.setIfInBounds_toArray, List.set_cons_zero, List.set_cons_succ, i64_w, i32_w]
    rfl
  refine one_ (i := 2) (N := some 5) #[true, true, true, false, false, false, false] rfl rfl (by kernel_rfl) (by decide) (fun K hK => ?_)
  refine goes_ Try.func52 (by kernel_rfl) rfl #[.slice A xs.length c] (by rfl) rfl rfl (by simp only [List.map_toArray, List.map_cons, List.map_nil]; rfl) ?_
  with_reducible refine (clone_any A c xs _ HRd.out HX.out).mono ?_
  rintro e w3 ⟨A3, c3, rfl, ho3, hb3⟩
  refine ⟨_, rfl, ?_⟩
  have HB3 := Aside0.mk hb3
  have HO3 := Aside0.mk ho3
  have y3 : w3.cell? ⟨gl, 0, none⟩ = some v := (HId.out.keep hb3).cell.1
  have HW3 := Aside0.mk (HId.out.keep hb3)
  clear ho3 hb3
  refine hK.out _ _ (y3) (fun hHeld => ?_)
  clear hK K
  refine norm_ (a' := ?_) ?_ ?_
  rotate_left
  · show Act.put _ (some 5) _ = _
    simp only [Act.put, List.setIfInBounds_toArray, List.set_cons_zero, List.set_cons_succ, i64_w, i32_w]
    rfl
  refine pure_ (i := 3) (N := some 6) (v := ?_) (a' := ?_) #[true, true, true, true, false, false, false] rfl rfl (by kernel_rfl) (fun _ _ _ h => h) (Or.inl ⟨by rfl, ?_⟩) ?_ ?_
  rotate_left
  · intro w'
    go_simp
    with_reducible rfl
  rotate_left
  · simp only [Act.put, List.setIfInBounds_toArray, List.set_cons_zero, List.set_cons_succ, i64_w, i32_w]
    rfl
  refine one_ (i := 4) (N := some 7) #[true, true, true, true, true, false, false] rfl rfl (by kernel_rfl) (by decide) (fun K hK => ?_)
  refine value_ (w1 := ?_) (v := ?_) (by rfl) rfl ?_ ?_
  rotate_left 2
  · go_simp
    constructor
    · rfl
    · rfl
  have y4 : (w3.alloc (.cells #[.slice A3 xs.length c3, .int .i64 0, .int .i64 0] 44)).cell? ⟨gl, 0, none⟩ = some v := (HW3.out.keepF (Fr.alloc _ _)).cell.1
  refine hK.out _ _ (y4) (fun hHeld => ?_)
  clear hK K
  refine norm_ (a' := ?_) ?_ ?_
  rotate_left
  · show Act.put _ (some 7) _ = _
    simp only [Act.put, List.setIfInBounds_toArray, List.set_cons_zero, List.set_cons_succ, i64_w, i32_w]
    rfl
  refine one_ (i := 5) (N := some 8) #[true, true, true, true, true, true, false] rfl rfl (by kernel_rfl) (by decide) (fun K hK => ?_)
  refine step_append_cells (w0 := w0) w0.heap.size (by rfl) (.tmp 3) (.tmp 7) 37 44 _ 3 40 rfl Try.underlying37 info44 rfl (by decide) (by decide) v L.length (cells3 L) [.slice A3 xs.length c3, .int .i64 0, .int .i64 0] rfl rfl rfl (by intro u hu; simp at hu; rcases hu with rfl | rfl <;> rfl) HW3.out.row HW3.out.B HW3.out.B.size hcap ?_
  intro v5 w5 hO hBl hG hA
  obtain ⟨A5, c5, rfl⟩ := own_slice hO
  have HO5 := Aside0.mk hO
  have HG5 := Aside0.mk hG
  have HA5 := Aside0.mk hA
  have zc := (HW3.out.cell).2
  have z5 : w5.frozen? ⟨gl, 0, none⟩ = false := blk_frozen (blk_grown (HW3.out.s.get 0 rfl) hG (own_ne HW3.out.row (HW3.out.s.get 0 rfl) (by decide))) 0
  have y5 : w5.cell? ⟨gl, 0, none⟩ = some v := (blk_cell (blk_grown (HW3.out.s.get 0 rfl) hG (own_ne HW3.out.row (HW3.out.s.get 0 rfl) (by decide))) 0).trans rfl
  clear hO hBl hG hA
  refine hK.out _ _ (y5) (fun hHeld => ?_)
  clear hK K
  refine norm_ (a' := ?_) ?_ ?_
  rotate_left
  · show Act.put _ (some 8) _ = _
    simp only [Act.put, List.setIfInBounds_toArray, List.set_cons_zero, List.set_cons_succ, i64_w, i32_w]
    rfl
  refine last_ (i := 6) (N := none) #[true, true, true, true, true, true, true] rfl rfl (by kernel_rfl) (by decide) (fun K hK => ?_)
  refine skip_ (w1 := ?_) (by rfl) rfl ?_ ?_
  rotate_left
  · go_simp
    rfl
  refine hK.out _ _ ?_
  clear hK K
  refine done_ (by kernel_rfl) ?_
  go_end0
  have f2 : Fr wd (w5.setCell ⟨gl, 0, none⟩ (.slice A5 (L.length + 1) c5)) (fun i => i ≠ gl ∧ some i ≠ v.ownBlock) :=
    ((Fr.of_below HB3.out (fun i => i ≠ gl ∧ some i ≠ v.ownBlock)).then' ((Fr.of_grown HG5.out).mono (ok' := fun i => i ≠ gl ∧ some i ≠ v.ownBlock) (fun _ _ h => h.2)) (fun _ _ h => h)).then' (Fr.set ⟨gl, 0, none⟩ _) (fun i _ h => h.1)
  exact ⟨rfl, .slice A5 (L.length + 1) c5, .slice A3 xs.length c3, HId.out.app HB3.out HO3.out HO5.out HG5.out HA5.out, HFd.out.then f2⟩
set_option maxHeartbeats 4000000 in
set_option maxRecDepth 100000 in
theorem pmatch_calls (w0 : World) (gl : Nat) (v : Value) (L : List (Value × S44)) (p : Value × S44) (n k : Int) (w : World) (h : QInv w0 w gl v (L ++ [p])) (hL : L.length ≤ 1099511627776) :
    Calls Try.prog 53 #[.int .i64 n, .int .i64 k, .pointer (some ⟨gl, 0, none⟩)] w fun e w' => e = .returned (.int .i64 0) ∧ QInv w0 w' gl v (L ++ [(p.1, ⟨p.2.f0, n, p.2.f2⟩)]) ∧ Fr w w' (fun i => some i ≠ v.ownBlock) := by
  obtain ⟨g, cp, rfl, hcp⟩ := own_slice' h.row (by simp)
  have HI := Aside0.mk h
  have x0 := h.cell.1
  have z1 : w.frozen? ⟨g, L.length * 3 + 1, none⟩ = false := World.ownsRow.frozenAt h.row _
  have x1 : w.cell? ⟨g, L.length * 3 + 1, none⟩ = some (.int .i64 p.2.f1) := by
    rw [World.ownsRow.cellAt h.row _ (by simp; omega), cells3_app, List.getElem?_append_right (by rw [cells3_len]; omega), cells3_len]
    simp
  have HF := Aside0.mk (Fr.set (w := w) ⟨g, L.length * 3 + 1, none⟩ (.int .i64 n))
  have hlen : (L ++ [p]).length = L.length + 1 := by simp
  have HN := Aside0.mk h.set1
  rw [hlen] at x0 HN hcp
  obtain ⟨m, hm⟩ : ∃ m, m = L.length := ⟨_, rfl⟩
  rw [← hm] at x0 x1 z1 HF HN hL hcp
  have HM := Aside0.mk hm
  have HL := Aside0.mk hlen
  clear h hlen hm
  go_enter Try.func53, Try.ntmps53
  go_wp2
  go_ret
  have hm := HM.out
  subst hm
  exact ⟨rfl, HN.out n, HF.out.mono (fun i _ h e => h (by rw [e]; rfl))⟩
set_option maxHeartbeats 4000000 in
set_option maxRecDepth 100000 in
theorem plength_calls (w0 : World) (gl : Nat) (v : Value) (L : List (Value × S44)) (p : Value × S44) (n k : Int) (w : World) (h : QInv w0 w gl v (L ++ [p])) (hL : L.length ≤ 1099511627776) :
    Calls Try.prog 54 #[.int .i64 n, .int .i64 k, .pointer (some ⟨gl, 0, none⟩)] w fun e w' => e = .returned (.int .i64 0) ∧ QInv w0 w' gl v (L ++ [(p.1, ⟨p.2.f0, p.2.f1, n⟩)]) ∧ Fr w w' (fun i => some i ≠ v.ownBlock) := by
  obtain ⟨g, cp, rfl, hcp⟩ := own_slice' h.row (by simp)
  have HI := Aside0.mk h
  have x0 := h.cell.1
  have z1 : w.frozen? ⟨g, L.length * 3 + 2, none⟩ = false := World.ownsRow.frozenAt h.row _
  have x1 : w.cell? ⟨g, L.length * 3 + 2, none⟩ = some (.int .i64 p.2.f2) := by
    rw [World.ownsRow.cellAt h.row _ (by simp; omega), cells3_app, List.getElem?_append_right (by rw [cells3_len]; omega), cells3_len]
    simp
  have HF := Aside0.mk (Fr.set (w := w) ⟨g, L.length * 3 + 2, none⟩ (.int .i64 n))
  have hlen : (L ++ [p]).length = L.length + 1 := by simp
  have HN := Aside0.mk h.set2
  rw [hlen] at x0 HN hcp
  obtain ⟨m, hm⟩ : ∃ m, m = L.length := ⟨_, rfl⟩
  rw [← hm] at x0 x1 z1 HF HN hL hcp
  have HM := Aside0.mk hm
  have HL := Aside0.mk hlen
  clear h hlen hm
  go_enter Try.func54, Try.ntmps54
  go_wp2
  go_ret
  have hm := HM.out
  subst hm
  exact ⟨rfl, HN.out n, HF.out.mono (fun i _ h e => h (by rw [e]; rfl))⟩
end Go.Proofs.Ytnomebkdhjigjaa.W
