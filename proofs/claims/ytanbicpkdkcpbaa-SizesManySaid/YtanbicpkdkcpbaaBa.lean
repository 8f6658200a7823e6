/- Contracts of the budget's methods: what they answer, what the budget holds behind them. Conditions: 0 ≤ spent ≤ total, numbers of 64 bits; the lock is free. -/
import Derived.Test.YtanbicpkdkcpbaaFr
import Derived.Test.YtanbicpkdkcpbaaLk
import Derived.Deep.QuietTactic
import Derived.BigQuiet
namespace Go.Proofs.Ytanbicpkdkcpbaa.W
open Go.RowKit Go.Proofs.YtanbicpkdkcpbaaW.PrintWords Go.Proofs.YtanbicpkdkcpbaaW.PrintLast Go.Proofs.YtanbicpkdkcpbaaW.PrintMore
open Go.MuLone
set_option linter.unusedVariables false
set_option linter.unusedSimpArgs false
def IsB (w : World) (g : Nat) (t s : Int) : Prop := w.heap[g]? = some (.cells #[.int .i32 0, .int .u32 0, .int .i64 t, .int .i64 s] 88 (0, 0))
def IsL (w : World) (g : Nat) (t s : Int) : Prop := w.heap[g]? = some (.cells #[.int .i32 1, .int .u32 0, .int .i64 t, .int .i64 s] 88 (0, 0))
theorem IsB.at {w : World} {g : Nat} {t s : Int} (h : IsB w g t s) (i : Nat) (u : Value) (hu : (#[.int .i32 0, .int .u32 0, .int .i64 t, .int .i64 s] : Array Value)[i]? = some u) : w.cell? ⟨g, i, none⟩ = some u ∧ w.frozen? ⟨g, i, none⟩ = false :=
  ⟨(cell_of_row w g i _ 88 (0, 0) h).trans hu, blk_frozen h i⟩
theorem IsL.at {w : World} {g : Nat} {t s : Int} (h : IsL w g t s) (i : Nat) (u : Value) (hu : (#[.int .i32 1, .int .u32 0, .int .i64 t, .int .i64 s] : Array Value)[i]? = some u) : w.cell? ⟨g, i, none⟩ = some u ∧ w.frozen? ⟨g, i, none⟩ = false :=
  ⟨(cell_of_row w g i _ 88 (0, 0) h).trans hu, blk_frozen h i⟩
/-- What Spend answers, and what is spent behind it. -/
def spendE (t s n : Int) : Int := if n < 0 then 1 else if n > t - s then 11 else 0
def spendS (t s n : Int) : Int := if n < 0 then s else if n > t - s then s else s + n
def backE (t s n : Int) : Int := if n < 0 then 1 else if n > s then 1 else 0
def backS (t s n : Int) : Int := if n < 0 then s else if n > s then s else s - n
theorem spend_cases (t s n : Int) : (n < 0 ∧ spendE t s n = 1 ∧ spendS t s n = s) ∨ (¬ n < 0 ∧ n > t - s ∧ spendE t s n = 11 ∧ spendS t s n = s) ∨ (¬ n < 0 ∧ ¬ n > t - s ∧ spendE t s n = 0 ∧ spendS t s n = s + n) := by
  unfold spendE spendS
  by_cases h : n < 0
  · exact .inl ⟨h, if_pos h, if_pos h⟩
  · rw [if_neg h, if_neg h]
    by_cases h' : n > t - s
    · exact .inr (.inl ⟨h, h', if_pos h', if_pos h'⟩)
    · exact .inr (.inr ⟨h, h', if_neg h', if_neg h'⟩)
theorem back_cases (t s n : Int) : (n < 0 ∧ backE t s n = 1 ∧ backS t s n = s) ∨ (¬ n < 0 ∧ n > s ∧ backE t s n = 1 ∧ backS t s n = s) ∨ (¬ n < 0 ∧ ¬ n > s ∧ backE t s n = 0 ∧ backS t s n = s - n) := by
  unfold backE backS
  by_cases h : n < 0
  · exact .inl ⟨h, if_pos h, if_pos h⟩
  · rw [if_neg h, if_neg h]
    by_cases h' : n > s
    · exact .inr (.inl ⟨h, h', if_pos h', if_pos h'⟩)
    · exact .inr (.inr ⟨h, h', if_neg h', if_neg h'⟩)
/-- The lock taken. -/
theorem lock_B {w : World} {g : Nat} {t s : Int} (h : IsB w g t s) : Calls Try.prog 40 #[.pointer (some ⟨g, 0, none⟩)] w fun e w' => e = .returned (.tuple #[]) ∧ IsL w' g t s ∧ Fr w w' (fun i => i ≠ g) := by
  obtain ⟨c, z⟩ := h.at 0 _ rfl
  refine (lock_free muLib ⟨g, 0, none⟩ w c z).mono ?_
  rintro e w' ⟨rfl, rfl⟩
  exact ⟨rfl, blk_set h 0 _, Fr.set ⟨g, 0, none⟩ _⟩
/-- The lock given back behind the body. -/
theorem unlock_B {w : World} {g : Nat} {t s : Int} (u : FrameMode) (h : IsL w g t s) : CallsD Try.prog 41 #[.pointer (some ⟨g, 0, none⟩)] u w fun e u' w' => u' = u ∧ (e = .returned (.tuple #[]) ∧ IsB w' g t s ∧ Fr w w' (fun i => i ≠ g)) := by
  obtain ⟨c, z⟩ := h.at 0 _ rfl
  refine (unlock_deferred muLib ⟨g, 0, none⟩ u w c z).mono ?_
  rintro e u' w' ⟨rfl, rfl, rfl⟩
  exact ⟨rfl, rfl, blk_set h 0 _, Fr.set ⟨g, 0, none⟩ _⟩
theorem new_calls (t : Int) (w : World) (h : 0 ≤ t) : Calls Try.prog 16 #[.int .i64 t] w fun e w' => e = .returned (.tuple #[.pointer (some ⟨w.heap.size, 0, none⟩), .int .i64 0]) ∧ IsB w' w.heap.size t 0 ∧ Below w.heap.size w w' := by
  have hn : ¬ t < 0 := by omega
  go_enter Try.func16, Try.ntmps16
  go_wp2
  go_ret2
  exact ⟨rfl, heap_alloc_new w _, below_alloc (Below.refl _ _) _⟩
theorem new_not (t : Int) (w : World) (h : t < 0) : Calls Try.prog 16 #[.int .i64 t] w fun e w' => e = .returned (.tuple #[.pointer none, .int .i64 1]) ∧ w' = w := by
  go_enter Try.func16, Try.ntmps16
  go_wp2
  go_ret2
  exact ⟨rfl, rfl⟩
theorem spent_calls (g : Nat) (t s : Int) (w : World) (h : IsB w g t s) : Calls Try.prog 18 #[.pointer (some ⟨g, 0, none⟩)] w fun e w' => e = .returned (.int .i64 s) ∧ IsB w' g t s ∧ Fr w w' (fun i => i ≠ g) := by
  have H := Aside0.mk h
  clear h
  go_enter_defers Try.func18, Try.ntmps18
  go_wp2_with (go_at_call 40; refine (lock_B H.out).mono ?_; rintro e w1 ⟨rfl, h1, f1⟩; have H1 := Aside0.mk h1; have F1 := Aside0.mk f1; have x3 := (h1.at 3 _ rfl).1; clear h1 f1)
  refine leaves_cons (f := 41) (args := #[.pointer (some ⟨g, 0, none⟩)]) (by simp) (by simp [go_sem]) ?_
  refine (unlock_B .returning H1.out).mono ?_
  rintro e u' w2 ⟨rfl, rfl, h2, f2⟩
  exact ⟨_, results_tmp rfl _ _ _, rfl, h2, F1.out.then f2⟩
theorem left_calls (g : Nat) (t s : Int) (w : World) (h : IsB w g t s) (h0 : 0 ≤ s) (h1 : s ≤ t) (h2 : t ≤ 9223372036854775807) : Calls Try.prog 19 #[.pointer (some ⟨g, 0, none⟩)] w fun e w' => e = .returned (.int .i64 (t - s)) ∧ IsB w' g t s ∧ Fr w w' (fun i => i ≠ g) := by
  have H := Aside0.mk h
  clear h
  go_enter_defers Try.func19, Try.ntmps19
  go_wp2_with (go_at_call 40; refine (lock_B H.out).mono ?_; rintro e w1 ⟨rfl, h1, f1⟩; have H1 := Aside0.mk h1; have F1 := Aside0.mk f1; have x3 := (h1.at 3 _ rfl).1; have x2 := (h1.at 2 _ rfl).1; clear h1 f1)
  go_quiet (fail)
  go_wp2
  refine leaves_cons (f := 41) (args := #[.pointer (some ⟨g, 0, none⟩)]) (by simp) (by simp [go_sem]) ?_
  refine (unlock_B .returning (show IsL (w1.drewN _) g t _ from H1.out)).mono ?_
  rintro e u' w2 ⟨rfl, rfl, h2, f2⟩
  exact ⟨_, results_tmp rfl _ _ _, rfl, h2, F1.out.then ((Fr.drewN _ _).then f2)⟩
theorem spend_calls (g : Nat) (t s n : Int) (w : World) (h : IsB w g t s) (h0 : 0 ≤ s) (h1 : s ≤ t) (h2 : t ≤ 9223372036854775807) (hn : -9223372036854775808 ≤ n ∧ n ≤ 9223372036854775807) :
    Calls Try.prog 17 #[.pointer (some ⟨g, 0, none⟩), .int .i64 n] w fun e w' => e = .returned (.int .i64 (spendE t s n)) ∧ IsB w' g t (spendS t s n) ∧ Fr w w' (fun i => i ≠ g) := by
  have H := Aside0.mk h
  clear h
  have HK := spend_cases t s n
  generalize spendE t s n = E at HK ⊢
  generalize spendS t s n = S at HK ⊢
  go_enter_defers Try.func17, Try.ntmps17
  rcases HK with ⟨k1, rfl, rfl⟩ | ⟨k1, k2, rfl, rfl⟩ | ⟨k1, k2, rfl, rfl⟩
  · go_wp2_with (go_at_call 40; refine (lock_B H.out).mono ?_; rintro e w1 ⟨rfl, h1, f1⟩; have H1 := Aside0.mk h1; have F1 := Aside0.mk f1; clear h1 f1)
    refine leaves_cons (f := 41) (args := #[.pointer (some ⟨g, 0, none⟩)]) (by simp) (by simp [go_sem]) ?_
    refine (unlock_B .returning H1.out).mono ?_
    rintro e u' w2 ⟨rfl, rfl, h2, f2⟩
    exact ⟨_, results_tmp rfl _ _ _, rfl, h2, F1.out.then f2⟩
  · go_wp2_with (go_at_call 40; refine (lock_B H.out).mono ?_; rintro e w1 ⟨rfl, h1, f1⟩; have H1 := Aside0.mk h1; have F1 := Aside0.mk f1; have x3 := (h1.at 3 _ rfl).1; have x2 := (h1.at 2 _ rfl).1; clear h1 f1)
    go_quiet (fail)
    go_wp2
    refine leaves_cons (f := 41) (args := #[.pointer (some ⟨g, 0, none⟩)]) (by simp) (by simp [go_sem]) ?_
    refine (unlock_B .returning (show IsL (w1.drewN _) g t _ from H1.out)).mono ?_
    rintro e u' w2 ⟨rfl, rfl, h2, f2⟩
    exact ⟨_, results_tmp rfl _ _ _, rfl, h2, F1.out.then ((Fr.drewN _ _).then f2)⟩
  · go_wp2_with (go_at_call 40; refine (lock_B H.out).mono ?_; rintro e w1 ⟨rfl, h1, f1⟩; have H1 := Aside0.mk h1; have F1 := Aside0.mk f1; have x3 := (h1.at 3 _ rfl).1; have x2 := (h1.at 2 _ rfl).1; have y3 := (h1.at 3 (.int .i64 s) rfl).2; clear h1 f1)
    go_quiet (fail)
    go_wp2
    refine leaves_cons (f := 41) (args := #[.pointer (some ⟨g, 0, none⟩)]) (by simp) (by simp [go_sem]) ?_
    refine (unlock_B .returning (show IsL ((w1.drewN _).setCell ⟨g, 3, none⟩ (.int .i64 (s + n))) g t (s + n) from blk_set (w := w1.drewN _) H1.out 3 _)).mono ?_
    rintro e u' w2 ⟨rfl, rfl, h2, f2⟩
    exact ⟨_, results_tmp rfl _ _ _, rfl, h2, F1.out.then ((Fr.drewN _ _).then ((Fr.set ⟨g, 3, none⟩ _).then f2))⟩
theorem back_calls (g : Nat) (t s n : Int) (w : World) (h : IsB w g t s) (h0 : 0 ≤ s) (h1 : s ≤ t) (h2 : t ≤ 9223372036854775807) (hn : -9223372036854775808 ≤ n ∧ n ≤ 9223372036854775807) :
    Calls Try.prog 25 #[.pointer (some ⟨g, 0, none⟩), .int .i64 n] w fun e w' => e = .returned (.int .i64 (backE t s n)) ∧ IsB w' g t (backS t s n) ∧ Fr w w' (fun i => i ≠ g) := by
  have H := Aside0.mk h
  clear h
  have HK := back_cases t s n
  generalize backE t s n = E at HK ⊢
  generalize backS t s n = S at HK ⊢
  go_enter_defers Try.func25, Try.ntmps25
  rcases HK with ⟨k1, rfl, rfl⟩ | ⟨k1, k2, rfl, rfl⟩ | ⟨k1, k2, rfl, rfl⟩
  · go_wp2_with (go_at_call 40; refine (lock_B H.out).mono ?_; rintro e w1 ⟨rfl, h1, f1⟩; have H1 := Aside0.mk h1; have F1 := Aside0.mk f1; clear h1 f1)
    refine leaves_cons (f := 41) (args := #[.pointer (some ⟨g, 0, none⟩)]) (by simp) (by simp [go_sem]) ?_
    refine (unlock_B .returning H1.out).mono ?_
    rintro e u' w2 ⟨rfl, rfl, h2, f2⟩
    exact ⟨_, results_tmp rfl _ _ _, rfl, h2, F1.out.then f2⟩
  · go_wp2_with (go_at_call 40; refine (lock_B H.out).mono ?_; rintro e w1 ⟨rfl, h1, f1⟩; have H1 := Aside0.mk h1; have F1 := Aside0.mk f1; have x3 := (h1.at 3 _ rfl).1; clear h1 f1)
    refine leaves_cons (f := 41) (args := #[.pointer (some ⟨g, 0, none⟩)]) (by simp) (by simp [go_sem]) ?_
    refine (unlock_B .returning H1.out).mono ?_
    rintro e u' w2 ⟨rfl, rfl, h2, f2⟩
    exact ⟨_, results_tmp rfl _ _ _, rfl, h2, F1.out.then f2⟩
  · go_wp2_with (go_at_call 40; refine (lock_B H.out).mono ?_; rintro e w1 ⟨rfl, h1, f1⟩; have H1 := Aside0.mk h1; have F1 := Aside0.mk f1; have x3 := (h1.at 3 _ rfl).1; have y3 := blk_frozen h1 3; clear h1 f1)
    refine leaves_cons (f := 41) (args := #[.pointer (some ⟨g, 0, none⟩)]) (by simp) (by simp [go_sem]) ?_
    refine (unlock_B .returning (show IsL (w1.setCell ⟨g, 3, none⟩ (.int .i64 (s - n))) g t (s - n) from blk_set H1.out 3 _)).mono ?_
    rintro e u' w2 ⟨rfl, rfl, h2, f2⟩
    exact ⟨_, results_tmp rfl _ _ _, rfl, h2, F1.out.then ((Fr.set ⟨g, 3, none⟩ _).then f2)⟩
/-- The reference's budget. -/
def IsR (w : World) (g : Nat) (t s : Int) : Prop := w.heap[g]? = some (.cells #[.int .i64 t, .int .i64 s] 58 (0, 0))
theorem IsR.at {w : World} {g : Nat} {t s : Int} (h : IsR w g t s) (i : Nat) (u : Value) (hu : (#[.int .i64 t, .int .i64 s] : Array Value)[i]? = some u) : w.cell? ⟨g, i, none⟩ = some u ∧ w.frozen? ⟨g, i, none⟩ = false :=
  ⟨(cell_of_row w g i _ 58 (0, 0) h).trans hu, blk_frozen h i⟩
theorem rspend_calls (g : Nat) (t s n : Int) (w : World) (h : IsR w g t s) (h0 : 0 ≤ s) (h1 : s ≤ t) (h2 : t ≤ 9223372036854775807) (hn : -9223372036854775808 ≤ n ∧ n ≤ 9223372036854775807) :
    Calls Try.prog 27 #[.pointer (some ⟨g, 0, none⟩), .int .i64 n] w fun e w' => e = .returned (.int .i64 (spendE t s n)) ∧ IsR w' g t (spendS t s n) ∧ Fr w w' (fun i => i ≠ g) := by
  have x0 := (h.at 0 _ rfl).1
  have x1 := (h.at 1 _ rfl).1
  have y1 := blk_frozen h 1
  have H := Aside0.mk h
  clear h
  have HK := spend_cases t s n
  generalize spendE t s n = E at HK ⊢
  generalize spendS t s n = S at HK ⊢
  go_enter Try.func27, Try.ntmps27
  rcases HK with ⟨k1, rfl, rfl⟩ | ⟨k1, k2, rfl, rfl⟩ | ⟨k1, k2, rfl, rfl⟩
  · go_wp2
    go_ret
    exact ⟨rfl, H.out, Fr.refl _ _⟩
  · go_wp2
    go_quiet (fail)
    go_wp2
    go_ret
    exact ⟨rfl, H.out, Fr.drewN _ _⟩
  · go_wp2
    go_quiet (fail)
    go_wp2
    go_ret
    exact ⟨rfl, blk_set (w := w.drewN _) H.out 1 _, (Fr.drewN _ _).then (Fr.set ⟨g, 1, none⟩ _)⟩
theorem rback_calls (g : Nat) (t s n : Int) (w : World) (h : IsR w g t s) (h0 : 0 ≤ s) (h1 : s ≤ t) (h2 : t ≤ 9223372036854775807) (hn : -9223372036854775808 ≤ n ∧ n ≤ 9223372036854775807) :
    Calls Try.prog 26 #[.pointer (some ⟨g, 0, none⟩), .int .i64 n] w fun e w' => e = .returned (.int .i64 (backE t s n)) ∧ IsR w' g t (backS t s n) ∧ Fr w w' (fun i => i ≠ g) := by
  have x1 := (h.at 1 _ rfl).1
  have y1 := blk_frozen h 1
  have H := Aside0.mk h
  clear h
  have HK := back_cases t s n
  generalize backE t s n = E at HK ⊢
  generalize backS t s n = S at HK ⊢
  go_enter Try.func26, Try.ntmps26
  rcases HK with ⟨k1, rfl, rfl⟩ | ⟨k1, k2, rfl, rfl⟩ | ⟨k1, k2, rfl, rfl⟩
  · go_wp2
    go_ret
    exact ⟨rfl, H.out, Fr.refl _ _⟩
  · go_wp2
    go_ret
    exact ⟨rfl, H.out, Fr.refl _ _⟩
  · go_wp2
    go_ret
    exact ⟨rfl, blk_set H.out 1 _, Fr.set ⟨g, 1, none⟩ _⟩
end Go.Proofs.Ytanbicpkdkcpbaa.W
