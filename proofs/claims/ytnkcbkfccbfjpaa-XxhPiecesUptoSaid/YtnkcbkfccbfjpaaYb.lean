/- Contract of xxh's takes$1 at 64 bits: a stripe of 32 bytes is taken. -/
import Derived.Test.YtnkcbkfccbfjpaaYa
namespace Go.Proofs.Ytnkcbkfccbfjpaa.XxhW
open Go.RowKit Go.Proofs.YtnkcbkfccbfjpaaW.PrintWords Go.Proofs.YtnkcbkfccbfjpaaW.PrintLast Go.Proofs.YtnkcbkfccbfjpaaW.PrintMore
set_option linter.unusedVariables false
set_option linter.unusedSimpArgs false
/-- A digest of 64 bits lies at block g: what waits, how many came, the seed, four sums. -/
def IsE (w : World) (g : Nat) (r : Value) (n s : Int) (v : X.V4) : Prop :=
  w.heap[g]? = some (.cells #[r, .int .u64 n, .int .u64 s, .int .u64 v.a, .int .u64 v.b, .int .u64 v.c, .int .u64 v.d] 106 (0, 0))

theorem IsE.at {w : World} {g : Nat} {r : Value} {n s : Int} {v : X.V4} (h : IsE w g r n s v) (i : Nat) (u : Value) (hu : (#[r, .int .u64 n, .int .u64 s, .int .u64 v.a, .int .u64 v.b, .int .u64 v.c, .int .u64 v.d] : Array Value)[i]? = some u) :
    w.cell? ⟨g, i, none⟩ = some u ∧ w.frozen? ⟨g, i, none⟩ = false := ⟨(cell_of_row w g i _ 106 (0, 0) h).trans hu, blk_frozen h i⟩

set_option maxHeartbeats 4000000 in
set_option maxRecDepth 100000 in
theorem takes1e_calls (ad : Addr) (c : Nat) (l : List Int) (bx g : Nat) (r : Value) (n s : Int) (v : X.V4) (w : World) (hr : Rd w ad l) (hl : l.length = 32) (hc : 32 ≤ c) (hb : Bytes l)
    (hx : w.cell? ⟨bx, 0, none⟩ = some (.pointer (some ⟨g, 0, none⟩))) (hd : IsE w g r n s v) (hne : bx ≠ g) (hag : ad.block ≠ g) :
    Calls Try.prog 86 #[.slice (some ad) 32 c, .pointer (some ⟨bx, 0, none⟩)] w fun e w' => e = .returned (.tuple #[]) ∧ IsE w' g r n s (X.stripe64 v l) ∧ w.grownBy w' (some g) := by
  have z0 : IntKind.i64.wrap 0 = 0 := by decide
  have z4 : IntKind.i64.wrap 8 = 8 := by decide
  have z8 : IntKind.i64.wrap 16 = 16 := by decide
  have z12 : IntKind.i64.wrap 24 = 24 := by decide
  have n4 : ¬ c = 8 := by omega
  have n8 : ¬ c = 16 := by omega
  have n12 : ¬ c = 24 := by omega
  have m4 : (8 : Int) ≤ (c : Int) := by omega
  have m8 : (16 : Int) ≤ (c : Int) := by omega
  have m12 : (24 : Int) ≤ (c : Int) := by omega
  obtain ⟨x0, f0⟩ := IsE.at hd 3 _ rfl
  have HD := Lib.hid hd
  have HG := Lib.hid (World.grownBy.refl w (some g))
  have HBy := Lib.hid hb
  have R0 := Lib.hid hr
  clear hd hb hr
  have G := Lib.hid (fun m => get64_calls ad 32 c l (w.drewN m) (R0.out.drewN m) hl.symm (by omega) (by omega) (by omega) HBy.out)
  have hG := G.out
  go_enter Try.func86, Try.ntmps86
  go_wp2
  refine wp_loop_rounds 5 ?_
  rw [rounds_succ]
  go_wp2
  refine QTail.wp_region_tail (C := fun w' => ∃ n, w' = w.drewN n) 16 (by kernel_rfl) (by kernel_rfl) ⟨1, rfl⟩ ?_
  simp only [List.take_succ_cons, List.take_zero, List.drop_succ_cons, List.drop_zero]
  repeat (quiet_step (first | (go_at_call 88; with_reducible exact Calls.quiet_of (hG _)) | (go_at_call 87; exact Calls.quiet_of_same (round_calls _ _ _))))
  refine wpQuiet_nil ?_
  intro _ hw'
  obtain ⟨nq, hw''⟩ := hw'
  subst hw''
  clear hG
  go_wp2
  obtain ⟨w1, hw1⟩ : ∃ z, z = (w.drewN nq).setCell ⟨g, 3, none⟩ (.int .u64 (X.round64 v.a (X.le64 l))) := ⟨_, rfl⟩
  have P1 := put_world HD.out nq 3 (.int .u64 (X.round64 v.a (X.le64 l)))
  rw [← hw1] at P1
  rw [← hw1]
  clear hw1
  obtain ⟨D1, K1, G1⟩ := P1
  have HD1 := Lib.hid (show IsE w1 g r n s ⟨X.round64 v.a (X.le64 l), v.b, v.c, v.d⟩ from D1)
  have HG1 := Lib.hid (grown_then HG.out G1)
  have r1 := Lib.hid (Rd.of_cells R0.out (fun p hp => K1 p (by rw [hp]; exact hag)))
  have hx1 := (K1 ⟨bx, 0, none⟩ hne).trans hx
  clear x0 f0 D1 K1 G1 HD HG hx R0 G
  have HD := HD1
  have HG := HG1
  have R1 := r1
  clear HD1 HG1 r1
  obtain ⟨x0, f0⟩ := IsE.at HD.out 4 _ rfl
  have hr1 : Rd w1 ⟨ad.block, ad.off + 8, none⟩ (l.drop 8) := by
    have := R1.out.drop 8
    rwa [add_pos _ _ (by omega)] at this
  have hG := fun m => get64_calls ⟨ad.block, ad.off + 8, none⟩ (32 - 8) (c - 8) (l.drop 8) (w1.drewN m) (hr1.drewN m) (by simp [hl]) (by simp [hl]) (by omega) (by simp [hl]) (HBy.out.drop 8)
  simp only [Nat.reduceSub] at hG
  clear hr1
  rw [rounds_succ]
  go_wp2
  refine QTail.wp_region_tail (C := fun w' => ∃ n, w' = w1.drewN n) 16 (by kernel_rfl) (by kernel_rfl) ⟨1, rfl⟩ ?_
  simp only [List.take_succ_cons, List.take_zero, List.drop_succ_cons, List.drop_zero]
  repeat (quiet_step (first | (go_at_call 88; with_reducible exact Calls.quiet_of (hG _)) | (go_at_call 87; exact Calls.quiet_of_same (round_calls _ _ _))))
  refine wpQuiet_nil ?_
  intro _ hw'
  obtain ⟨nq, hw''⟩ := hw'
  subst hw''
  clear hG
  go_wp2
  obtain ⟨w2, hw2⟩ : ∃ z, z = (w1.drewN nq).setCell ⟨g, 4, none⟩ (.int .u64 (X.round64 v.b (X.le64 (l.drop 8)))) := ⟨_, rfl⟩
  have P2 := put_world HD.out nq 4 (.int .u64 (X.round64 v.b (X.le64 (l.drop 8))))
  rw [← hw2] at P2
  rw [← hw2]
  clear hw2
  obtain ⟨D2, K2, G2⟩ := P2
  have HD2 := Lib.hid (show IsE w2 g r n s ⟨X.round64 v.a (X.le64 l), X.round64 v.b (X.le64 (l.drop 8)), v.c, v.d⟩ from D2)
  have HG2 := Lib.hid (grown_then HG.out G2)
  have r2 := Lib.hid (Rd.of_cells R1.out (fun p hp => K2 p (by rw [hp]; exact hag)))
  have hx2 := (K2 ⟨bx, 0, none⟩ hne).trans hx1
  clear x0 f0 D2 K2 G2 HD HG hx1 R1
  have HD := HD2
  have HG := HG2
  have R2 := r2
  clear HD2 HG2 r2
  obtain ⟨x0, f0⟩ := IsE.at HD.out 5 _ rfl
  have hr2 : Rd w2 ⟨ad.block, ad.off + 16, none⟩ (l.drop 16) := by
    have := R2.out.drop 16
    rwa [add_pos _ _ (by omega)] at this
  have hG := fun m => get64_calls ⟨ad.block, ad.off + 16, none⟩ (32 - 16) (c - 16) (l.drop 16) (w2.drewN m) (hr2.drewN m) (by simp [hl]) (by simp [hl]) (by omega) (by simp [hl]) (HBy.out.drop 16)
  simp only [Nat.reduceSub] at hG
  clear hr2
  rw [rounds_succ]
  go_wp2
  refine QTail.wp_region_tail (C := fun w' => ∃ n, w' = w2.drewN n) 16 (by kernel_rfl) (by kernel_rfl) ⟨1, rfl⟩ ?_
  simp only [List.take_succ_cons, List.take_zero, List.drop_succ_cons, List.drop_zero]
  repeat (quiet_step (first | (go_at_call 88; with_reducible exact Calls.quiet_of (hG _)) | (go_at_call 87; exact Calls.quiet_of_same (round_calls _ _ _))))
  refine wpQuiet_nil ?_
  intro _ hw'
  obtain ⟨nq, hw''⟩ := hw'
  subst hw''
  clear hG
  go_wp2
  obtain ⟨w3, hw3⟩ : ∃ z, z = (w2.drewN nq).setCell ⟨g, 5, none⟩ (.int .u64 (X.round64 v.c (X.le64 (l.drop 16)))) := ⟨_, rfl⟩
  have P3 := put_world HD.out nq 5 (.int .u64 (X.round64 v.c (X.le64 (l.drop 16))))
  rw [← hw3] at P3
  rw [← hw3]
  clear hw3
  obtain ⟨D3, K3, G3⟩ := P3
  have HD3 := Lib.hid (show IsE w3 g r n s ⟨X.round64 v.a (X.le64 l), X.round64 v.b (X.le64 (l.drop 8)), X.round64 v.c (X.le64 (l.drop 16)), v.d⟩ from D3)
  have HG3 := Lib.hid (grown_then HG.out G3)
  have r3 := Lib.hid (Rd.of_cells R2.out (fun p hp => K3 p (by rw [hp]; exact hag)))
  have hx3 := (K3 ⟨bx, 0, none⟩ hne).trans hx2
  clear x0 f0 D3 K3 G3 HD HG hx2 R2
  have HD := HD3
  have HG := HG3
  have R3 := r3
  clear HD3 HG3 r3
  obtain ⟨x0, f0⟩ := IsE.at HD.out 6 _ rfl
  have hr3 : Rd w3 ⟨ad.block, ad.off + 24, none⟩ (l.drop 24) := by
    have := R3.out.drop 24
    rwa [add_pos _ _ (by omega)] at this
  have hG := fun m => get64_calls ⟨ad.block, ad.off + 24, none⟩ (32 - 24) (c - 24) (l.drop 24) (w3.drewN m) (hr3.drewN m) (by simp [hl]) (by simp [hl]) (by omega) (by simp [hl]) (HBy.out.drop 24)
  simp only [Nat.reduceSub] at hG
  clear hr3
  rw [rounds_succ]
  go_wp2
  refine QTail.wp_region_tail (C := fun w' => ∃ n, w' = w3.drewN n) 16 (by kernel_rfl) (by kernel_rfl) ⟨1, rfl⟩ ?_
  simp only [List.take_succ_cons, List.take_zero, List.drop_succ_cons, List.drop_zero]
  repeat (quiet_step (first | (go_at_call 88; with_reducible exact Calls.quiet_of (hG _)) | (go_at_call 87; exact Calls.quiet_of_same (round_calls _ _ _))))
  refine wpQuiet_nil ?_
  intro _ hw'
  obtain ⟨nq, hw''⟩ := hw'
  subst hw''
  clear hG
  go_wp2
  obtain ⟨w4, hw4⟩ : ∃ z, z = (w3.drewN nq).setCell ⟨g, 6, none⟩ (.int .u64 (X.round64 v.d (X.le64 (l.drop 24)))) := ⟨_, rfl⟩
  have P4 := put_world HD.out nq 6 (.int .u64 (X.round64 v.d (X.le64 (l.drop 24))))
  rw [← hw4] at P4
  rw [← hw4]
  clear hw4
  obtain ⟨D4, K4, G4⟩ := P4
  have HD4 := Lib.hid (show IsE w4 g r n s ⟨X.round64 v.a (X.le64 l), X.round64 v.b (X.le64 (l.drop 8)), X.round64 v.c (X.le64 (l.drop 16)), X.round64 v.d (X.le64 (l.drop 24))⟩ from D4)
  have HG4 := Lib.hid (grown_then HG.out G4)
  have r4 := Lib.hid (Rd.of_cells R3.out (fun p hp => K4 p (by rw [hp]; exact hag)))
  have hx4 := (K4 ⟨bx, 0, none⟩ hne).trans hx3
  clear x0 f0 D4 K4 G4 HD HG hx3 R3
  have HD := HD4
  have HG := HG4
  have R4 := r4
  clear HD4 HG4 r4
  rw [rounds_succ]
  go_wp2
  go_end0
  exact ⟨rfl, HD.out, HG.out⟩
end Go.Proofs.Ytnkcbkfccbfjpaa.XxhW
