/- Texts of mine made one: Ym, Ya, Yb, Yc, Yd, Ye, Yf, Yg. -/
import Derived.Test.YtnkcbkfccbfjpaaXX
import Derived.Laws.Bits64
/- Sums of 64 bits (XXH64) as plain functions of numbers and lists. No Go, no memory. -/
namespace Go.Proofs.Ytnkcbkfccbfjpaa.X
set_option linter.unusedVariables false
def rot64 (x : Int) (k : Nat) : Int := (x * 2 ^ k) % 18446744073709551616 + x / 2 ^ (64 - k)
def le64 (l : List Int) : Int := le32 l + le32 (l.drop 4) * 4294967296
def round64 (v w : Int) : Int := rot64 ((v + w * 14029467366897019727) % 18446744073709551616) 31 * 11400714785074694791 % 18446744073709551616
def init64 (s : Int) : V4 := ⟨(((s + 11400714785074694791) % 18446744073709551616) + 14029467366897019727) % 18446744073709551616, (s + 14029467366897019727) % 18446744073709551616, s, (s - 11400714785074694791) % 18446744073709551616⟩
def stripe64 (v : V4) (l : List Int) : V4 := ⟨round64 v.a (le64 l), round64 v.b (le64 (l.drop 8)), round64 v.c (le64 (l.drop 16)), round64 v.d (le64 (l.drop 24))⟩
def run64 : Nat → V4 → List Int → V4
  | 0, v, _ => v
  | n + 1, v, l => run64 n (stripe64 v l) (l.drop 32)
def fold64 (h v : Int) : Int := (Go.bits .xor .u64 h (round64 0 v) * 11400714785074694791 + 9650029242287828579) % 18446744073709551616
def merge64 (v : V4) : Int := fold64 (fold64 (fold64 (fold64 ((rot64 v.a 1 + rot64 v.b 7 + rot64 v.c 12 + rot64 v.d 18) % 18446744073709551616) v.a) v.b) v.c) v.d
def word64 (h w : Int) : Int := (rot64 (Go.bits .xor .u64 h (round64 0 w)) 27 * 11400714785074694791 + 9650029242287828579) % 18446744073709551616
def half64 (h w : Int) : Int := (rot64 (Go.bits .xor .u64 h (w * 11400714785074694791 % 18446744073709551616)) 23 * 14029467366897019727 + 1609587929392839161) % 18446744073709551616
def byte64 (h b : Int) : Int := rot64 (Go.bits .xor .u64 h (b * 2870177450012600261 % 18446744073709551616)) 11 * 11400714785074694791 % 18446744073709551616
def words64 : Nat → Int → List Int → Int
  | 0, h, _ => h
  | n + 1, h, l => words64 n (word64 h (le64 l)) (l.drop 8)
def bytes64 (h : Int) (l : List Int) : Int := l.foldl byte64 h
def fin64 (h : Int) : Int :=
  let h1 := (Go.bits .xor .u64 h (h / 8589934592) * 14029467366897019727) % 18446744073709551616
  let h2 := (Go.bits .xor .u64 h1 (h1 / 536870912) * 1609587929392839161) % 18446744073709551616
  Go.bits .xor .u64 h2 (h2 / 4294967296)
def mid64 (h : Int) (r : List Int) : Int := if 4 ≤ r.length then half64 h (le32 r) else h
def rest64 (r : List Int) : List Int := if 4 ≤ r.length then r.drop 4 else r
def tail64 (h : Int) (r : List Int) : Int := fin64 (bytes64 (mid64 (words64 (r.length / 8) h r) (rest 8 r)) (rest64 (rest 8 r)))
def head64 (N : Nat) (s : Int) (v : V4) : Int := if 32 ≤ N then merge64 v else (s + 2870177450012600261) % 18446744073709551616
def sum64 (s : Int) (l : List Int) : Int := tail64 ((head64 l.length s (run64 (l.length / 32) (init64 s) l) + (l.length : Int)) % 18446744073709551616) (rest 32 l)
end Go.Proofs.Ytnkcbkfccbfjpaa.X
/- Contracts of xxh's small functions of 64 bits: RotateLeft64, round, get64. -/
namespace Go.Proofs.Ytnkcbkfccbfjpaa.XxhW
open Go.RowKit Go.Proofs.YtnkcbkfccbfjpaaW.PrintWords Go.Proofs.YtnkcbkfccbfjpaaW.PrintLast Go.Proofs.YtnkcbkfccbfjpaaW.PrintMore
set_option linter.unusedVariables false
set_option linter.unusedSimpArgs false
def W64 (x : Int) : Prop := 0 ≤ x ∧ x < 18446744073709551616
theorem w64_mod (x : Int) : W64 (x % 18446744073709551616) := ⟨by omega, by omega⟩
theorem u64_mod (x : Int) : IntKind.u64.wrap x = x % 18446744073709551616 := IntKind.wrap_u64 x
theorem u64_range (x : Int) : 0 ≤ IntKind.u64.wrap x ∧ IntKind.u64.wrap x < 18446744073709551616 := by rw [u64_mod]; omega
theorem and63 (k : Int) (h0 : 0 ≤ k) (h1 : k < 64) : Go.bits .and .u64 k 63 = k := by
  have := bits_mask .u64 64 (by decide) (fun n a b => wraps_u64 n a (by simpa using b)) 6 (by decide) k h0 (by omega)
  rw [show (2 : Int) ^ 6 - 1 = 63 by decide] at this
  rw [this]; omega
theorem rot64_or (x : Int) (k : Nat) (hk : k ≤ 64) (h0 : 0 ≤ x) (h1 : x < 18446744073709551616) : Go.bits .or .u64 (x * 2 ^ k % 18446744073709551616) (x / 2 ^ (64 - k)) = X.rot64 x k := by
  obtain ⟨a, b, c, d, e, g⟩ := rot_parts 64 k x 18446744073709551616 hk (by decide) h0 h1
  exact bits_join .u64 64 (by decide) (fun n a b => wraps_u64 n a (by simpa using b)) k _ _ b a (by simpa using c) d e (by simpa using g)
theorem rotl64_calls (x k : Int) (w : World) (h0 : 0 < k) (h1 : k < 64) (h2 : 0 ≤ x) (h3 : x < 18446744073709551616) :
    Calls Try.prog 89 #[.int .u64 x, .int .i64 k] w fun e w' => e = .returned (.int .u64 (X.rot64 x k.toNat)) ∧ w' = w := by
  have hw := wraps_u64 k (by omega) (by omega)
  have hk := and63 k (by omega) h1
  have hs := wraps_u64 (64 - k) (by omega) (by omega)
  have hk0 : 0 ≤ k := by omega
  have HE := Lib.hid (rot64_or x k.toNat (by omega) h2 h3)
  have HT := Lib.hid (show (64 - k).toNat = 64 - k.toNat by omega)
  go_enter Try.func89, Try.ntmps89
  go_wp2
  go_ret
  refine ⟨congrArg (fun z => Ending.returned (.int .u64 z)) ?_, rfl⟩
  show Go.bits .or .u64 (IntKind.u64.wrap (x * 2 ^ k.toNat)) (x / 2 ^ (64 - k).toNat) = _
  rw [HT.out, u64_mod, HE.out]

theorem rot64_range (x : Int) (k : Nat) (hk : k ≤ 64) (h : W64 x) : W64 (X.rot64 x k) := by
  obtain ⟨a, b, c, d, e, g⟩ := rot_parts 64 k x 18446744073709551616 hk (by decide) h.1 h.2
  obtain ⟨q, hq⟩ : ∃ q, q = (x * 2 ^ k) % 18446744073709551616 := ⟨_, rfl⟩
  obtain ⟨p, hp⟩ : ∃ p, p = (2 : Int) ^ k := ⟨_, rfl⟩
  have hm : ∃ t : Int, (18446744073709551616 : Int) = t * p := ⟨2 ^ (64 - k), by rw [hp, ← Int.pow_add, Nat.sub_add_cancel hk]; decide⟩
  unfold X.rot64
  rw [← hq] at a b c ⊢
  rw [← hp] at a e
  refine ⟨by omega, ?_⟩
  obtain ⟨t, ht⟩ := hm
  have hdv : q = p * (q / p) := by
    have := Int.mul_ediv_add_emod q p
    rw [a] at this; omega
  have hpp : 0 < p := by rw [hp]; exact Int.pow_pos (by decide)
  have hlt : q / p < t := by
    rcases Int.lt_or_le (q / p) t with h | h
    · exact h
    · have := Int.mul_le_mul_of_nonneg_left h (Int.le_of_lt hpp)
      rw [Int.mul_comm p t, ← ht, ← hdv] at this
      omega
  have := Int.mul_le_mul_of_nonneg_left (show q / p ≤ t - 1 by omega) (Int.le_of_lt hpp)
  rw [← hdv, Int.mul_sub, Int.mul_comm p t, ← ht, Int.mul_one] at this
  omega

theorem round_calls (v x : Int) (w : World) :
    Calls Try.prog 87 #[.int .u64 v, .int .u64 x] w fun e w' => e = .returned (.int .u64 (X.round64 v x)) ∧ w' = w := by
  go_enter Try.func87, Try.ntmps87
  go_wp2_with (first | (go_at_call 89; refine (rotl64_calls _ 31 _ (by decide) (by decide) (u64_range _).1 (u64_range _).2).mono ?_; rintro e w' ⟨rfl, rfl⟩))
  go_ret
  refine ⟨congrArg (fun z => Ending.returned (.int .u64 z)) ?_, rfl⟩
  simp only [u64_mod, X.round64]
  rw [show (v + x * 14029467366897019727 % 18446744073709551616) % 18446744073709551616 = (v + x * 14029467366897019727) % 18446744073709551616 by omega]

set_option maxHeartbeats 400000 in
set_option maxRecDepth 100000 in
theorem get64_calls (ad : Addr) (n c : Nat) (l : List Int) (w : World) (hr : Rd w ad l) (hn : n = l.length) (h8 : 8 ≤ l.length) (hc : n ≤ c) (hs : l.length ≤ 140737488355327) (hb : Bytes l) :
    Calls Try.prog 88 #[.slice (some ad) n c] w fun e w' => e = .returned (.int .u64 (X.le64 l)) ∧ ∃ m, w' = w.drewN m := by
  subst hn
  have h4' : (4 : Int) ≤ (c : Int) := by omega
  have n4 : ¬ c = 4 := by omega
  have l4 : (4 : Int) ≤ (l.length : Int) := by omega
  have hr4 : Rd w ⟨ad.block, ad.off + 4, none⟩ (l.drop 4) := by
    have := hr.drop 4
    rwa [add_pos _ _ (by omega)] at this
  obtain ⟨p0, q0⟩ := le32_range l hb
  obtain ⟨p1, q1⟩ := le32_range (l.drop 4) (hb.drop 4)
  have G0 := fun m => get32_calls ad l.length c l (w.drewN m) (hr.drewN m) rfl (by omega) hb
  have G4 := fun m => get32_calls ⟨ad.block, ad.off + 4, none⟩ (l.length - 4) (c - 4) (l.drop 4) (w.drewN m) (hr4.drewN m) (by simp) (by simp; omega) (hb.drop 4)
  clear hr hr4 hb
  go_enter Try.func88, Try.ntmps88
  go_wp2
  go_quiet (first | (go_at_call 85; with_reducible exact Calls.quiet_of (G0 _)) | (go_at_call 85; with_reducible exact Calls.quiet_of (G4 _)))
  go_wp2
  go_ret
  refine ⟨congrArg (fun z => Ending.returned (.int .u64 z)) ?_, _, rfl⟩
  exact or64 32 _ _ (by omega) (by omega) (by omega) (by omega) (by omega) (by omega)
end Go.Proofs.Ytnkcbkfccbfjpaa.XxhW
/- Contract of xxh's takes$1 at 64 bits: a stripe of 32 bytes is taken. -/
namespace Go.Proofs.Ytnkcbkfccbfjpaa.XxhW
open Go.RowKit Go.Proofs.YtnkcbkfccbfjpaaW.PrintWords Go.Proofs.YtnkcbkfccbfjpaaW.PrintLast Go.Proofs.YtnkcbkfccbfjpaaW.PrintMore
set_option linter.unusedVariables false
set_option linter.unusedSimpArgs false
/-- A digest of 64 bits lies at block g: what waits, how many came, the seed, four sums. -/
def IsE (w : World) (g : Nat) (r : Value) (n s : Int) (v : X.V4) : Prop :=
  w.heap[g]? = some (.cells #[r, .int .u64 n, .int .u64 s, .int .u64 v.a, .int .u64 v.b, .int .u64 v.c, .int .u64 v.d] 106 (0, 0))

theorem IsE.at {w : World} {g : Nat} {r : Value} {n s : Int} {v : X.V4} (h : IsE w g r n s v) (i : Nat) (u : Value) (hu : (#[r, .int .u64 n, .int .u64 s, .int .u64 v.a, .int .u64 v.b, .int .u64 v.c, .int .u64 v.d] : Array Value)[i]? = some u) :
    w.cell? ⟨g, i, none⟩ = some u ∧ w.frozen? ⟨g, i, none⟩ = false := ⟨(cell_of_row w g i _ 106 (0, 0) h).trans hu, blk_frozen h i⟩

set_option maxHeartbeats 4000000 in
set_option maxRecDepth 100000 in
theorem takes1e_calls (ad : Addr) (c : Nat) (l : List Int) (bx g : Nat) (r : Value) (n s : Int) (v : X.V4) (w : World) (hr : Rd w ad l) (hl : l.length = 32) (hc : 32 ≤ c) (hb : Bytes l)
    (hx : w.cell? ⟨bx, 0, none⟩ = some (.pointer (some ⟨g, 0, none⟩))) (hd : IsE w g r n s v) (hne : bx ≠ g) (hag : ad.block ≠ g) :
    Calls Try.prog 86 #[.slice (some ad) 32 c, .pointer (some ⟨bx, 0, none⟩)] w fun e w' => e = .returned (.tuple #[]) ∧ IsE w' g r n s (X.stripe64 v l) ∧ w.grownBy w' (some g) := by
  have z0 : IntKind.i64.wrap 0 = 0 := by decide
  have z4 : IntKind.i64.wrap 8 = 8 := by decide
  have z8 : IntKind.i64.wrap 16 = 16 := by decide
  have z12 : IntKind.i64.wrap 24 = 24 := by decide
  have n4 : ¬ c = 8 := by omega
  have n8 : ¬ c = 16 := by omega
  have n12 : ¬ c = 24 := by omega
  have m4 : (8 : Int) ≤ (c : Int) := by omega
  have m8 : (16 : Int) ≤ (c : Int) := by omega
  have m12 : (24 : Int) ≤ (c : Int) := by omega
  obtain ⟨x0, f0⟩ := IsE.at hd 3 _ rfl
  have HD := Lib.hid hd
  have HG := Lib.hid (World.grownBy.refl w (some g))
  have HBy := Lib.hid hb
  have R0 := Lib.hid hr
  clear hd hb hr
  have G := Lib.hid (fun m => get64_calls ad 32 c l (w.drewN m) (R0.out.drewN m) hl.symm (by omega) (by omega) (by omega) HBy.out)
  have hG := G.out
  go_enter Try.func86, Try.ntmps86
  go_wp2
  refine wp_loop_rounds 5 ?_
  rw [rounds_succ]
  go_wp2
  refine QTail.wp_region_tail (C := fun w' => ∃ n, w' = w.drewN n) 16 (by kernel_rfl) (by kernel_rfl) ⟨1, rfl⟩ ?_
  simp only [List.take_succ_cons, List.take_zero, List.drop_succ_cons, List.drop_zero]
  repeat (quiet_step (first | (go_at_call 88; with_reducible exact Calls.quiet_of (hG _)) | (go_at_call 87; exact Calls.quiet_of_same (round_calls _ _ _))))
  refine wpQuiet_nil ?_
  intro _ hw'
  obtain ⟨nq, hw''⟩ := hw'
  subst hw''
  clear hG
  go_wp2
  obtain ⟨w1, hw1⟩ : ∃ z, z = (w.drewN nq).setCell ⟨g, 3, none⟩ (.int .u64 (X.round64 v.a (X.le64 l))) := ⟨_, rfl⟩
  have P1 := put_world HD.out nq 3 (.int .u64 (X.round64 v.a (X.le64 l)))
  rw [← hw1] at P1
  rw [← hw1]
  clear hw1
  obtain ⟨D1, K1, G1⟩ := P1
  have HD1 := Lib.hid (show IsE w1 g r n s ⟨X.round64 v.a (X.le64 l), v.b, v.c, v.d⟩ from D1)
  have HG1 := Lib.hid (grown_then HG.out G1)
  have r1 := Lib.hid (Rd.of_cells R0.out (fun p hp => K1 p (by rw [hp]; exact hag)))
  have hx1 := (K1 ⟨bx, 0, none⟩ hne).trans hx
  clear x0 f0 D1 K1 G1 HD HG hx R0 G
  have HD := HD1
  have HG := HG1
  have R1 := r1
  clear HD1 HG1 r1
  obtain ⟨x0, f0⟩ := IsE.at HD.out 4 _ rfl
  have hr1 : Rd w1 ⟨ad.block, ad.off + 8, none⟩ (l.drop 8) := by
    have := R1.out.drop 8
    rwa [add_pos _ _ (by omega)] at this
  have hG := fun m => get64_calls ⟨ad.block, ad.off + 8, none⟩ (32 - 8) (c - 8) (l.drop 8) (w1.drewN m) (hr1.drewN m) (by simp [hl]) (by simp [hl]) (by omega) (by simp [hl]) (HBy.out.drop 8)
  simp only [Nat.reduceSub] at hG
  clear hr1
  rw [rounds_succ]
  go_wp2
  refine QTail.wp_region_tail (C := fun w' => ∃ n, w' = w1.drewN n) 16 (by kernel_rfl) (by kernel_rfl) ⟨1, rfl⟩ ?_
  simp only [List.take_succ_cons, List.take_zero, List.drop_succ_cons, List.drop_zero]
  repeat (quiet_step (first | (go_at_call 88; with_reducible exact Calls.quiet_of (hG _)) | (go_at_call 87; exact Calls.quiet_of_same (round_calls _ _ _))))
  refine wpQuiet_nil ?_
  intro _ hw'
  obtain ⟨nq, hw''⟩ := hw'
  subst hw''
  clear hG
  go_wp2
  obtain ⟨w2, hw2⟩ : ∃ z, z = (w1.drewN nq).setCell ⟨g, 4, none⟩ (.int .u64 (X.round64 v.b (X.le64 (l.drop 8)))) := ⟨_, rfl⟩
  have P2 := put_world HD.out nq 4 (.int .u64 (X.round64 v.b (X.le64 (l.drop 8))))
  rw [← hw2] at P2
  rw [← hw2]
  clear hw2
  obtain ⟨D2, K2, G2⟩ := P2
  have HD2 := Lib.hid (show IsE w2 g r n s ⟨X.round64 v.a (X.le64 l), X.round64 v.b (X.le64 (l.drop 8)), v.c, v.d⟩ from D2)
  have HG2 := Lib.hid (grown_then HG.out G2)
  have r2 := Lib.hid (Rd.of_cells R1.out (fun p hp => K2 p (by rw [hp]; exact hag)))
  have hx2 := (K2 ⟨bx, 0, none⟩ hne).trans hx1
  clear x0 f0 D2 K2 G2 HD HG hx1 R1
  have HD := HD2
  have HG := HG2
  have R2 := r2
  clear HD2 HG2 r2
  obtain ⟨x0, f0⟩ := IsE.at HD.out 5 _ rfl
  have hr2 : Rd w2 ⟨ad.block, ad.off + 16, none⟩ (l.drop 16) := by
    have := R2.out.drop 16
    rwa [add_pos _ _ (by omega)] at this
  have hG := fun m => get64_calls ⟨ad.block, ad.off + 16, none⟩ (32 - 16) (c - 16) (l.drop 16) (w2.drewN m) (hr2.drewN m) (by simp [hl]) (by simp [hl]) (by omega) (by simp [hl]) (HBy.out.drop 16)
  simp only [Nat.reduceSub] at hG
  clear hr2
  rw [rounds_succ]
  go_wp2
  refine QTail.wp_region_tail (C := fun w' => ∃ n, w' = w2.drewN n) 16 (by kernel_rfl) (by kernel_rfl) ⟨1, rfl⟩ ?_
  simp only [List.take_succ_cons, List.take_zero, List.drop_succ_cons, List.drop_zero]
  repeat (quiet_step (first | (go_at_call 88; with_reducible exact Calls.quiet_of (hG _)) | (go_at_call 87; exact Calls.quiet_of_same (round_calls _ _ _))))
  refine wpQuiet_nil ?_
  intro _ hw'
  obtain ⟨nq, hw''⟩ := hw'
  subst hw''
  clear hG
  go_wp2
  obtain ⟨w3, hw3⟩ : ∃ z, z = (w2.drewN nq).setCell ⟨g, 5, none⟩ (.int .u64 (X.round64 v.c (X.le64 (l.drop 16)))) := ⟨_, rfl⟩
  have P3 := put_world HD.out nq 5 (.int .u64 (X.round64 v.c (X.le64 (l.drop 16))))
  rw [← hw3] at P3
  rw [← hw3]
  clear hw3
  obtain ⟨D3, K3, G3⟩ := P3
  have HD3 := Lib.hid (show IsE w3 g r n s ⟨X.round64 v.a (X.le64 l), X.round64 v.b (X.le64 (l.drop 8)), X.round64 v.c (X.le64 (l.drop 16)), v.d⟩ from D3)
  have HG3 := Lib.hid (grown_then HG.out G3)
  have r3 := Lib.hid (Rd.of_cells R2.out (fun p hp => K3 p (by rw [hp]; exact hag)))
  have hx3 := (K3 ⟨bx, 0, none⟩ hne).trans hx2
  clear x0 f0 D3 K3 G3 HD HG hx2 R2
  have HD := HD3
  have HG := HG3
  have R3 := r3
  clear HD3 HG3 r3
  obtain ⟨x0, f0⟩ := IsE.at HD.out 6 _ rfl
  have hr3 : Rd w3 ⟨ad.block, ad.off + 24, none⟩ (l.drop 24) := by
    have := R3.out.drop 24
    rwa [add_pos _ _ (by omega)] at this
  have hG := fun m => get64_calls ⟨ad.block, ad.off + 24, none⟩ (32 - 24) (c - 24) (l.drop 24) (w3.drewN m) (hr3.drewN m) (by simp [hl]) (by simp [hl]) (by omega) (by simp [hl]) (HBy.out.drop 24)
  simp only [Nat.reduceSub] at hG
  clear hr3
  rw [rounds_succ]
  go_wp2
  refine QTail.wp_region_tail (C := fun w' => ∃ n, w' = w3.drewN n) 16 (by kernel_rfl) (by kernel_rfl) ⟨1, rfl⟩ ?_
  simp only [List.take_succ_cons, List.take_zero, List.drop_succ_cons, List.drop_zero]
  repeat (quiet_step (first | (go_at_call 88; with_reducible exact Calls.quiet_of (hG _)) | (go_at_call 87; exact Calls.quiet_of_same (round_calls _ _ _))))
  refine wpQuiet_nil ?_
  intro _ hw'
  obtain ⟨nq, hw''⟩ := hw'
  subst hw''
  clear hG
  go_wp2
  obtain ⟨w4, hw4⟩ : ∃ z, z = (w3.drewN nq).setCell ⟨g, 6, none⟩ (.int .u64 (X.round64 v.d (X.le64 (l.drop 24)))) := ⟨_, rfl⟩
  have P4 := put_world HD.out nq 6 (.int .u64 (X.round64 v.d (X.le64 (l.drop 24))))
  rw [← hw4] at P4
  rw [← hw4]
  clear hw4
  obtain ⟨D4, K4, G4⟩ := P4
  have HD4 := Lib.hid (show IsE w4 g r n s ⟨X.round64 v.a (X.le64 l), X.round64 v.b (X.le64 (l.drop 8)), X.round64 v.c (X.le64 (l.drop 16)), X.round64 v.d (X.le64 (l.drop 24))⟩ from D4)
  have HG4 := Lib.hid (grown_then HG.out G4)
  have r4 := Lib.hid (Rd.of_cells R3.out (fun p hp => K4 p (by rw [hp]; exact hag)))
  have hx4 := (K4 ⟨bx, 0, none⟩ hne).trans hx3
  clear x0 f0 D4 K4 G4 HD HG hx3 R3
  have HD := HD4
  have HG := HG4
  have R4 := r4
  clear HD4 HG4 r4
  rw [rounds_succ]
  go_wp2
  go_end0
  exact ⟨rfl, HD.out, HG.out⟩
end Go.Proofs.Ytnkcbkfccbfjpaa.XxhW
/- Contracts of xxh's pieces at digests of 64 bits, of begun64 and of takes (64 bits). Conditions: the lengths stay below 2^47; bytes are bytes. -/
namespace Go.Proofs.Ytnkcbkfccbfjpaa.XxhW
open Go.RowKit Go.Proofs.YtnkcbkfccbfjpaaW.PrintWords Go.Proofs.YtnkcbkfccbfjpaaW.PrintLast Go.Proofs.YtnkcbkfccbfjpaaW.PrintMore
set_option linter.unusedVariables false
set_option linter.unusedSimpArgs false
/-- n rounds and one more. -/
theorem erun_snoc (j : Nat) : ∀ (v : X.V4) (l : List Int), X.run64 (j + 1) v l = X.stripe64 (X.run64 j v l) (l.drop (32 * j)) := by
  induction j with
  | zero => intro v l; rfl
  | succ j ih =>
    intro v l
    rw [X.run64, ih]
    rw [X.run64, List.drop_drop]
    congr 2
    omega

theorem le64_take (l : List Int) (k m : Nat) (h : k + 8 ≤ m) : X.le64 ((l.take m).drop k) = X.le64 (l.drop k) := by
  unfold X.le64
  rw [le_take l k m (by omega), List.drop_drop, List.drop_drop, le_take l (k + 4) m (by omega)]
theorem estripe_take (v : X.V4) (l : List Int) (h : 32 ≤ l.length) : X.stripe64 v (l.take 32) = X.stripe64 v l := by
  have e0 := le64_take l 0 32 (by omega)
  simp only [List.drop_zero] at e0
  simp only [X.stripe64, e0, le64_take l 8 32 (by omega), le64_take l 16 32 (by omega), le64_take l 24 32 (by omega)]
theorem apart_E {w : World} {ad : Addr} {n g m c : Nat} {A : Option Addr} {N s : Int} {v : X.V4} {l : List Int} (hr : ReadsInt w .u8 (some ad) n l) (h0 : 0 < n) (hd : IsE w g (.slice A m c) N s v) : ad.block ≠ g :=
  apart_of_reads hr h0 hd (fun o k z h => by
    rcases o with _ | _ | _ | _ | _ | _ | _ | o <;> simp at h
    all_goals (obtain ⟨rfl, _⟩ := h; decide))

set_option maxHeartbeats 4000000 in
set_option maxRecDepth 100000 in
theorem epieces_calls (A : Option Addr) (c : Nat) (b rl : List Int) (bx g base N : Nat) (rv : Value) (s : Int) (v : X.V4) (w : World) (hr : ReadsInt w .u8 A b.length b) (hb : Bytes (rl ++ b))
    (hx : w.heap[bx]? = some (.cells #[.pointer (some ⟨g, 0, none⟩)] 47 (0, 0))) (hd : IsE w g rv N s v) (ho : w.ownsRow base 5 1 rv rl.length (nums .u8 rl)) (hbase : base ≤ w.heap.size)
    (hl : rl.length + b.length ≤ 140737488355327) (hN : N ≤ 4611686018427387904) :
    Calls Try.prog 82 #[.pointer (some ⟨g, 0, none⟩), .slice A b.length c, .int .i64 32, .func (.func 86) #[] #[.pointer (some ⟨bx, 0, none⟩)]] w fun e w' => e = .returned (.tuple #[]) ∧
      ∃ rv', IsE w' g rv' ((N + b.length : Nat) : Int) s (X.run64 ((rl ++ b).length / 32) v (rl ++ b)) ∧ w'.ownsRow w.heap.size 5 1 rv' (X.rest 32 (rl ++ b)).length (nums .u8 (X.rest 32 (rl ++ b))) ∧
        Fr w w' (fun i => i ≠ g ∧ some i ≠ rv.ownBlock) := by
  obtain ⟨al, eal⟩ : ∃ al, al = rl ++ b := ⟨_, rfl⟩
  rw [← eal] at hb ⊢
  have hal : al.length = rl.length + b.length := by rw [eal]; simp
  have Hal := Aside0.mk hal
  have Heal := Aside0.mk eal
  clear hal eal
  have hneg : bx ≠ g := blk_ne hx hd (by decide)
  obtain ⟨x0, f0⟩ := IsE.at hd 0 rv rfl
  obtain ⟨x1, f1⟩ := IsE.at hd 1 (.int .u64 N) rfl
  have n0 : (0 : Int) ≤ (N : Int) := by omega
  have nb0 : (0 : Int) ≤ (b.length : Int) := by omega
  have nb1 : (b.length : Int) ≤ 140737488355327 := by omega
  have nn : (N : Int) ≤ 4611686018427387904 := by omega
  have F1 : Fr w (w.setCell ⟨g, 1, none⟩ (.int .u64 ((N : Int) + (b.length : Int)))) (fun i => i ≠ g) := Fr.set ⟨g, 1, none⟩ _
  have D1 : (w.setCell ⟨g, 1, none⟩ (.int .u64 ((N : Int) + (b.length : Int)))).heap[g]? = some (.cells #[rv, .int .u64 ((N : Int) + (b.length : Int)), .int .u64 s, .int .u64 v.a, .int .u64 v.b, .int .u64 v.c, .int .u64 v.d] 106 (0, 0)) := blk_set hd 1 _
  have hag : ∀ ad, A = some ad → 0 < b.length → ad.block ≠ g := fun ad e h0 => apart_of_reads (e ▸ hr) h0 hd (fun o k z h => by
    rcases o with _ | _ | _ | _ | _ | _ | _ | o <;> simp at h
    · rcases ho.2 with ⟨hv, _⟩ | ⟨_, _, _, hv, _⟩ <;> rw [hv] at h <;> cases h
    all_goals (obtain ⟨rfl, _⟩ := h; decide))
  have hne : some g ≠ rv.ownBlock := own_ne ho (show w.heap[g]? = some (.cells _ 106 (0, 0)) from hd) (by decide)
  have O1 : (w.setCell ⟨g, 1, none⟩ (.int .u64 ((N : Int) + (b.length : Int)))).ownsRow base 5 1 rv rl.length (nums .u8 rl) := own_setCell ho hne _
  have hrv : ∃ A n c, rv = .slice A n c := by obtain ⟨A, c, e⟩ := own_slice ho; exact ⟨_, _, _, e⟩
  have hrow : some bx ≠ rv.ownBlock := own_ne ho hx (by decide)
  have HR1 := Aside0.mk (reads_fr F1 hr (fun ad e h0 => hag ad e h0))
  have HO1 := Aside0.mk O1
  have HD1 := Aside0.mk D1
  have HF1 := Aside0.mk F1
  have HB1 := Aside0.mk (Nat.le_trans hbase F1.size)
  clear O1 D1 F1 hag hr ho
  go_enter Try.func82, Try.ntmps82
  go_wp2_with (first | (at_builtin; refine print_append_row (w0 := (w.setCell ⟨g, 1, none⟩ (.int .u64 ((N : Int) + (b.length : Int))))) base rfl (.tmp 22) (.tmp 23) 22 5 .u8 1 rfl Try.underlying22 info5 (by decide) rv rl b A b.length c rfl rfl HO1.out HR1.out (Below.refl _ _) HB1.out (by omega) ?_; intro v1 w2 hO hB hG hA; rw [← Heal.out] at hO; have HD2 := Aside0.mk (blk_grown HD1.out hG hne); have x2 : w2.cell? ⟨g, 0, none⟩ = some rv := cell_of_row w2 g 0 _ 106 (0, 0) HD2.out; have f2 : w2.frozen? ⟨g, 0, none⟩ = false := blk_frozen HD2.out 0; obtain ⟨A2, c2, ev, hW⟩ := own_waits (g := g) hO; subst ev; have HW2 := Aside0.mk hW; clear hW; have HO2 := Aside0.mk hO; have HG2 := Aside0.mk hG; have HA2 := Aside0.mk hA; clear hO hB hG hA))
  have e9 : ((N : Int) + (b.length : Int)) = ((N + b.length : Nat) : Int) := by omega
  obtain ⟨w3, hw3⟩ : ∃ z, z = w2.setCell ⟨g, 0, none⟩ (.slice A2 al.length c2) := ⟨_, rfl⟩
  rw [← hw3]
  have F3 : Fr w w3 (fun i => i ≠ g ∧ some i ≠ rv.ownBlock) := by
    rw [hw3]
    exact ((HF1.out.mono (fun i _ h => h.1)).then' (Fr.of_grown HG2.out) (fun i _ h => h.2)).then' (Fr.set ⟨g, 0, none⟩ _) (fun i _ h => h.1)
  have D3 : IsE w3 g (.slice A2 al.length c2) (N + b.length : Nat) s (X.run64 0 v al) := by
    rw [hw3, ← e9]; exact blk_set HD2.out 0 _
  have W3 : Waits w3 g A2 (al.length - 32 * 0) c2 (al.drop (32 * 0)) := by
    rw [hw3]
    exact ⟨reads_fr (Fr.set ⟨g, 0, none⟩ _) HW2.out.1 (fun ad e h0 => apart_of_reads (e ▸ HW2.out.1) h0 HD2.out (fun o k z h => by
      rcases o with _ | _ | _ | _ | _ | _ | _ | o <;> simp at h
      · exact absurd h (by rcases hrv with ⟨_, _, _, e⟩; rw [e]; simp)
      all_goals (obtain ⟨rfl, _⟩ := h; decide))), HW2.out.2⟩
  clear e9 hw3 HA2 HG2 HO2 HW2 HD2 HF1 HD1 HO1 HR1 HB1 x2 f2 x0 f0 x1 f1
  have HF := Aside0.mk F3
  have HD := Aside0.mk D3
  have HW := Aside0.mk W3
  clear F3 D3 W3
  go_loopg [] (al.length / 32) (fun kq wc => ∃ (j : Nat) (A' : Option Addr) (c' : Nat), kq + j = al.length / 32 ∧ Aside0 (IsE wc g (.slice A' (al.length - 32 * j) c') (N + b.length : Nat) s (X.run64 j v al)) ∧
    Aside0 (Waits wc g A' (al.length - 32 * j) c' (al.drop (32 * j))) ∧ Aside0 (Fr w wc (fun i => i ≠ g ∧ some i ≠ rv.ownBlock)))
  case atStart => exact ⟨0, A2, c2, by omega, HD, HW, HF⟩
  case round =>
    clear HD HW HF
    obtain ⟨j, A', c', hk, HD, HW, HF⟩ := hrel
    obtain ⟨L, eL⟩ : ∃ L, L = al.drop (32 * j) := ⟨_, rfl⟩
    have eLl : al.length - 32 * j = L.length := by rw [eL]; simp
    rw [eLl] at HD HW
    rw [← eL] at HW
    have HeL := Aside0.mk eL
    have HeLl := Aside0.mk eLl
    have hLs : L.length ≤ 140737488355327 := by have := Hal.out; omega
    have hLb : Bytes L := by rw [eL]; exact hb.drop _
    have HLb := Aside0.mk hLb
    clear eL eLl hLb
    have HbX := Aside0.mk (HF.out.heap hx ⟨hneg, fun e => hrow e⟩)
    have hbx : wr.cell? ⟨bx, 0, none⟩ = some (.pointer (some ⟨g, 0, none⟩)) := cell_of_one HbX.out
    obtain ⟨y0, g0⟩ := IsE.at HD.out 0 (.slice A' L.length c') rfl
    have hLc : L.length ≤ c' := HW.out.2
    cases gk with
    | zero =>
      have hlt : L.length < 32 := by have := HeLl.out; have := Nat.div_add_mod al.length 32; have := Nat.mod_lt al.length (show 0 < 32 by decide); omega
      have hlt' : (L.length : Int) < 32 := by omega
      have Hk := Aside0.mk hk
      have HLs := Aside0.mk hLs
      have HLc := Aside0.mk hLc
      clear hk hd hrv hb hl hN hLc hbase
      go_wp2_with (first | ((with_reducible refine gate_callee (f := 68) rfl ?_); refine goesL_ (some 56) rfl rfl Try.func68 (by kernel_rfl) rfl #[.slice A' L.length c'] rfl (by (try simp only [List.map_toArray, List.map_cons, List.map_nil]); first | done | rfl) ?_; refine (clone_any A' c' L _ HW.out.1 hLs).mono ?_; rintro e w5 ⟨A5, c5, rfl, hO5, hB5⟩; refine ⟨_, rfl, ?_⟩; have HO5 := Aside0.mk hO5; have HB5 := Aside0.mk hB5; have HD5 := Aside0.mk (show w5.heap[g]? = some (.cells _ 106 (0, 0)) from (hB5.block g (blk_lt HD.out)).trans HD.out); have f5 : w5.frozen? ⟨g, 0, none⟩ = false := blk_frozen HD5.out 0; have x5 : w5.cell? ⟨g, 0, none⟩ = some (.slice A' L.length c') := cell_of_row w5 g 0 _ 106 (0, 0) HD5.out; clear hO5 hB5))
      go_end0
      have eM : j = al.length / 32 := by have := Hk.out; omega
      have eR : X.rest 32 al = L := by rw [X.rest, ← eM]; exact HeL.out.symm
      refine ⟨rfl, .slice A5 L.length c5, ?_, ?_, ?_⟩
      · rw [← eM]; exact blk_set HD5.out 0 _
      · rw [eR]
        have hne5 : some g ≠ (Value.slice A5 L.length c5).ownBlock := own_ne HO5.out HD5.out (by decide)
        have := own_setCell (p := ⟨g, 0, none⟩) HO5.out hne5 (.slice A5 L.length c5)
        exact own_lower this HF.out.size
      · exact (HF.out.then' (Fr.of_below HB5.out (fun _ => True)) (fun _ _ _ => trivial)).then' (Fr.set ⟨g, 0, none⟩ _) (fun i _ h => h.1)
    | succ k1 =>
      have hge : 32 ≤ L.length := by have := HeLl.out; have := Nat.div_mul_le_self al.length 32; omega
      have hge' : (32 : Int) ≤ (L.length : Int) := by omega
      have hc16 : (32 : Int) ≤ (c' : Int) := by omega
      obtain ⟨ad, rfl, _⟩ := HW.out.1.2.2 (by omega)
      have hadg : ad.block ≠ g := apart_E HW.out.1 (by omega) HD.out
      have HT := Aside0.mk (Rd.take (rd_of_reads HW.out.1) 32)
      have HTl := Aside0.mk (show (L.take 32).length = 32 by simp; omega)
      have HTb := Aside0.mk (HLb.out.take 32)
      have HstripeL := Aside0.mk (estripe_take (X.run64 j v al) L hge)
      have HdropL := Aside0.mk (show al.drop (32 * (j + 1)) = L.drop 32 by rw [HeL.out, List.drop_drop, Nat.mul_succ])
      obtain ⟨i05, hi05, _, hsz5, _⟩ := info_parts info5
      obtain ⟨A1, hcut, hA1⟩ := print_cut (P := Try.prog) 22 5 .i64 Try.underlying22 hi05 hsz5 (some ad) L.length c' 32 hge
      have HA1 := Aside0.mk hA1
      have hcut' : ∀ W : World, (Instr.slice 22 (.slice (some ad) L.length c') (some (.int .i64 32)) none none).run Try.prog W = .ok (.slice A1 (L.length - 32) (c' - 32)) W := hcut
      clear hA1 hi05 hsz5 hcut
      go_wp2_with (first | (go_at_call 86; refine (takes1e_calls ad c' (L.take 32) bx g (.slice (some ad) L.length c') ((N + b.length : Nat) : Int) s (X.run64 j v al) _ HT.out HTl.out (by omega) HTb.out hbx HD.out hneg hadg).mono ?_; rintro e w4 ⟨rfl, hD4, hG4⟩; have HD4 := Aside0.mk hD4; have F4' := Aside0.mk ((Fr.of_grown hG4).mono (ok' := fun i => i ≠ g) (fun i _ h e => h (by injection e))); have x4 : w4.cell? ⟨g, 0, none⟩ = some (.slice (some ad) L.length c') := (IsE.at hD4 0 _ rfl).1; have f4 : w4.frozen? ⟨g, 0, none⟩ = false := (IsE.at hD4 0 (.slice (some ad) L.length c') rfl).2; clear hD4 hG4))
      go_roundg k1
      case measure => omega
      case rel =>
        have F4 := F4'.out
        have e1 : al.length - 32 * (j + 1) = L.length - 32 := by have := HeLl.out; omega
        refine ⟨j + 1, A1, c' - 32, by omega, ⟨?_⟩, ⟨?_⟩, ⟨?_⟩⟩
        · rw [erun_snoc, ← HeL.out, ← HstripeL.out, e1]
          exact blk_set HD4.out 0 _
        · rw [e1, HdropL.out]
          exact ⟨reads_fr (F4.then (Fr.set ⟨g, 0, none⟩ _)) (HA1.out _ _ _ hLc HW.out.1) (fun ad' e h0 => apart_E (e ▸ HA1.out _ _ _ hLc HW.out.1) h0 HD.out), by omega⟩
        · exact (HF.out.then' F4 (fun i _ h => h.1)).then' (Fr.set ⟨g, 0, none⟩ _) (fun i _ h => h.1)
theorem IsE.alloc {w : World} {g : Nat} {r : Value} {n s : Int} {v : X.V4} (h : IsE w g r n s v) (o : Obj) : IsE (w.alloc o) g r n s v :=
  (below_alloc (Below.refl _ _) o).block g (blk_lt h) |>.trans h

theorem ebegun_calls (s : Int) (w : World) (h0 : 0 ≤ s) (h1 : s < 18446744073709551616) :
    Calls Try.prog 55 #[.int .u64 s] w fun e w' => e = .returned (.pointer (some ⟨w.heap.size, 0, none⟩)) ∧ IsE w' w.heap.size (.slice none 0 0) 0 s (X.init64 s) ∧ Below w.heap.size w w' := by
  go_enter Try.func55, Try.ntmps55
  go_wp2
  go_ret
  refine ⟨rfl, ?_, below_alloc (Below.refl _ _) _⟩
  have := heap_alloc_new w (.cells #[.slice none 0 0, .int .u64 0, .int .u64 s, .int .u64 (X.init64 s).a, .int .u64 (X.init64 s).b, .int .u64 (X.init64 s).c, .int .u64 (X.init64 s).d] 106)
  simp only [u64_mod]
  simpa [IsE, X.init64] using this

set_option maxHeartbeats 1000000 in
theorem etakes_calls (A : Option Addr) (c : Nat) (b rl : List Int) (g base N : Nat) (rv : Value) (s : Int) (v : X.V4) (w : World) (hr : ReadsInt w .u8 A b.length b) (hb : Bytes (rl ++ b))
    (hd : IsE w g rv N s v) (ho : w.ownsRow base 5 1 rv rl.length (nums .u8 rl)) (hbase : base ≤ w.heap.size) (hl : rl.length + b.length ≤ 140737488355327) (hN : N ≤ 4611686018427387904) :
    Calls Try.prog 56 #[.pointer (some ⟨g, 0, none⟩), .slice A b.length c] w fun e w' => e = .returned (.tuple #[]) ∧
      ∃ rv', IsE w' g rv' ((N + b.length : Nat) : Int) s (X.run64 ((rl ++ b).length / 32) v (rl ++ b)) ∧ w'.ownsRow w.heap.size 5 1 rv' (X.rest 32 (rl ++ b)).length (nums .u8 (X.rest 32 (rl ++ b))) ∧
        Fr w w' (fun i => i ≠ g ∧ some i ≠ rv.ownBlock) := by
  have hB := below_alloc (Below.refl w.heap.size w) (.cells #[.pointer (some ⟨g, 0, none⟩)] 47)
  have HC := Aside0.mk (epieces_calls A c b rl w.heap.size g base N rv s v (w.alloc (.cells #[.pointer (some ⟨g, 0, none⟩)] 47)) (hr.below hB) hb (heap_alloc_new _ _) (hd.alloc _) (ho.alloc _)
    (Nat.le_trans hbase hB.size) hl hN)
  clear hr hd ho hb
  go_enter Try.func56, Try.ntmps56
  go_wp2_with (first | (go_at_call 82; refine HC.out.mono ?_; rintro e w' ⟨rfl, hp⟩; have HP := Aside0.mk hp; clear hp))
  go_end0
  obtain ⟨rv', d, o, f⟩ := HP.out
  exact ⟨rfl, rv', d, own_lower o hB.size, (Fr.of_below hB (fun i => i ≠ g ∧ some i ≠ rv.ownBlock)).then' f (fun _ _ h => h)⟩
end Go.Proofs.Ytnkcbkfccbfjpaa.XxhW
/- Contract of xxh's sum (64 bits). -/
namespace Go.Proofs.Ytnkcbkfccbfjpaa.XxhW
open Go.RowKit Go.Proofs.YtnkcbkfccbfjpaaW.PrintWords Go.Proofs.YtnkcbkfccbfjpaaW.PrintLast Go.Proofs.YtnkcbkfccbfjpaaW.PrintMore
set_option linter.unusedVariables false
set_option linter.unusedSimpArgs false
theorem round64_range (v x : Int) : W64 (X.round64 v x) := w64_mod _
structure Egood (v : X.V4) : Prop where
  a : W64 v.a
  b : W64 v.b
  c : W64 v.c
  d : W64 v.d
theorem egood_init (s : Int) (h : W64 s) : Egood (X.init64 s) := ⟨w64_mod _, w64_mod _, h, w64_mod _⟩
theorem egood_stripe (v : X.V4) (l : List Int) : Egood (X.stripe64 v l) := ⟨w64_mod _, w64_mod _, w64_mod _, w64_mod _⟩
theorem egood_run (n : Nat) : ∀ (v : X.V4) (l : List Int), Egood v → Egood (X.run64 n v l) := by
  induction n with
  | zero => intro v l h; exact h
  | succ n ih => intro v l h; exact ih _ _ (egood_stripe _ _)
theorem ewords_snoc (j : Nat) : ∀ (h : Int) (l : List Int), X.words64 (j + 1) h l = X.word64 (X.words64 j h l) (X.le64 (l.drop (8 * j))) := by
  induction j with
  | zero => intro h l; rfl
  | succ j ih =>
    intro h l
    rw [X.words64, ih, X.words64, List.drop_drop]
    congr 3
    omega
theorem ewords_range (j : Nat) : ∀ (h : Int) (l : List Int), W64 h → W64 (X.words64 j h l) := by
  induction j with
  | zero => intro h l hh; exact hh
  | succ j ih => intro h l hh; exact ih _ _ (w64_mod _)
theorem ebytes_snoc (h : Int) (l : List Int) (i : Nat) (hi : i < l.length) : X.bytes64 h (l.take (i + 1)) = X.byte64 (X.bytes64 h (l.take i)) (X.at' l i) := by
  unfold X.bytes64
  rw [List.take_succ_eq_append_getElem hi, List.foldl_append]
  simp [X.at', List.getD_eq_getElem?_getD, List.getElem?_eq_getElem hi]
theorem ebytes_range (l : List Int) : ∀ (h : Int), W64 h → W64 (X.bytes64 h l) := by
  induction l with
  | nil => intro h hh; exact hh
  | cons b l ih => intro h hh; exact ih _ (w64_mod _)

theorem xor64_range (x y : Int) (hx : W64 x) (hy : W64 y) : W64 (Go.bits .xor .u64 x y) := by
  obtain ⟨a, rfl⟩ := Int.eq_ofNat_of_zero_le hx.1
  obtain ⟨b, rfl⟩ := Int.eq_ofNat_of_zero_le hy.1
  have h1 := hx.2
  have h2 := hy.2
  rw [bits_xor_u64_nat a b (by omega) (by omega)]
  have := Nat.xor_lt_two_pow (n := 64) (x := a) (y := b) (by omega) (by omega)
  exact ⟨by omega, by omega⟩
theorem half64_range (h w : Int) : W64 (X.half64 h w) := w64_mod _
theorem mid64_range (h : Int) (r : List Int) (hh : W64 h) : W64 (X.mid64 h r) := by
  by_cases h4 : 4 ≤ r.length
  · rw [X.mid64, if_pos h4]; exact w64_mod _
  · rw [X.mid64, if_neg h4]; exact hh

set_option maxHeartbeats 8000000 in
set_option maxRecDepth 100000 in
theorem esum_calls (A : Option Addr) (c g N : Nat) (l : List Int) (s : Int) (v : X.V4) (w : World) (hd : IsE w g (.slice A l.length c) N s v) (hr : ReadsInt w .u8 A l.length l) (hlc : l.length ≤ c)
    (hb : Bytes l) (hv : Egood v) (hs : W64 s) (hN : N ≤ 4611686018427387904) (hl : l.length ≤ 140737488355327) :
    Calls Try.prog 57 #[.pointer (some ⟨g, 0, none⟩)] w fun e w' => e = .returned (.int .u64 (X.tail64 ((X.head64 N s v + (N : Int)) % 18446744073709551616) l)) ∧ ∃ m, w' = w.drewN m := by
  have x0 := (IsE.at hd 0 (.slice A l.length c) rfl).1
  have x1 := (IsE.at hd 1 (.int .u64 N) rfl).1
  have x2 := (IsE.at hd 2 (.int .u64 s) rfl).1
  have x3 := (IsE.at hd 3 (.int .u64 v.a) rfl).1
  have x4 := (IsE.at hd 4 (.int .u64 v.b) rfl).1
  have x5 := (IsE.at hd 5 (.int .u64 v.c) rfl).1
  have x6 := (IsE.at hd 6 (.int .u64 v.d) rfl).1
  obtain ⟨va, vb, vc, vd⟩ := hv
  have n0 : (0 : Int) ≤ (N : Int) := by omega
  have n1 : (N : Int) ≤ 4611686018427387904 := by omega
  have HR := Aside0.mk hr
  have HB := Aside0.mk hb
  clear hr hd hb
  obtain ⟨h1, eh1⟩ : ∃ z, z = (X.head64 N s v + (N : Int)) % 18446744073709551616 := ⟨_, rfl⟩
  rw [← eh1]
  have Hh := Aside0.mk eh1
  have hh1 : W64 h1 := by rw [eh1]; exact w64_mod _
  have Hw := Aside0.mk hh1
  clear eh1 hh1
  obtain ⟨i05, hi05, _, hsz5, _⟩ := info_parts info5
  have H2 := Aside0.mk hs
  go_enter Try.func57, Try.ntmps57
  go_upto_if 19 with (fail)
  go_cut [3] (fun v3 wc => v3 = .int .u64 (X.head64 N s v) ∧ ∃ m, wc = w.drewN m)
  case first =>
    by_cases hbig : 32 ≤ N
    · have hbig' : (32 : Int) ≤ (N : Int) := by omega
      have HH := Aside0.mk (show X.head64 N s v = X.merge64 v from if_pos hbig)
      have i0 : ∀ W : World, (Instr.index 97 (.agg #[.int .u64 v.a, .int .u64 v.b, .int .u64 v.c, .int .u64 v.d]) (.int .i64 0)).run Try.prog W = .ok (.int .u64 v.a) W := fun _ => by kernel_rfl
      have i1 : ∀ W : World, (Instr.index 97 (.agg #[.int .u64 v.a, .int .u64 v.b, .int .u64 v.c, .int .u64 v.d]) (.int .i64 1)).run Try.prog W = .ok (.int .u64 v.b) W := fun _ => by kernel_rfl
      have i2 : ∀ W : World, (Instr.index 97 (.agg #[.int .u64 v.a, .int .u64 v.b, .int .u64 v.c, .int .u64 v.d]) (.int .i64 2)).run Try.prog W = .ok (.int .u64 v.c) W := fun _ => by kernel_rfl
      have i3 : ∀ W : World, (Instr.index 97 (.agg #[.int .u64 v.a, .int .u64 v.b, .int .u64 v.c, .int .u64 v.d]) (.int .i64 3)).run Try.prog W = .ok (.int .u64 v.d) W := fun _ => by kernel_rfl
      go_wp2
      go_quiet (first | (go_at_call 89; exact Calls.quiet_of_same (rotl64_calls _ _ _ (by decide) (by decide) va.1 va.2)) | (go_at_call 89; exact Calls.quiet_of_same (rotl64_calls _ _ _ (by decide) (by decide) vb.1 vb.2)) | (go_at_call 89; exact Calls.quiet_of_same (rotl64_calls _ _ _ (by decide) (by decide) vc.1 vc.2)) | (go_at_call 89; exact Calls.quiet_of_same (rotl64_calls _ _ _ (by decide) (by decide) vd.1 vd.2)))
      go_wp2
      refine wp_loop_rounds 5 ?_
      rw [rounds_succ]
      go_wp2_with (first | (go_at_call 87; refine (round_calls _ _ _).mono ?_; rintro e w' ⟨rfl, rfl⟩))
      rw [rounds_succ]
      go_wp2_with (first | (go_at_call 87; refine (round_calls _ _ _).mono ?_; rintro e w' ⟨rfl, rfl⟩))
      rw [rounds_succ]
      go_wp2_with (first | (go_at_call 87; refine (round_calls _ _ _).mono ?_; rintro e w' ⟨rfl, rfl⟩))
      rw [rounds_succ]
      go_wp2_with (first | (go_at_call 87; refine (round_calls _ _ _).mono ?_; rintro e w' ⟨rfl, rfl⟩))
      rw [rounds_succ]
      go_wp2_with (first | (go_at_call 87; refine (round_calls _ _ _).mono ?_; rintro e w' ⟨rfl, rfl⟩))
      go_meet
      case rel => 
        refine ⟨congrArg (Value.int .u64) ?_, _, rfl⟩
        rw [HH.out]
        simp only [u64_mod, X.merge64, X.fold64, Int.emod_add_emod]
    · have hbig' : (N : Int) < 32 := by omega
      have HH := Aside0.mk (show X.head64 N s v = (s + 2870177450012600261) % 18446744073709551616 from if_neg hbig)
      go_wp2
      go_meet
      case rel => exact ⟨by rw [HH.out, u64_mod], 0, rfl⟩
  case rest =>
    obtain ⟨rfl, mc, rfl⟩ := hcut
    have x0' : (w.drewN mc).cell? ⟨g, 0, none⟩ = some (.slice A l.length c) := x0
    have x1' : (w.drewN mc).cell? ⟨g, 1, none⟩ = some (.int .u64 N) := x1
    go_upto_region 10 with (fail)
    go_cut [3, 6] (fun v3 v6 wc => v3 = .int .u64 h1 ∧ v6 = .slice A l.length c ∧ ∃ m, wc = w.drewN m)
    case first =>
      go_wp2
      go_meet
      case rel => exact ⟨congrArg (Value.int .u64) (by rw [Hh.out, u64_mod]), rfl, _, rfl⟩
    case rest =>
    obtain ⟨rfl, rfl, mc2, rfl⟩ := hcut
    clear x0' x1'
    go_upto_block 2 with (fail)
    go_cut [3, 6] (fun v3 v6 wc => ∃ (A' : Option Addr) (c' : Nat), v3 = .int .u64 (X.words64 (l.length / 8) h1 l) ∧ v6 = .slice A' (X.rest 8 l).length c' ∧ Aside0 (ReadsInt w .u8 A' (X.rest 8 l).length (X.rest 8 l)) ∧ (X.rest 8 l).length ≤ c' ∧ ∃ m, wc = w.drewN m)
    case first =>
      go_wp2
      go_loopg [3, 6] (l.length / 8) (fun kq v3 v6 wc => ∃ (j : Nat) (A' : Option Addr) (c' : Nat) (h : Int), kq + j = l.length / 8 ∧ v3 = .int .u64 h ∧ Aside0 (h = X.words64 j h1 l) ∧ v6 = .slice A' (l.length - 8 * j) c' ∧
        Aside0 (ReadsInt w .u8 A' (l.length - 8 * j) (l.drop (8 * j))) ∧ l.length - 8 * j ≤ c' ∧ ∃ m, wc = w.drewN m)
      case atStart => exact ⟨0, A, c, h1, by omega, rfl, ⟨rfl⟩, rfl, HR, by simpa using hlc, _, rfl⟩
      case round =>
        obtain ⟨j, A', c', h, hk, rfl, HE, rfl, HA, hnc, m, rfl⟩ := hrel
        obtain ⟨L, eL⟩ : ∃ L, L = l.drop (8 * j) := ⟨_, rfl⟩
        have eLl : l.length - 8 * j = L.length := by rw [eL]; simp
        rw [eLl] at HA hnc ⊢
        rw [← eL] at HA
        have HeL := Aside0.mk eL
        have HeLl := Aside0.mk eLl
        have Hk := Aside0.mk hk
        have HLb := Aside0.mk (show Bytes L by rw [eL]; exact HB.out.drop _)
        have hLs : L.length ≤ 140737488355327 := by omega
        have hW := ewords_range j h1 l Hw.out
        rw [← HE.out] at hW
        clear eL eLl hk
        cases gk with
        | zero =>
          have hlt : (L.length : Int) < 8 := by have := HeLl.out; have := Hk.out; have := Nat.div_add_mod l.length 8; have := Nat.mod_lt l.length (show 0 < 8 by decide); omega
          go_wp2
          go_meet
          case rel =>
            have ej : j = l.length / 8 := by have := Hk.out; omega
            have er : X.rest 8 l = L := by rw [X.rest, ← ej]; exact HeL.out.symm
            rw [er, ← ej]
            exact ⟨A', c', by rw [HE.out], rfl, HA, hnc, _, rfl⟩
        | succ k1 =>
          have hge : 8 ≤ L.length := by have := HeLl.out; have := Hk.out; have := Nat.div_mul_le_self l.length 8; omega
          have hge' : (8 : Int) ≤ (L.length : Int) := by omega
          obtain ⟨ad, rfl, _⟩ := HA.out.2.2 (by omega)
          obtain ⟨A1, hcut, hA1⟩ := print_cut (P := Try.prog) 22 5 .i64 Try.underlying22 hi05 hsz5 (some ad) L.length c' 8 hge
          have HA1 := Aside0.mk hA1
          have hcut' : ∀ W : World, (Instr.slice 22 (.slice (some ad) L.length c') (some (.int .i64 8)) none none).run Try.prog W = .ok (.slice A1 (L.length - 8) (c' - 8)) W := hcut
          clear hA1 hcut
          go_wp2_with (first | (go_at_call 88; refine (get64_calls ad L.length c' L _ ((rd_of_reads HA.out).drewN _) rfl hge hnc hLs HLb.out).mono ?_; rintro e w' ⟨rfl, m', rfl⟩) | (go_at_call 87; refine (round_calls _ _ _).mono ?_; rintro e w' ⟨rfl, rfl⟩) | (go_at_call 89; refine (rotl64_calls _ 27 _ (by decide) (by decide) (xor64_range _ _ hW (round64_range _ _)).1 (xor64_range _ _ hW (round64_range _ _)).2).mono ?_; rintro e w' ⟨rfl, rfl⟩))
          go_roundg k1
          case measure => omega
          case rel =>
            have e1 : l.length - 8 * (j + 1) = L.length - 8 := by have := HeLl.out; omega
            refine ⟨j + 1, A1, c' - 8, _, by have := Hk.out; omega, rfl, ⟨?_⟩, by rw [e1], ⟨?_⟩, by omega, _, rfl⟩
            · rw [ewords_snoc, ← HeL.out, ← HE.out]
              simp only [u64_mod, X.word64, Int.emod_add_emod]
              first | done | rfl
            · rw [e1, show l.drop (8 * (j + 1)) = L.drop 8 by rw [HeL.out, List.drop_drop, Nat.mul_succ]]
              exact HA1.out _ _ _ hnc HA.out
    case rest =>
    obtain ⟨A2, c2, rfl, rfl, HA2, hn2, m2, rfl⟩ := hcut
    obtain ⟨h2, eh2⟩ : ∃ z, z = X.words64 (l.length / 8) h1 l := ⟨_, rfl⟩
    obtain ⟨r, er⟩ : ∃ z, z = X.rest 8 l := ⟨_, rfl⟩
    have HG := Aside0.mk (show X.tail64 h1 l = X.fin64 (X.bytes64 (X.mid64 h2 r) (X.rest64 r)) by rw [eh2, er]; rfl)
    have Hw2 : W64 h2 := by rw [eh2]; exact ewords_range _ _ _ Hw.out
    have HRb := Aside0.mk (show Bytes r by rw [er]; exact HB.out.drop _)
    have hrl : r.length ≤ 140737488355327 := by rw [er]; exact Nat.le_trans (rest_le _ _) hl
    rw [← er] at HA2 hn2 ⊢
    rw [← eh2]
    clear er eh2
    go_upto_if 88 with (fail)
    go_cut [3, 6] (fun v3 v6 wc => ∃ (A' : Option Addr) (c' : Nat), v3 = .int .u64 (X.mid64 h2 r) ∧ v6 = .slice A' (X.rest64 r).length c' ∧ Aside0 (ReadsInt w .u8 A' (X.rest64 r).length (X.rest64 r)) ∧ ∃ m, wc = w.drewN m)
    case first =>
      by_cases h4 : 4 ≤ r.length
      · have h4' : (4 : Int) ≤ (r.length : Int) := by omega
        have HM := Aside0.mk (show X.mid64 h2 r = X.half64 h2 (X.le32 r) ∧ X.rest64 r = r.drop 4 from ⟨if_pos h4, if_pos h4⟩)
        obtain ⟨ad, rfl, _⟩ := HA2.out.2.2 (by omega)
        obtain ⟨A1, hcut, hA1⟩ := print_cut (P := Try.prog) 22 5 .i64 Try.underlying22 hi05 hsz5 (some ad) r.length c2 4 h4
        have HA1 := Aside0.mk hA1
        have hcut' : ∀ W : World, (Instr.slice 22 (.slice (some ad) r.length c2) (some (.int .i64 4)) none none).run Try.prog W = .ok (.slice A1 (r.length - 4) (c2 - 4)) W := hcut
        obtain ⟨p0, q0⟩ := le32_range r HRb.out
        clear hA1 hcut
        go_wp2_with (first | (go_at_call 85; refine (get32_calls ad r.length c2 r _ ((rd_of_reads HA2.out).drewN _) rfl h4 HRb.out).mono ?_; rintro e w' ⟨rfl, m', rfl⟩) | (go_at_call 89; refine (rotl64_calls _ 23 _ (by decide) (by decide) (xor64_range _ _ Hw2 (u64_range _)).1 (xor64_range _ _ Hw2 (u64_range _)).2).mono ?_; rintro e w' ⟨rfl, rfl⟩))
        go_meet
        case rel =>
          rw [HM.out.1, HM.out.2]
          refine ⟨A1, c2 - 4, congrArg (Value.int .u64) ?_, by rw [List.length_drop], ⟨?_⟩, _, rfl⟩
          · simp only [u64_mod, X.half64, Int.emod_add_emod]
            first | done | rfl
          · rw [List.length_drop]; exact HA1.out _ _ _ hn2 HA2.out
      · have h4' : (r.length : Int) < 4 := by omega
        have HM := Aside0.mk (show X.mid64 h2 r = h2 ∧ X.rest64 r = r from ⟨if_neg h4, if_neg h4⟩)
        go_wp2
        go_meet
        case rel =>
          rw [HM.out.1, HM.out.2]
          exact ⟨A2, c2, rfl, rfl, HA2, _, rfl⟩
    case rest =>
    obtain ⟨A3, c3, rfl, rfl, HA3, m3, rfl⟩ := hcut
    obtain ⟨h3, eh3⟩ : ∃ z, z = X.mid64 h2 r := ⟨_, rfl⟩
    obtain ⟨t, et⟩ : ∃ z, z = X.rest64 r := ⟨_, rfl⟩
    have Hw3 := Aside0.mk (show W64 h3 by rw [eh3]; exact mid64_range _ _ Hw2)
    have HTb := Aside0.mk (show Bytes t by
      rw [et]
      by_cases h4 : 4 ≤ r.length
      · rw [X.rest64, if_pos h4]; exact HRb.out.drop _
      · rw [X.rest64, if_neg h4]; exact HRb.out)
    have htl : t.length ≤ 140737488355327 := by rw [et]; unfold X.rest64; split <;> (try rw [List.length_drop]) <;> omega
    rw [← et] at HA3
    rw [← et, ← eh3]
    have HG2 := Aside0.mk (show X.tail64 h1 l = X.fin64 (X.bytes64 h3 t) by rw [HG.out, ← et, ← eh3])
    clear et eh3 HG
    go_wp2
    go_loopg [3, 102] t.length (fun kq v3 v102 wc => ∃ (i : Nat) (q : Int), kq + i = t.length ∧ v3 = .int .u64 q ∧ Aside0 (q = X.bytes64 h3 (t.take i)) ∧ v102 = .int .i64 i ∧ ∃ m', wc = w.drewN m')
    case atStart => exact ⟨0, h3, by omega, rfl, ⟨by rw [List.take_zero]; rfl⟩, rfl, _, rfl⟩
    case round =>
      obtain ⟨i, q, hk, rfl, HQ, rfl, m', rfl⟩ := hrel
      have hQ := ebytes_range (t.take i) h3 Hw3.out
      rw [← HQ.out] at hQ
      have Hk := Aside0.mk hk
      clear hk
      cases gk with
      | zero =>
        have hi : i = t.length := by have := Hk.out; omega
        subst hi
        obtain ⟨hq0, hq1⟩ := hQ
        go_wp2
        go_ret
        refine ⟨congrArg (fun z => Ending.returned (.int .u64 z)) ?_, _, rfl⟩
        have f3 := HQ.out
        rw [List.take_length] at f3
        rw [HG2.out, ← f3]
        simp only [X.fin64, u64_mod]
      | succ k1 =>
        have hi : i < t.length := by have := Hk.out; omega
        have hi' : (i : Int) < (t.length : Int) := by omega
        have hi0 : (0 : Int) ≤ (i : Int) := by omega
        obtain ⟨ad, rfl, hc⟩ := HA3.out.2.2 (by omega)
        have hci : w.cell? (ad.add i) = some (.int .u8 (X.at' t i)) := hc i hi
        obtain ⟨b0, b1⟩ := HTb.out i
        clear hc
        go_wp2_with (first | (go_at_call 89; refine (rotl64_calls _ 11 _ (by decide) (by decide) (xor64_range _ _ hQ (u64_range _)).1 (xor64_range _ _ hQ (u64_range _)).2).mono ?_; rintro e w' ⟨rfl, rfl⟩))
        go_roundg k1
        case measure => omega
        case rel =>
          refine ⟨i + 1, _, by have := Hk.out; omega, rfl, ⟨?_⟩, by go_num, _, rfl⟩
          rw [ebytes_snoc _ _ _ hi, ← HQ.out]
          simp only [u64_mod, X.byte64]
          first | done | rfl
end Go.Proofs.Ytnkcbkfccbfjpaa.XxhW
/- Contract of xxh.Sum64: the sum of 64 bits as a plain function of the seed and the bytes. Conditions: the seed is a word of 64 bits, bytes are bytes, fewer than 2^47 of them. -/
namespace Go.Proofs.Ytnkcbkfccbfjpaa.XxhW
open Go.RowKit Go.Proofs.YtnkcbkfccbfjpaaW.PrintWords Go.Proofs.YtnkcbkfccbfjpaaW.PrintLast Go.Proofs.YtnkcbkfccbfjpaaW.PrintMore
set_option linter.unusedVariables false
set_option linter.unusedSimpArgs false
/-- The first bytes of a new digest. -/
theorem etakes_first (A : Option Addr) (c : Nat) (l : List Int) (g : Nat) (s : Int) (w1 : World) (hr : ReadsInt w1 .u8 A l.length l) (hb : Bytes l) (hl : l.length ≤ 140737488355327) (hd : IsE w1 g (.slice none 0 0) 0 s (X.init64 s)) :
    Calls Try.prog 56 #[.pointer (some ⟨g, 0, none⟩), .slice A l.length c] w1 fun e w' => e = .returned (.tuple #[]) ∧ ∃ A' c', IsE w' g (.slice A' (X.rest 32 l).length c') (l.length : Int) s (X.run64 (l.length / 32) (X.init64 s) l) ∧
      Waits w' g A' (X.rest 32 l).length c' (X.rest 32 l) ∧ Fr w1 w' (fun i => i ≠ g) := by
  have h := etakes_calls A c l [] g w1.heap.size 0 (.slice none 0 0) s (X.init64 s) w1 hr hb hd (own_nil _ _ _ _) (Nat.le_refl _) (by rw [List.length_nil, Nat.zero_add]; exact hl) (Nat.zero_le _)
  rw [List.nil_append, Nat.zero_add] at h
  refine h.mono fun e w' ⟨he, rv, hd2, ho2, hf2⟩ => ⟨he, ?_⟩
  obtain ⟨A2, c2, rfl, hw2⟩ := own_waits (g := g) ho2
  exact ⟨A2, c2, hd2, hw2, hf2.mono (fun i _ hi => ⟨hi, by simp [Value.ownBlock]⟩)⟩

set_option maxHeartbeats 1000000 in
set_option maxRecDepth 100000 in
theorem Sum64_calls (A : Option Addr) (c : Nat) (l : List Int) (s : Int) (w : World) (hr : ReadsInt w .u8 A l.length l) (hb : Bytes l) (hs : W64 s) (hl : l.length ≤ 140737488355327) :
    Calls Try.prog 22 #[.int .u64 s, .slice A l.length c] w fun e w' => e = .returned (.int .u64 (X.sum64 s l)) ∧ Below w.heap.size w w' := by
  have H1 := Aside0.mk (ebegun_calls s w hs.1 hs.2)
  have HR := Aside0.mk hr
  have HL := Aside0.mk hl
  have HS := Aside0.mk hs
  have HB0 := Aside0.mk hb
  clear hr hs hl hb
  go_enter Try.func22, Try.ntmps22
  go_wp2_with fail
  refine H1.out.mono ?_
  rintro e w1 ⟨rfl, hd1, hb1⟩
  have HB1 := Aside0.mk hb1
  have HT := Aside0.mk (etakes_first A c l w.heap.size s w1 (HR.out.below hb1) HB0.out HL.out hd1)
  clear hd1 hb1
  go_wp2_with fail
  refine HT.out.mono ?_
  rintro e w2 ⟨rfl, A2, c2, hd2, hw2, hf2⟩
  have HF2 := Aside0.mk hf2
  have HQ := Aside0.mk (esum_calls A2 c2 w.heap.size l.length (X.rest 32 l) s (X.run64 (l.length / 32) (X.init64 s) l) w2 hd2 hw2.1 hw2.2 (bytes_rest HB0.out 32) (egood_run _ _ _ (egood_init s HS.out)) HS.out (Nat.le_trans HL.out (by decide)) (Nat.le_trans (rest_le _ _) HL.out))
  rw [show X.tail64 ((X.head64 l.length s (X.run64 (l.length / 32) (X.init64 s) l) + (l.length : Int)) % 18446744073709551616) (X.rest 32 l) = X.sum64 s l from rfl] at HQ
  clear hd2 hf2 hw2
  go_wp2_with fail
  refine HQ.out.mono ?_
  rintro e w3 ⟨rfl, m, rfl⟩
  go_wp2
  go_ret
  exact ⟨rfl, pw_below_drewN (HB1.out.trans (HF2.out.below (B := w.heap.size) (fun i hi => ⟨Nat.lt_of_lt_of_le hi HB1.out.size, Nat.ne_of_lt hi⟩))) m⟩
end Go.Proofs.Ytnkcbkfccbfjpaa.XxhW
/- Contracts of the reference's rot64, round and low64. Conditions: the count lies between 1 and 63, words are words, bytes are bytes. -/
namespace Go.Proofs.Ytnkcbkfccbfjpaa.XxhW
open Go.RowKit Go.Proofs.YtnkcbkfccbfjpaaW.PrintWords Go.Proofs.YtnkcbkfccbfjpaaW.PrintLast Go.Proofs.YtnkcbkfccbfjpaaW.PrintMore
set_option linter.unusedVariables false
set_option linter.unusedSimpArgs false
theorem rrot64_calls (x k : Int) (w : World) (h0 : 0 < k) (h1 : k < 64) (h2 : 0 ≤ x) (h3 : x < 18446744073709551616) :
    Calls Try.prog 62 #[.int .u64 x, .int .i64 k] w fun e w' => e = .returned (.int .u64 (X.rot64 x k.toNat)) ∧ ∃ m, w' = w.drewN m := by
  have hk0 : 0 ≤ k := by omega
  have hs : IntKind.i64.wrap (64 - k) = 64 - k := IntWalk.i64_in _ ⟨by omega, by omega⟩
  have HT := Aside0.mk (show (64 - k).toNat = 64 - k.toNat by omega)
  have HE := Aside0.mk (rot64_range x k.toNat (by omega) ⟨h2, h3⟩)
  go_enter Try.func62, Try.ntmps62
  go_wp2
  go_quiet (fail)
  go_wp2
  go_ret
  refine ⟨congrArg (fun z => Ending.returned (.int .u64 z)) ?_, _, rfl⟩
  have h := HE.out
  have hT := HT.out
  unfold X.rot64 at h ⊢
  obtain ⟨h4, h5⟩ := h
  rw [← hT] at h4 h5 ⊢
  simp only [u64_mod]
  exact Int.emod_eq_of_lt h4 h5
theorem rround_calls (v x : Int) (w : World) :
    Calls Try.prog 60 #[.int .u64 v, .int .u64 x] w fun e w' => e = .returned (.int .u64 (X.round64 v x)) ∧ ∃ m, w' = w.drewN m := by
  go_enter Try.func60, Try.ntmps60
  go_wp2_with (first | (go_at_call 62; refine (rrot64_calls _ 31 _ (by decide) (by decide) (u64_range _).1 (u64_range _).2).mono ?_; rintro e w' ⟨rfl, m, rfl⟩))
  go_ret
  refine ⟨congrArg (fun z => Ending.returned (.int .u64 z)) ?_, _, rfl⟩
  simp only [u64_mod, X.round64]
  rw [show (v + x * 14029467366897019727 % 18446744073709551616) % 18446744073709551616 = (v + x * 14029467366897019727) % 18446744073709551616 by omega]

set_option maxHeartbeats 2000000 in
set_option maxRecDepth 100000 in
theorem low64_calls (ad : Addr) (n c : Nat) (l : List Int) (w : World) (hr : Rd w ad l) (hn : n = l.length) (h8 : 8 ≤ l.length) (hc : n ≤ c) (hs : l.length ≤ 140737488355327) (hb : Bytes l) :
    Calls Try.prog 61 #[.slice (some ad) n c] w fun e w' => e = .returned (.int .u64 (X.le64 l)) ∧ ∃ m, w' = w.drewN m := by
  subst hn
  have h4' : (4 : Int) ≤ (c : Int) := by omega
  have n4 : ¬ c = 4 := by omega
  have l4 : (4 : Int) ≤ (l.length : Int) := by omega
  have hr4 : Rd w ⟨ad.block, ad.off + 4, none⟩ (l.drop 4) := by
    have := hr.drop 4
    rwa [add_pos _ _ (by omega)] at this
  obtain ⟨p0, q0⟩ := le32_range l hb
  obtain ⟨p1, q1⟩ := le32_range (l.drop 4) (hb.drop 4)
  have G0 := fun m => low32_calls ad l.length c l (w.drewN m) (hr.drewN m) rfl (by omega) hb
  have G4 := fun m => low32_calls ⟨ad.block, ad.off + 4, none⟩ (l.length - 4) (c - 4) (l.drop 4) (w.drewN m) (hr4.drewN m) (by simp) (by simp; omega) (hb.drop 4)
  clear hr hr4 hb
  go_enter Try.func61, Try.ntmps61
  go_wp2
  go_quiet (first | (go_at_call 59; with_reducible exact Calls.quiet_of (G0 _)) | (go_at_call 59; with_reducible exact Calls.quiet_of (G4 _)))
  go_wp2
  go_ret
  refine ⟨congrArg (fun z => Ending.returned (.int .u64 z)) ?_, _, rfl⟩
  unfold X.le64
  first | rfl | (simp only [u64_mod]; omega)
end Go.Proofs.Ytnkcbkfccbfjpaa.XxhW
/- Contract of the reference's Sum64: the sum of 64 bits as a plain function of the seed and the bytes. Conditions: the seed is a word of 64 bits, bytes are bytes, fewer than 2^47 of them. -/
namespace Go.Proofs.Ytnkcbkfccbfjpaa.XxhW
open Go.RowKit Go.Proofs.YtnkcbkfccbfjpaaW.PrintWords Go.Proofs.YtnkcbkfccbfjpaaW.PrintLast Go.Proofs.YtnkcbkfccbfjpaaW.PrintMore
set_option linter.unusedVariables false
set_option linter.unusedSimpArgs false
/-- Four words in an array at block g. -/
def IsU (w : World) (g : Nat) (v : X.V4) : Prop := w.heap[g]? = some (.cells #[.int .u64 v.a, .int .u64 v.b, .int .u64 v.c, .int .u64 v.d] 97 (0, 0))
theorem IsU.at {w : World} {g : Nat} {v : X.V4} (h : IsU w g v) (i : Nat) (u : Value) (hu : (#[.int .u64 v.a, .int .u64 v.b, .int .u64 v.c, .int .u64 v.d] : Array Value)[i]? = some u) :
    w.cell? ⟨g, i, none⟩ = some u ∧ w.frozen? ⟨g, i, none⟩ = false := ⟨(cell_of_row w g i _ 97 (0, 0) h).trans hu, blk_frozen h i⟩
theorem apart_U {w : World} {ad : Addr} {n g : Nat} {v : X.V4} {l : List Int} (hr : ReadsInt w .u8 (some ad) n l) (h0 : 0 < n) (hd : IsU w g v) : ad.block ≠ g :=
  apart_of_reads hr h0 hd (fun o k z h => by
    rcases o with _ | _ | _ | _ | o <;> simp at h
    all_goals (obtain ⟨rfl, _⟩ := h; decide))
theorem esmall_rest (l : List Int) (h : l.length < 32) : X.rest 32 l = l := by unfold X.rest; rw [Nat.div_eq_of_lt h]; rfl

set_option maxHeartbeats 16000000 in
set_option maxRecDepth 100000 in
theorem rSum64_calls (A : Option Addr) (c : Nat) (l : List Int) (s : Int) (w : World) (hr : ReadsInt w .u8 A l.length l) (hlc : l.length ≤ c) (hb : Bytes l) (hs : W64 s) (hl : l.length ≤ 140737488355327) :
    Calls Try.prog 24 #[.int .u64 s, .slice A l.length c] w fun e w' => e = .returned (.int .u64 (X.sum64 s l)) ∧ Below w.heap.size w w' := by
  have HR := Aside0.mk hr
  have HB := Aside0.mk hb
  have HS := Aside0.mk hs
  obtain ⟨hs0, hs1⟩ := hs
  clear hr hb
  have hl0 : (0 : Int) ≤ (l.length : Int) := by omega
  have hl1 : (l.length : Int) ≤ 140737488355327 := by omega
  obtain ⟨i05, hi05, _, hsz5, _⟩ := info_parts info5
  go_enter Try.func24, Try.ntmps24
  go_upto_if 15 with (fail)
  go_cut [5, 6] (fun v5 v6 wc => v5 = .int .u64 (X.head64 l.length s (X.run64 (l.length / 32) (X.init64 s) l)) ∧ ∃ (A' : Option Addr) (c' : Nat), v6 = .slice A' (X.rest 32 l).length c' ∧ Aside0 (ReadsInt wc .u8 A' (X.rest 32 l).length (X.rest 32 l)) ∧ (X.rest 32 l).length ≤ c' ∧ Aside0 (Below w.heap.size w wc))
  case first =>
    by_cases hbig : 32 ≤ l.length
    · have hbig' : (32 : Int) ≤ (l.length : Int) := by omega
      have HH := Aside0.mk (show X.head64 l.length s (X.run64 (l.length / 32) (X.init64 s) l) = X.merge64 (X.run64 (l.length / 32) (X.init64 s) l) from if_pos hbig)
      go_upto_region 4 with (fail)
      go_cut [6, 7] (fun v6 v7 wc => v6 = .slice A l.length c ∧ v7 = .pointer (some ⟨w.heap.size, 0, none⟩) ∧ Aside0 (IsU wc w.heap.size (X.init64 s)) ∧ Aside0 (Below w.heap.size w wc))
      case first =>
        go_wp2
        go_meet
        case rel =>
          refine ⟨rfl, rfl, ⟨?_⟩, ⟨below_alloc (Below.refl _ _) _⟩⟩
          have := heap_alloc_new w (.cells #[.int .u64 (X.init64 s).a, .int .u64 (X.init64 s).b, .int .u64 (X.init64 s).c, .int .u64 (X.init64 s).d] 97)
          simp only [u64_mod]
          simpa [IsU, X.init64] using this
      case rest =>
      obtain ⟨rfl, rfl, HV0, HB0⟩ := hcut
      go_wp2
      go_loopg [6] (l.length / 32) (fun kq v6 wd => ∃ (j : Nat) (A' : Option Addr) (c' : Nat) (v : X.V4), kq + j = l.length / 32 ∧ v6 = .slice A' (l.length - 32 * j) c' ∧ Aside0 (v = X.run64 j (X.init64 s) l) ∧ Aside0 (IsU wd w.heap.size v) ∧
        Aside0 (ReadsInt wd .u8 A' (l.length - 32 * j) (l.drop (32 * j))) ∧ l.length - 32 * j ≤ c' ∧ Aside0 (Below w.heap.size w wd))
      case atStart => exact ⟨0, A, c, _, by omega, rfl, ⟨rfl⟩, HV0, ⟨HR.out.below HB0.out⟩, by simpa using hlc, HB0⟩
      case round =>
        clear HV0 HB0
        obtain ⟨j, A', c', v, hk, rfl, HE, HD, HA, hnc, HBW⟩ := hrel
        obtain ⟨L, eL⟩ : ∃ L, L = l.drop (32 * j) := ⟨_, rfl⟩
        have eLl : l.length - 32 * j = L.length := by rw [eL]; simp
        rw [eLl] at HA hnc ⊢
        rw [← eL] at HA
        have HeL := Aside0.mk eL
        have HeLl := Aside0.mk eLl
        have Hk := Aside0.mk hk
        have HLb := Aside0.mk (show Bytes L by rw [eL]; exact HB.out.drop _)
        have hLs : L.length ≤ 140737488355327 := by omega
        have HvG := Aside0.mk (show Egood v by rw [HE.out]; exact egood_run _ _ _ (egood_init s HS.out))
        clear eL eLl hk
        cases gk with
        | zero =>
          have hlt : (L.length : Int) < 32 := by have := HeLl.out; have := Hk.out; have := Nat.div_add_mod l.length 32; have := Nat.mod_lt l.length (show 0 < 32 by decide); omega
          have x0 := (IsU.at HD.out 0 (.int .u64 v.a) rfl).1
          have x1 := (IsU.at HD.out 1 (.int .u64 v.b) rfl).1
          have x2 := (IsU.at HD.out 2 (.int .u64 v.c) rfl).1
          have x3 := (IsU.at HD.out 3 (.int .u64 v.d) rfl).1
          go_wp2
          go_quiet (first | (go_at_call 62; exact Calls.quiet_of (rrot64_calls _ _ _ (by decide) (by decide) HvG.out.a.1 HvG.out.a.2)) | (go_at_call 62; exact Calls.quiet_of (rrot64_calls _ _ _ (by decide) (by decide) HvG.out.b.1 HvG.out.b.2)) | (go_at_call 62; exact Calls.quiet_of (rrot64_calls _ _ _ (by decide) (by decide) HvG.out.c.1 HvG.out.c.2)) | (go_at_call 62; exact Calls.quiet_of (rrot64_calls _ _ _ (by decide) (by decide) HvG.out.d.1 HvG.out.d.2)))
          go_wp2
          refine wp_loop_rounds 5 ?_
          rw [rounds_succ]
          go_wp2_with (first | (go_at_call 60; refine (rround_calls _ _ _).mono ?_; rintro e w' ⟨rfl, m0, rfl⟩))
          rw [rounds_succ]
          go_wp2_with (first | (go_at_call 60; refine (rround_calls _ _ _).mono ?_; rintro e w' ⟨rfl, m1, rfl⟩))
          rw [rounds_succ]
          go_wp2_with (first | (go_at_call 60; refine (rround_calls _ _ _).mono ?_; rintro e w' ⟨rfl, m2, rfl⟩))
          rw [rounds_succ]
          go_wp2_with (first | (go_at_call 60; refine (rround_calls _ _ _).mono ?_; rintro e w' ⟨rfl, m3, rfl⟩))
          rw [rounds_succ]
          go_wp2
          go_meet
          case rel =>
            have ej : j = l.length / 32 := by have := Hk.out; omega
            have er : X.rest 32 l = L := by rw [X.rest, ← ej]; exact HeL.out.symm
            rw [er]
            refine ⟨congrArg (Value.int .u64) ?_, A', c', rfl, ⟨reads_drawn HA.out _⟩, hnc, ⟨pw_below_drewN HBW.out _⟩⟩
            rw [HH.out, ← ej, ← HE.out]
            simp only [u64_mod, X.merge64, X.fold64, Int.emod_add_emod]
        | succ k1 =>
          have hge : 32 ≤ L.length := by have := HeLl.out; have := Hk.out; have := Nat.div_mul_le_self l.length 32; omega
          have hge' : (32 : Int) ≤ (L.length : Int) := by omega
          obtain ⟨ad, rfl, _⟩ := HA.out.2.2 (by omega)
          have hag : ad.block ≠ w.heap.size := apart_U HA.out (by omega) HD.out
          have hc16 : (32 : Int) ≤ (c' : Int) := by omega
          have n4 : ¬ c' = 8 := by omega
          have n8 : ¬ c' = 16 := by omega
          have n12 : ¬ c' = 24 := by omega
          have z0 : IntKind.i64.wrap 0 = 0 := by decide
          have z4 : IntKind.i64.wrap 8 = 8 := by decide
          have z8 : IntKind.i64.wrap 16 = 16 := by decide
          have z12 : IntKind.i64.wrap 24 = 24 := by decide
          have m4 : (8 : Int) ≤ (L.length : Int) := by omega
          have m8 : (16 : Int) ≤ (L.length : Int) := by omega
          have m12 : (24 : Int) ≤ (L.length : Int) := by omega
          obtain ⟨A1, hcut, hA1⟩ := print_cut (P := Try.prog) 22 5 .i64 Try.underlying22 hi05 hsz5 (some ad) L.length c' 32 hge
          have HA1 := Aside0.mk hA1
          have hcut' : ∀ W : World, (Instr.slice 22 (.slice (some ad) L.length c') (some (.int .i64 32)) none none).run Try.prog W = .ok (.slice A1 (L.length - 32) (c' - 32)) W := hcut
          have HG := Aside0.mk (World.grownBy.refl wr (some w.heap.size))
          have R0 := Aside0.mk (rd_of_reads HA.out)
          have hG := fun m => low64_calls ad L.length c' L (wr.drewN m) (R0.out.drewN m) rfl (by omega) hnc hLs HLb.out
          obtain ⟨x0, f0⟩ := IsU.at HD.out 0 _ rfl
          have HDr := HD
          clear hA1 hcut
          go_wp2
          refine wp_loop_rounds 5 ?_
          rw [rounds_succ]
          go_wp2
          refine QTail.wp_region_tail (C := fun w' => ∃ n, w' = wr.drewN n) 10 (by kernel_rfl) (by kernel_rfl) ⟨1, rfl⟩ ?_
          simp only [List.take_succ_cons, List.take_zero, List.drop_succ_cons, List.drop_zero]
          repeat (quiet_step (first | (go_at_call 61; with_reducible exact Calls.quiet_of (hG _)) | (go_at_call 60; exact Calls.quiet_of (rround_calls _ _ _))))
          refine wpQuiet_nil ?_
          intro _ hw'
          obtain ⟨nq, hw''⟩ := hw'
          subst hw''
          clear hG
          go_wp2
          obtain ⟨w1, hw1⟩ : ∃ z, z = (wr.drewN nq).setCell ⟨w.heap.size, 0, none⟩ (.int .u64 (X.round64 v.a (X.le64 L))) := ⟨_, rfl⟩
          have P1 := put_world HD.out nq 0 (.int .u64 (X.round64 v.a (X.le64 L)))
          rw [← hw1] at P1
          rw [← hw1]
          clear hw1
          obtain ⟨D1, K1, G1⟩ := P1
          have HD1 := Aside0.mk (show IsU w1 w.heap.size ⟨X.round64 v.a (X.le64 L), v.b, v.c, v.d⟩ from D1)
          have HG1 := Aside0.mk (grown_then HG.out G1)
          have r1 := Aside0.mk (Rd.of_cells R0.out (fun p hp => K1 p (by rw [hp]; exact hag)))
          clear x0 f0 D1 K1 G1 HD HG
          have HD := HD1
          have HG := HG1
          have R1 := r1
          clear HD1 HG1 r1 R0
          obtain ⟨x0, f0⟩ := IsU.at HD.out 1 _ rfl
          have hr1 : Rd w1 ⟨ad.block, ad.off + 8, none⟩ (L.drop 8) := by
            have := R1.out.drop 8
            rwa [add_pos _ _ (by omega)] at this
          have hG := fun m => low64_calls ⟨ad.block, ad.off + 8, none⟩ (L.length - 8) (c' - 8) (L.drop 8) (w1.drewN m) (hr1.drewN m) (by simp) (by simp; omega) (by omega) (by simp; omega) (HLb.out.drop 8)
          clear hr1
          rw [rounds_succ]
          go_wp2
          refine QTail.wp_region_tail (C := fun w' => ∃ n, w' = w1.drewN n) 10 (by kernel_rfl) (by kernel_rfl) ⟨1, rfl⟩ ?_
          simp only [List.take_succ_cons, List.take_zero, List.drop_succ_cons, List.drop_zero]
          repeat (quiet_step (first | (go_at_call 61; with_reducible exact Calls.quiet_of (hG _)) | (go_at_call 60; exact Calls.quiet_of (rround_calls _ _ _))))
          refine wpQuiet_nil ?_
          intro _ hw'
          obtain ⟨nq, hw''⟩ := hw'
          subst hw''
          clear hG
          go_wp2
          obtain ⟨w2, hw2⟩ : ∃ z, z = (w1.drewN nq).setCell ⟨w.heap.size, 1, none⟩ (.int .u64 (X.round64 v.b (X.le64 (L.drop 8)))) := ⟨_, rfl⟩
          have P2 := put_world HD.out nq 1 (.int .u64 (X.round64 v.b (X.le64 (L.drop 8))))
          rw [← hw2] at P2
          rw [← hw2]
          clear hw2
          obtain ⟨D2, K2, G2⟩ := P2
          have HD2 := Aside0.mk (show IsU w2 w.heap.size ⟨X.round64 v.a (X.le64 L), X.round64 v.b (X.le64 (L.drop 8)), v.c, v.d⟩ from D2)
          have HG2 := Aside0.mk (grown_then HG.out G2)
          have r2 := Aside0.mk (Rd.of_cells R1.out (fun p hp => K2 p (by rw [hp]; exact hag)))
          clear x0 f0 D2 K2 G2 HD HG
          have HD := HD2
          have HG := HG2
          have R2 := r2
          clear HD2 HG2 r2 R1
          obtain ⟨x0, f0⟩ := IsU.at HD.out 2 _ rfl
          have hr2 : Rd w2 ⟨ad.block, ad.off + 16, none⟩ (L.drop 16) := by
            have := R2.out.drop 16
            rwa [add_pos _ _ (by omega)] at this
          have hG := fun m => low64_calls ⟨ad.block, ad.off + 16, none⟩ (L.length - 16) (c' - 16) (L.drop 16) (w2.drewN m) (hr2.drewN m) (by simp) (by simp; omega) (by omega) (by simp; omega) (HLb.out.drop 16)
          clear hr2
          rw [rounds_succ]
          go_wp2
          refine QTail.wp_region_tail (C := fun w' => ∃ n, w' = w2.drewN n) 10 (by kernel_rfl) (by kernel_rfl) ⟨1, rfl⟩ ?_
          simp only [List.take_succ_cons, List.take_zero, List.drop_succ_cons, List.drop_zero]
          repeat (quiet_step (first | (go_at_call 61; with_reducible exact Calls.quiet_of (hG _)) | (go_at_call 60; exact Calls.quiet_of (rround_calls _ _ _))))
          refine wpQuiet_nil ?_
          intro _ hw'
          obtain ⟨nq, hw''⟩ := hw'
          subst hw''
          clear hG
          go_wp2
          obtain ⟨w3, hw3⟩ : ∃ z, z = (w2.drewN nq).setCell ⟨w.heap.size, 2, none⟩ (.int .u64 (X.round64 v.c (X.le64 (L.drop 16)))) := ⟨_, rfl⟩
          have P3 := put_world HD.out nq 2 (.int .u64 (X.round64 v.c (X.le64 (L.drop 16))))
          rw [← hw3] at P3
          rw [← hw3]
          clear hw3
          obtain ⟨D3, K3, G3⟩ := P3
          have HD3 := Aside0.mk (show IsU w3 w.heap.size ⟨X.round64 v.a (X.le64 L), X.round64 v.b (X.le64 (L.drop 8)), X.round64 v.c (X.le64 (L.drop 16)), v.d⟩ from D3)
          have HG3 := Aside0.mk (grown_then HG.out G3)
          have r3 := Aside0.mk (Rd.of_cells R2.out (fun p hp => K3 p (by rw [hp]; exact hag)))
          clear x0 f0 D3 K3 G3 HD HG
          have HD := HD3
          have HG := HG3
          have R3 := r3
          clear HD3 HG3 r3 R2
          obtain ⟨x0, f0⟩ := IsU.at HD.out 3 _ rfl
          have hr3 : Rd w3 ⟨ad.block, ad.off + 24, none⟩ (L.drop 24) := by
            have := R3.out.drop 24
            rwa [add_pos _ _ (by omega)] at this
          have hG := fun m => low64_calls ⟨ad.block, ad.off + 24, none⟩ (L.length - 24) (c' - 24) (L.drop 24) (w3.drewN m) (hr3.drewN m) (by simp) (by simp; omega) (by omega) (by simp; omega) (HLb.out.drop 24)
          clear hr3
          rw [rounds_succ]
          go_wp2
          refine QTail.wp_region_tail (C := fun w' => ∃ n, w' = w3.drewN n) 10 (by kernel_rfl) (by kernel_rfl) ⟨1, rfl⟩ ?_
          simp only [List.take_succ_cons, List.take_zero, List.drop_succ_cons, List.drop_zero]
          repeat (quiet_step (first | (go_at_call 61; with_reducible exact Calls.quiet_of (hG _)) | (go_at_call 60; exact Calls.quiet_of (rround_calls _ _ _))))
          refine wpQuiet_nil ?_
          intro _ hw'
          obtain ⟨nq, hw''⟩ := hw'
          subst hw''
          clear hG
          go_wp2
          obtain ⟨w4, hw4⟩ : ∃ z, z = (w3.drewN nq).setCell ⟨w.heap.size, 3, none⟩ (.int .u64 (X.round64 v.d (X.le64 (L.drop 24)))) := ⟨_, rfl⟩
          have P4 := put_world HD.out nq 3 (.int .u64 (X.round64 v.d (X.le64 (L.drop 24))))
          rw [← hw4] at P4
          rw [← hw4]
          clear hw4
          obtain ⟨D4, K4, G4⟩ := P4
          have HD4 := Aside0.mk (show IsU w4 w.heap.size ⟨X.round64 v.a (X.le64 L), X.round64 v.b (X.le64 (L.drop 8)), X.round64 v.c (X.le64 (L.drop 16)), X.round64 v.d (X.le64 (L.drop 24))⟩ from D4)
          have HG4 := Aside0.mk (grown_then HG.out G4)
          have r4 := Aside0.mk (Rd.of_cells R3.out (fun p hp => K4 p (by rw [hp]; exact hag)))
          clear x0 f0 D4 K4 G4 HD HG
          have HD := HD4
          have HG := HG4
          have R4 := r4
          clear HD4 HG4 r4 R3
          rw [rounds_succ]
          go_wp2
          go_roundg k1
          case measure => omega
          case rel =>
            have e1 : l.length - 32 * (j + 1) = L.length - 32 := by have := HeLl.out; omega
            have F4 := Fr.of_grown HG.out
            refine ⟨j + 1, A1, c' - 32, _, by have := Hk.out; omega, by rw [e1], ⟨?_⟩, HD, ⟨?_⟩, by omega, ⟨?_⟩⟩
            · rw [erun_snoc, ← HeL.out, ← HE.out]; rfl
            · rw [e1, show l.drop (32 * (j + 1)) = L.drop 32 by rw [HeL.out, List.drop_drop, Nat.mul_succ]]
              have q := HA1.out _ _ _ hnc HA.out
              exact reads_fr F4 q (fun ad' e h0 h => apart_U (e ▸ q) h0 HDr.out (by injection h))
            · exact HBW.out.grown HG.out HBW.out.size (fun k hk => by injection hk with hk; omega)
    · have hbig' : (l.length : Int) < 32 := by omega
      have HH := Aside0.mk (show X.head64 l.length s (X.run64 (l.length / 32) (X.init64 s) l) = (s + 2870177450012600261) % 18446744073709551616 from if_neg hbig)
      have HZ := Aside0.mk (esmall_rest l (by omega))
      go_wp2
      go_meet
      case rel => exact ⟨by rw [HH.out, u64_mod], A, c, by rw [HZ.out], ⟨by rw [HZ.out]; exact HR.out⟩, by rw [HZ.out]; exact hlc, ⟨Below.refl _ _⟩⟩
  case rest =>
    obtain ⟨rfl, A2, c2, rfl, HR2, hc2, HB2⟩ := hcut
    obtain ⟨r, er⟩ : ∃ r, r = X.rest 32 l := ⟨_, rfl⟩
    rw [← er] at HR2 hc2 ⊢
    have Hr := Aside0.mk er
    have hrl : r.length ≤ 140737488355327 := by rw [er]; exact Nat.le_trans (rest_le _ _) hl
    have Hrb := Aside0.mk (show Bytes r by rw [er]; exact bytes_rest HB.out 32)
    clear er
    obtain ⟨h1, eh1⟩ : ∃ z, z = (X.head64 l.length s (X.run64 (l.length / 32) (X.init64 s) l) + (l.length : Int)) % 18446744073709551616 := ⟨_, rfl⟩
    have Hh := Aside0.mk eh1
    have Hw := Aside0.mk (show W64 h1 by rw [eh1]; exact w64_mod _)
    have HT := Aside0.mk (show X.sum64 s l = X.tail64 h1 r by rw [eh1, Hr.out]; rfl)
    clear eh1
    go_upto_region 16 with (fail)
    go_cut [5] (fun v5 wd => v5 = .int .u64 h1 ∧ wd = wc)
    case first =>
      go_wp2
      go_meet
      case rel => exact ⟨congrArg (Value.int .u64) (by rw [Hh.out, u64_mod]), rfl⟩
    case rest =>
    obtain ⟨rfl, rfl⟩ := hcut
    go_upto_block 6 with (fail)
    go_cut [5, 6] (fun v5 v6 we => ∃ (A' : Option Addr) (c' : Nat), v5 = .int .u64 (X.words64 (r.length / 8) h1 r) ∧ v6 = .slice A' (X.rest 8 r).length c' ∧ Aside0 (ReadsInt wc .u8 A' (X.rest 8 r).length (X.rest 8 r)) ∧ (X.rest 8 r).length ≤ c' ∧ ∃ m, we = wc.drewN m)
    case first =>
      go_wp2
      go_loopg [5, 6] (r.length / 8) (fun kq v5 v6 we => ∃ (j : Nat) (A' : Option Addr) (c' : Nat) (h : Int), kq + j = r.length / 8 ∧ v5 = .int .u64 h ∧ Aside0 (h = X.words64 j h1 r) ∧ v6 = .slice A' (r.length - 8 * j) c' ∧
        Aside0 (ReadsInt wc .u8 A' (r.length - 8 * j) (r.drop (8 * j))) ∧ r.length - 8 * j ≤ c' ∧ ∃ m, we = wc.drewN m)
      case atStart => exact ⟨0, A2, c2, h1, by omega, rfl, ⟨rfl⟩, rfl, HR2, by simpa using hc2, 0, rfl⟩
      case round =>
        obtain ⟨j, A', c', h, hk, rfl, HE, rfl, HA, hnc, m, rfl⟩ := hrel
        obtain ⟨L, eL⟩ : ∃ L, L = r.drop (8 * j) := ⟨_, rfl⟩
        have eLl : r.length - 8 * j = L.length := by rw [eL]; simp
        rw [eLl] at HA hnc ⊢
        rw [← eL] at HA
        have HeL := Aside0.mk eL
        have HeLl := Aside0.mk eLl
        have Hk := Aside0.mk hk
        have HLb := Aside0.mk (show Bytes L by rw [eL]; exact Hrb.out.drop _)
        have hLs : L.length ≤ 140737488355327 := by omega
        have hW := ewords_range j h1 r Hw.out
        rw [← HE.out] at hW
        clear eL eLl hk
        cases gk with
        | zero =>
          have hlt : (L.length : Int) < 8 := by have := HeLl.out; have := Hk.out; have := Nat.div_add_mod r.length 8; have := Nat.mod_lt r.length (show 0 < 8 by decide); omega
          go_wp2
          go_meet
          case rel =>
            have ej : j = r.length / 8 := by have := Hk.out; omega
            have er : X.rest 8 r = L := by rw [X.rest, ← ej]; exact HeL.out.symm
            rw [er, ← ej]
            exact ⟨A', c', by rw [HE.out], rfl, HA, hnc, _, rfl⟩
        | succ k1 =>
          have hge : 8 ≤ L.length := by have := HeLl.out; have := Hk.out; have := Nat.div_mul_le_self r.length 8; omega
          have hge' : (8 : Int) ≤ (L.length : Int) := by omega
          obtain ⟨ad, rfl, _⟩ := HA.out.2.2 (by omega)
          obtain ⟨A1, hcut, hA1⟩ := print_cut (P := Try.prog) 22 5 .i64 Try.underlying22 hi05 hsz5 (some ad) L.length c' 8 hge
          have HA1 := Aside0.mk hA1
          have hcut' : ∀ W : World, (Instr.slice 22 (.slice (some ad) L.length c') (some (.int .i64 8)) none none).run Try.prog W = .ok (.slice A1 (L.length - 8) (c' - 8)) W := hcut
          clear hA1 hcut
          go_wp2_with (first | (go_at_call 61; refine (low64_calls ad L.length c' L _ ((rd_of_reads HA.out).drewN _) rfl hge hnc hLs HLb.out).mono ?_; rintro e w' ⟨rfl, m', rfl⟩) | (go_at_call 60; refine (rround_calls _ _ _).mono ?_; rintro e w' ⟨rfl, mm, rfl⟩) | (go_at_call 62; refine (rrot64_calls _ 27 _ (by decide) (by decide) (xor64_range _ _ hW (round64_range _ _)).1 (xor64_range _ _ hW (round64_range _ _)).2).mono ?_; rintro e w' ⟨rfl, mm, rfl⟩))
          go_roundg k1
          case measure => omega
          case rel =>
            have e1 : r.length - 8 * (j + 1) = L.length - 8 := by have := HeLl.out; omega
            refine ⟨j + 1, A1, c' - 8, _, by have := Hk.out; omega, rfl, ⟨?_⟩, by rw [e1], ⟨?_⟩, by omega, _, rfl⟩
            · rw [ewords_snoc, ← HeL.out, ← HE.out]
              simp only [u64_mod, X.word64, Int.emod_add_emod]
              first | done | rfl
            · rw [e1, show r.drop (8 * (j + 1)) = L.drop 8 by rw [HeL.out, List.drop_drop, Nat.mul_succ]]
              exact HA1.out _ _ _ hnc HA.out
    case rest =>
    obtain ⟨A5, c5, rfl, rfl, HA5, hn5, m5, rfl⟩ := hcut
    obtain ⟨h2, eh2⟩ : ∃ z, z = X.words64 (r.length / 8) h1 r := ⟨_, rfl⟩
    obtain ⟨q, eq⟩ : ∃ z, z = X.rest 8 r := ⟨_, rfl⟩
    have HGG := Aside0.mk (show X.sum64 s l = X.fin64 (X.bytes64 (X.mid64 h2 q) (X.rest64 q)) by rw [HT.out, eh2, eq]; rfl)
    have Hw2 : W64 h2 := by rw [eh2]; exact ewords_range _ _ _ Hw.out
    have HRb := Aside0.mk (show Bytes q by rw [eq]; exact Hrb.out.drop _)
    have hql : q.length ≤ 140737488355327 := by rw [eq]; exact Nat.le_trans (rest_le _ _) hrl
    rw [← eq] at HA5 hn5 ⊢
    rw [← eh2]
    clear eq eh2
    go_upto_if 92 with (fail)
    go_cut [5, 6] (fun v5 v6 we => ∃ (A' : Option Addr) (c' : Nat), v5 = .int .u64 (X.mid64 h2 q) ∧ v6 = .slice A' (X.rest64 q).length c' ∧ Aside0 (ReadsInt wc .u8 A' (X.rest64 q).length (X.rest64 q)) ∧ (X.rest64 q).length ≤ c' ∧ ∃ m, we = wc.drewN m)
    case first =>
      by_cases h4 : 4 ≤ q.length
      · have h4' : (4 : Int) ≤ (q.length : Int) := by omega
        have HM := Aside0.mk (show X.mid64 h2 q = X.half64 h2 (X.le32 q) ∧ X.rest64 q = q.drop 4 from ⟨if_pos h4, if_pos h4⟩)
        obtain ⟨ad, rfl, _⟩ := HA5.out.2.2 (by omega)
        obtain ⟨A1, hcut, hA1⟩ := print_cut (P := Try.prog) 22 5 .i64 Try.underlying22 hi05 hsz5 (some ad) q.length c5 4 h4
        have HA1 := Aside0.mk hA1
        have hcut' : ∀ W : World, (Instr.slice 22 (.slice (some ad) q.length c5) (some (.int .i64 4)) none none).run Try.prog W = .ok (.slice A1 (q.length - 4) (c5 - 4)) W := hcut
        obtain ⟨p0, q0⟩ := le32_range q HRb.out
        clear hA1 hcut
        go_wp2_with (first | (go_at_call 59; refine (low32_calls ad q.length c5 q _ ((rd_of_reads HA5.out).drewN _) rfl h4 HRb.out).mono ?_; rintro e w' ⟨rfl, m', rfl⟩) | (go_at_call 62; refine (rrot64_calls _ 23 _ (by decide) (by decide) (xor64_range _ _ Hw2 (u64_range _)).1 (xor64_range _ _ Hw2 (u64_range _)).2).mono ?_; rintro e w' ⟨rfl, mm, rfl⟩))
        go_meet
        case rel =>
          rw [HM.out.1, HM.out.2]
          refine ⟨A1, c5 - 4, congrArg (Value.int .u64) ?_, by rw [List.length_drop], ⟨?_⟩, by rw [List.length_drop]; omega, _, rfl⟩
          · simp only [u64_mod, X.half64, Int.emod_add_emod]
            first | done | rfl
          · rw [List.length_drop]; exact HA1.out _ _ _ hn5 HA5.out
      · have h4' : (q.length : Int) < 4 := by omega
        have HM := Aside0.mk (show X.mid64 h2 q = h2 ∧ X.rest64 q = q from ⟨if_neg h4, if_neg h4⟩)
        go_wp2
        go_meet
        case rel =>
          rw [HM.out.1, HM.out.2]
          exact ⟨A5, c5, rfl, rfl, HA5, hn5, _, rfl⟩
    case rest =>
    obtain ⟨A3, c3, rfl, rfl, HA3, hn3, m3, rfl⟩ := hcut
    obtain ⟨h3, eh3⟩ : ∃ z, z = X.mid64 h2 q := ⟨_, rfl⟩
    obtain ⟨t, et⟩ : ∃ z, z = X.rest64 q := ⟨_, rfl⟩
    have Hw3 := Aside0.mk (show W64 h3 by rw [eh3]; exact mid64_range _ _ Hw2)
    have HTb := Aside0.mk (show Bytes t by
      rw [et]
      by_cases h4 : 4 ≤ q.length
      · rw [X.rest64, if_pos h4]; exact HRb.out.drop _
      · rw [X.rest64, if_neg h4]; exact HRb.out)
    have htl : t.length ≤ 140737488355327 := by rw [et]; unfold X.rest64; split <;> (try rw [List.length_drop]) <;> omega
    rw [← et] at HA3 hn3
    rw [← et, ← eh3]
    have HG2 := Aside0.mk (show X.sum64 s l = X.fin64 (X.bytes64 h3 t) by rw [HGG.out, ← et, ← eh3])
    clear et eh3 HGG
    go_wp2
    go_loopg [5, 6] t.length (fun kq v5 v6 we => ∃ (i : Nat) (A' : Option Addr) (c' : Nat) (z : Int), kq + i = t.length ∧ v5 = .int .u64 z ∧ Aside0 (z = X.bytes64 h3 (t.take i)) ∧ v6 = .slice A' (t.length - i) c' ∧ Aside0 (ReadsInt wc .u8 A' (t.length - i) (t.drop i)) ∧ t.length - i ≤ c' ∧ ∃ m', we = wc.drewN m')
    case atStart => exact ⟨0, A3, c3, h3, by omega, rfl, ⟨by rw [List.take_zero]; rfl⟩, rfl, HA3, by simpa using hn3, _, rfl⟩
    case round =>
      clear HA3 hn3
      obtain ⟨i, A', c', z, hk, rfl, HQ, rfl, HA, hnc, m', rfl⟩ := hrel
      have hQ := ebytes_range (t.take i) h3 Hw3.out
      rw [← HQ.out] at hQ
      have Hk := Aside0.mk hk
      clear hk
      cases gk with
      | zero =>
        have hi : i = t.length := by have := Hk.out; omega
        subst hi
        rw [Nat.sub_self]
        obtain ⟨hz0, hz1⟩ := hQ
        go_wp2
        go_ret
        refine ⟨congrArg (fun z => Ending.returned (.int .u64 z)) ?_, pw_below_drewN HB2.out _⟩
        have f3 := HQ.out
        rw [List.take_length] at f3
        rw [HG2.out, ← f3]
        simp only [X.fin64, u64_mod]
      | succ k1 =>
        have hi : i < t.length := by have := Hk.out; omega
        obtain ⟨T, eT⟩ : ∃ T, T = t.drop i := ⟨_, rfl⟩
        have eTl : t.length - i = T.length := by rw [eT]; simp
        rw [eTl] at HA hnc ⊢
        rw [← eT] at HA
        have ht : 0 < T.length := by omega
        have HeT := Aside0.mk eT
        have HeTl := Aside0.mk eTl
        have hts : T.length ≤ 140737488355327 := by omega
        clear eT eTl
        obtain ⟨A1, hcut, hA1⟩ := print_cut (P := Try.prog) 22 5 .i64 Try.underlying22 hi05 hsz5 A' T.length c' 1 ht
        have HA1 := Aside0.mk hA1
        have hcut' : ∀ W : World, (Instr.slice 22 (.slice A' T.length c') (some (.int .i64 1)) none none).run Try.prog W = .ok (.slice A1 (T.length - 1) (c' - 1)) W := hcut
        obtain ⟨ad, rfl, hc⟩ := HA.out.2.2 ht
        have hci : wc.cell? ad = some (.int .u8 (X.at' T 0)) := by have := hc 0 ht; rwa [Addr.add_zero'] at this
        have hTb : X.at' T 0 = X.at' t i := by rw [HeT.out, at_drop]; rfl
        have hb0 : 0 ≤ X.at' T 0 ∧ X.at' T 0 < 256 := by rw [hTb]; exact HTb.out i
        obtain ⟨b0, b1⟩ := hb0
        have HTb2 := Aside0.mk hTb
        have ht' : (0 : Int) < (T.length : Int) := by omega
        clear hc hA1 hcut hTb
        go_wp2_with (first | (go_at_call 62; refine (rrot64_calls _ 11 _ (by decide) (by decide) (xor64_range _ _ hQ (u64_range _)).1 (xor64_range _ _ hQ (u64_range _)).2).mono ?_; rintro e w' ⟨rfl, mm, rfl⟩))
        go_roundg k1
        case measure => omega
        case rel =>
          have e1 : t.length - (i + 1) = T.length - 1 := by have := HeTl.out; omega
          refine ⟨i + 1, A1, c' - 1, _, by have := Hk.out; omega, rfl, ⟨?_⟩, by rw [e1], ⟨?_⟩, by omega, _, rfl⟩
          · rw [ebytes_snoc _ _ _ hi, ← HQ.out, ← HTb2.out]
            simp only [u64_mod, X.byte64]
            first | done | rfl
          · rw [e1, show t.drop (i + 1) = T.drop 1 by rw [HeT.out, List.drop_drop]]
            exact HA1.out _ _ _ hnc HA.out
end Go.Proofs.Ytnkcbkfccbfjpaa.XxhW
