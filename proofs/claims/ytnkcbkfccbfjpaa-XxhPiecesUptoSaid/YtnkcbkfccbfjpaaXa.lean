/- Contracts of small functions of xxh: RotateLeft32, get32. -/
import Derived.Test.YtnkcbkfccbfjpaaPXxhSumsx0
import Derived.Test.YtnkcbkfccbfjpaaXm
import Derived.Test.YtnkcbkfccbfjpaaXq
import Derived.Lib.Hide
namespace Go.Proofs.Ytnkcbkfccbfjpaa.XxhW
open Go.RowKit Go.Proofs.YtnkcbkfccbfjpaaW.PrintWords Go.Proofs.YtnkcbkfccbfjpaaW.PrintLast Go.Proofs.YtnkcbkfccbfjpaaW.PrintMore
set_option linter.unusedVariables false
set_option linter.unusedSimpArgs false

theorem wraps_u64 (n : Int) (h0 : 0 ≤ n) (h1 : n < 18446744073709551616) : IntKind.u64.wrap n = n := by
  simp [IntKind.wrap, IntKind.bits, IntKind.signed]; omega
theorem wraps_u32 (n : Int) (h0 : 0 ≤ n) (h1 : n < 4294967296) : IntKind.u32.wrap n = n := by rw [IntKind.wrap_u32]; omega
theorem and31 (k : Int) (h0 : 0 ≤ k) (h1 : k < 32) : Go.bits .and .u64 k 31 = k := by
  have := bits_mask .u64 64 (by decide) (fun n a b => wraps_u64 n a (by simpa using b)) 5 (by decide) k h0 (by omega)
  rw [show (2 : Int) ^ 5 - 1 = 31 by decide] at this
  rw [this]; omega

theorem rot_parts (W k : Nat) (x M : Int) (hk : k ≤ W) (hM : M = 2 ^ W) (h0 : 0 ≤ x) (h1 : x < M) :
    ((x * 2 ^ k) % M) % 2 ^ k = 0 ∧ 0 ≤ (x * 2 ^ k) % M ∧ (x * 2 ^ k) % M < M ∧ 0 ≤ x / 2 ^ (W - k) ∧ x / 2 ^ (W - k) < 2 ^ k ∧ x / 2 ^ (W - k) < M := by
  have hp : (0 : Int) < 2 ^ k := Int.pow_pos (by decide)
  have hq : (0 : Int) < 2 ^ (W - k) := Int.pow_pos (by decide)
  have hm : (2 : Int) ^ (W - k) * 2 ^ k = M := by rw [hM, ← Int.pow_add, Nat.sub_add_cancel hk]
  have hMp : 0 < M := by omega
  have hlt : x / 2 ^ (W - k) < 2 ^ k := by
    apply Int.ediv_lt_of_lt_mul hq
    rw [Int.mul_comm, hm]; exact h1
  have hle : (2 : Int) ^ k ≤ M := by
    rw [← hm]
    have := Int.mul_le_mul_of_nonneg_right (show (1 : Int) ≤ 2 ^ (W - k) by omega) (Int.le_of_lt hp)
    omega
  refine ⟨?_, Int.emod_nonneg _ (by omega), Int.emod_lt_of_pos _ hMp, Int.ediv_nonneg h0 (Int.le_of_lt hq), hlt, by omega⟩
  rw [← hm, Int.emod_emod_of_dvd _ (Int.dvd_mul_left _ _)]
  exact Int.mul_emod_left _ _

theorem rot32_or (x : Int) (k : Nat) (hk : k ≤ 32) (h0 : 0 ≤ x) (h1 : x < 4294967296) : Go.bits .or .u32 (x * 2 ^ k % 4294967296) (x / 2 ^ (32 - k)) = X.rot32 x k := by
  obtain ⟨a, b, c, d, e, g⟩ := rot_parts 32 k x 4294967296 hk (by decide) h0 h1
  exact bits_join .u32 32 (by decide) (fun n a b => wraps_u32 n a (by simpa using b)) k _ _ b a (by simpa using c) d e (by simpa using g)

theorem rotl32_calls (x k : Int) (w : World) (h0 : 0 < k) (h1 : k < 32) (h2 : 0 ≤ x) (h3 : x < 4294967296) :
    Calls Try.prog 84 #[.int .u32 x, .int .i64 k] w fun e w' => e = .returned (.int .u32 (X.rot32 x k.toNat)) ∧ w' = w := by
  have hw := wraps_u64 k (by omega) (by omega)
  have hk := and31 k (by omega) h1
  have hs := wraps_u64 (32 - k) (by omega) (by omega)
  have hk0 : 0 ≤ k := by omega
  have HE := Lib.hid (rot32_or x k.toNat (by omega) h2 h3)
  have HT := Lib.hid (show (32 - k).toNat = 32 - k.toNat by omega)
  go_enter Try.func84, Try.ntmps84
  go_wp2
  go_ret
  refine ⟨congrArg (fun z => Ending.returned (.int .u32 z)) ?_, rfl⟩
  show Go.bits .or .u32 (x * 2 ^ k.toNat % 4294967296) (x / 2 ^ (32 - k).toNat) = _
  rw [HT.out, HE.out]

/-- A slice that is read, element i as the walk wants it. -/
theorem at_int {w : World} {A : Option Addr} {l : List Int} (hr : Kd.C (Kd.int .u8) w A l.length l) (i : Nat) (hi : i < l.length) : ∃ ad, A = some ad ∧ w.cell? (ad.add i) = some (.int .u8 (X.at' l i)) := by
  obtain ⟨ad, e, h⟩ := Kd.at_int hr (i : Int) (by omega) (by omega)
  exact ⟨ad, e, by simpa [X.at', rd] using h⟩
theorem add_pos (ad : Addr) (i : Nat) (h : 0 < i) : ad.add i = ⟨ad.block, ad.off + i, none⟩ := by
  unfold Addr.add; split
  · omega
  · rfl
theorem add_add (ad : Addr) (i j : Nat) : (ad.add i).add j = ad.add (i + j) := by
  unfold Addr.add
  by_cases hi : i = 0
  · subst hi; simp
  · by_cases hj : j = 0
    · subst hj; simp
    · simp [hi, hj, Nat.add_assoc]
/-- bytes: each from 0 to 255 -/
def Bytes (l : List Int) : Prop := ∀ i, 0 ≤ X.at' l i ∧ X.at' l i < 256
theorem at_drop (l : List Int) (k i : Nat) : X.at' (l.drop k) i = X.at' l (k + i) := by
  simp [X.at', List.getD_eq_getElem?_getD, List.getElem?_drop]
theorem Bytes.drop {l : List Int} (h : Bytes l) (k : Nat) : Bytes (l.drop k) := fun i => by rw [at_drop]; exact h _
/-- from ad on lie the bytes l -/
def Rd (w : World) (ad : Addr) (l : List Int) : Prop := ∀ i, i < l.length → w.cell? (ad.add i) = some (.int .u8 (X.at' l i))
theorem Rd.drop {w : World} {ad : Addr} {l : List Int} (h : Rd w ad l) (k : Nat) : Rd w (ad.add k) (l.drop k) := fun i hi => by
  rw [add_add, at_drop]
  exact h _ (by simp at hi; omega)
theorem Rd.take {w : World} {ad : Addr} {l : List Int} (h : Rd w ad l) (k : Nat) : Rd w ad (l.take k) := fun i hi => by
  simp at hi
  rw [h i (by omega)]
  have h1 : i < k := by omega
  simp [X.at', List.getD_eq_getElem?_getD, h1]
theorem Rd.drewN {w : World} {ad : Addr} {l : List Int} (h : Rd w ad l) (n : Nat) : Rd (w.drewN n) ad l := fun i hi => h i hi

theorem Rd.drew {w : World} {ad : Addr} {l : List Int} (h : Rd w ad l) : Rd w.drew ad l := fun i hi => h i hi

theorem u32_range (x : Int) : 0 ≤ IntKind.u32.wrap x ∧ IntKind.u32.wrap x < 4294967296 := by rw [IntKind.wrap_u32]; omega
theorem or_up (k : IntKind) (j : Nat) (hj : j ≤ k.bits) (hk : ∀ n : Int, 0 ≤ n → n < 2 ^ j → k.wrap n = n) (i : Nat)
    (x y : Int) (hx₀ : 0 ≤ x) (hx : x % 2 ^ i = 0) (hx₁ : x < 2 ^ j) (hy₀ : 0 ≤ y) (hy : y < 2 ^ i) (hy₁ : y < 2 ^ j) : Go.bits .or k y x = y + x := by
  have h := bits_join k j hj hk i x y hx₀ hx hx₁ hy₀ hy hy₁
  obtain ⟨a, rfl⟩ := Int.eq_ofNat_of_zero_le hx₀
  obtain ⟨b, rfl⟩ := Int.eq_ofNat_of_zero_le hy₀
  have ha : a < 2 ^ j := by exact_mod_cast hx₁
  have hb : b < 2 ^ j := by exact_mod_cast hy₁
  rw [(bits_nat k j hj hk b a hb ha).2, Nat.or_comm, ← (bits_nat k j hj hk a b ha hb).2, h, Int.add_comm]
theorem or32 (i : Nat) (x y : Int) (h0 : 0 ≤ x) (hx : x % 2 ^ i = 0) (h1 : x < 4294967296) (h2 : 0 ≤ y) (h3 : y < 2 ^ i) (h4 : y < 4294967296) : Go.bits .or .u32 y x = y + x :=
  or_up .u32 32 (by decide) (fun n a b => wraps_u32 n a (by simpa using b)) i x y h0 hx (by simpa using h1) h2 h3 (by simpa using h4)
theorem or64 (i : Nat) (x y : Int) (h0 : 0 ≤ x) (hx : x % 2 ^ i = 0) (h1 : x < 18446744073709551616) (h2 : 0 ≤ y) (h3 : y < 2 ^ i) (h4 : y < 18446744073709551616) : Go.bits .or .u64 y x = y + x :=
  or_up .u64 64 (by decide) (fun n a b => wraps_u64 n a (by simpa using b)) i x y h0 hx (by simpa using h1) h2 h3 (by simpa using h4)
theorem le32_or (l : List Int) (hb : Bytes l) : Go.bits .or .u32 (Go.bits .or .u32 (Go.bits .or .u32 (X.at' l 0) (X.at' l 1 * 256)) (X.at' l 2 * 65536)) (X.at' l 3 * 16777216) = X.le32 l := by
  have b0 := hb 0
  have b1 := hb 1
  have b2 := hb 2
  have b3 := hb 3
  rw [or32 8 (X.at' l 1 * 256) (X.at' l 0) (by omega) (by omega) (by omega) (by omega) (by omega) (by omega)]
  rw [or32 16 (X.at' l 2 * 65536) _ (by omega) (by omega) (by omega) (by omega) (by omega) (by omega)]
  rw [or32 24 (X.at' l 3 * 16777216) _ (by omega) (by omega) (by omega) (by omega) (by omega) (by omega)]
  rfl
theorem le32_range (l : List Int) (hb : Bytes l) : 0 ≤ X.le32 l ∧ X.le32 l < 4294967296 := by
  have b0 := hb 0
  have b1 := hb 1
  have b2 := hb 2
  have b3 := hb 3
  unfold X.le32
  omega

theorem get32_calls (ad : Addr) (n c : Nat) (l : List Int) (w : World) (hr : Rd w ad l) (hn : n = l.length) (h4 : 4 ≤ l.length) (hb : Bytes l) :
    Calls Try.prog 85 #[.slice (some ad) n c] w fun e w' => e = .returned (.int .u32 (X.le32 l)) ∧ ∃ m, w' = w.drewN m := by
  subst hn
  have h0 := hr 0 (by omega)
  have h1 := hr 1 (by omega)
  have h2 := hr 2 (by omega)
  have h3 := hr 3 (by omega)
  rw [Addr.add_zero'] at h0
  rw [add_pos _ _ (by omega)] at h1 h2 h3
  obtain ⟨p0, q0⟩ := hb 0
  obtain ⟨p1, q1⟩ := hb 1
  obtain ⟨p2, q2⟩ := hb 2
  obtain ⟨p3, q3⟩ := hb 3
  have l0 : 0 < l.length := by omega
  have l1 : 1 < l.length := by omega
  have l2 : 2 < l.length := by omega
  have l3 : 3 < l.length := by omega
  have m0 : (0 : Int) < (l.length : Int) := by omega
  have m1 : (1 : Int) < (l.length : Int) := by omega
  have m2 : (2 : Int) < (l.length : Int) := by omega
  have m3 : (3 : Int) < (l.length : Int) := by omega
  have HE := Lib.hid (le32_or l hb)
  clear hb hr
  go_enter Try.func85, Try.ntmps85
  go_wp2
  go_quiet (fail)
  go_wp2
  go_ret
  exact ⟨congrArg (fun z => Ending.returned (.int .u32 z)) HE.out, _, rfl⟩

/-- A digest of 32 bits lies at block g: what waits, how many came, the seed, four sums. -/
def IsD (w : World) (g : Nat) (r : Value) (n s : Int) (v : X.V4) : Prop :=
  w.heap[g]? = some (.cells #[r, .int .u64 n, .int .u32 s, .int .u32 v.a, .int .u32 v.b, .int .u32 v.c, .int .u32 v.d] 104 (0, 0))

theorem IsD.at {w : World} {g : Nat} {r : Value} {n s : Int} {v : X.V4} (h : IsD w g r n s v) (i : Nat) (u : Value) (hu : (#[r, .int .u64 n, .int .u32 s, .int .u32 v.a, .int .u32 v.b, .int .u32 v.c, .int .u32 v.d] : Array Value)[i]? = some u) :
    w.cell? ⟨g, i, none⟩ = some u ∧ w.frozen? ⟨g, i, none⟩ = false := ⟨(cell_of_row w g i _ 104 (0, 0) h).trans hu, blk_frozen h i⟩
/-- A store into the digest's block, behind draws: what it does to the digest, to others' cells, and to the world. -/
theorem put_world {w : World} {g : Nat} {t : TypeId} {cs : Array Value} (h : w.heap[g]? = some (.cells cs t (0, 0))) (m i : Nat) (u : Value) :
    ((w.drewN m).setCell ⟨g, i, none⟩ u).heap[g]? = some (.cells (cs.setIfInBounds i u) t (0, 0)) ∧ (∀ p : Addr, p.block ≠ g → ((w.drewN m).setCell ⟨g, i, none⟩ u).cell? p = w.cell? p) ∧
    w.grownBy ((w.drewN m).setCell ⟨g, i, none⟩ u) (some g) := by
  refine ⟨blk_set (w := w.drewN m) h i _, fun p hp => ?_, ?_⟩
  · have := Below.heap_setCell (w.drewN m) ⟨g, i, none⟩ u p.block hp
    have e : (w.drewN m).heap = w.heap := rfl
    rw [e] at this
    simp only [World.cell?, this]
  · refine ⟨rfl, rfl, rfl, by simp [World.setCell, World.drewN], fun j _ hj => ?_⟩
    exact Below.heap_setCell (w.drewN m) ⟨g, i, none⟩ u j (fun e => hj (congrArg some e))
theorem Rd.of_cells {w w1 : World} {ad : Addr} {l : List Int} (h : Rd w ad l) (hk : ∀ p : Addr, p.block = ad.block → w1.cell? p = w.cell? p) : Rd w1 ad l := fun i hi => by
  rw [hk _ (by unfold Addr.add; split <;> rfl)]; exact h i hi
theorem grown_then {w w1 w2 : World} {r : Option Nat} (h : w.grownBy w1 r) (h' : w1.grownBy w2 r) : w.grownBy w2 r :=
  ⟨h'.os.trans h.os, h'.tape.trans h.tape, h'.output.trans h.output, Nat.le_trans h.size h'.size, fun i hi hr => (h'.block i (Nat.lt_of_lt_of_le hi h.size) hr).trans (h.block i hi hr)⟩

set_option maxHeartbeats 4000000 in
theorem takes1_calls (ad : Addr) (c : Nat) (l : List Int) (bx g : Nat) (r : Value) (n s : Int) (v : X.V4) (w : World) (hr : Rd w ad l) (hl : l.length = 16) (hc : 16 ≤ c) (hb : Bytes l)
    (hx : w.cell? ⟨bx, 0, none⟩ = some (.pointer (some ⟨g, 0, none⟩))) (hd : IsD w g r n s v) (hne : bx ≠ g) (hag : ad.block ≠ g) :
    Calls Try.prog 83 #[.slice (some ad) 16 c, .pointer (some ⟨bx, 0, none⟩)] w fun e w' => e = .returned (.tuple #[]) ∧ IsD w' g r n s (X.stripe32 v l) ∧ w.grownBy w' (some g) := by
  have z0 : IntKind.i64.wrap 0 = 0 := by decide
  have z4 : IntKind.i64.wrap 4 = 4 := by decide
  have z8 : IntKind.i64.wrap 8 = 8 := by decide
  have z12 : IntKind.i64.wrap 12 = 12 := by decide
  have n4 : ¬ c = 4 := by omega
  have n8 : ¬ c = 8 := by omega
  have n12 : ¬ c = 12 := by omega
  have m4 : (4 : Int) ≤ (c : Int) := by omega
  obtain ⟨x0, f0⟩ := IsD.at hd 3 _ rfl
  have HD := Lib.hid hd
  have HG := Lib.hid (World.grownBy.refl w (some g))
  clear hd
  go_enter Try.func83, Try.ntmps83
  go_wp2
  refine wp_loop_rounds 5 ?_
  rw [rounds_succ]
  go_wp2
  refine QTail.wp_region_tail (C := fun w' => ∃ n, w' = w.drewN n) 20 (by kernel_rfl) (by kernel_rfl) ⟨1, rfl⟩ ?_
  simp only [List.take_succ_cons, List.take_zero, List.drop_succ_cons, List.drop_zero]
  repeat (quiet_step (first | (go_at_call 85; exact Calls.quiet_of (get32_calls ad _ _ l _ (hr.drewN _) hl.symm (by simp [hl]) (hb))) | (go_at_call 84; exact Calls.quiet_of_same (rotl32_calls _ 13 _ (by omega) (by omega) (u32_range _).1 (u32_range _).2))))
  refine wpQuiet_nil ?_
  intro _ hw'
  obtain ⟨nq, hw''⟩ := hw'
  subst hw''
  go_wp2
  obtain ⟨w1, hw1⟩ : ∃ z, z = (w.drewN nq).setCell ⟨g, 3, none⟩ (.int .u32 (X.step32 v.a (X.le32 l))) := ⟨_, rfl⟩
  have P1 := put_world HD.out nq 3 (.int .u32 (X.step32 v.a (X.le32 l)))
  rw [← hw1] at P1
  unfold X.step32 at hw1
  rw [← hw1]
  clear hw1
  obtain ⟨D1, K1, G1⟩ := P1
  have HD1 := Lib.hid (show IsD w1 g r n s ⟨X.step32 v.a (X.le32 l), v.b, v.c, v.d⟩ from D1)
  have HG1 := Lib.hid (grown_then HG.out G1)
  have r1 := Lib.hid (Rd.of_cells hr (fun p hp => K1 p (by rw [hp]; exact hag)))
  have hx1 := (K1 ⟨bx, 0, none⟩ hne).trans hx
  clear x0 f0 D1 K1 G1 HD HG hx
  have HD := HD1
  have HG := HG1
  have R1 := r1
  clear HD1 HG1 r1 hr
  obtain ⟨x0, f0⟩ := IsD.at HD.out 4 _ rfl
  have hr1 : Rd w1 ⟨ad.block, ad.off + 4, none⟩ (l.drop 4) := by
    have := R1.out.drop 4
    rwa [add_pos _ _ (by omega)] at this
  rw [rounds_succ]
  go_wp2
  refine QTail.wp_region_tail (C := fun w' => ∃ n, w' = w1.drewN n) 20 (by kernel_rfl) (by kernel_rfl) ⟨1, rfl⟩ ?_
  simp only [List.take_succ_cons, List.take_zero, List.drop_succ_cons, List.drop_zero]
  repeat (quiet_step (first | (go_at_call 85; exact Calls.quiet_of (get32_calls ⟨ad.block, ad.off + 4, none⟩ _ _ (l.drop 4) _ (hr1.drewN _) (by simp [hl]) (by simp [hl]) (hb.drop 4))) | (go_at_call 84; exact Calls.quiet_of_same (rotl32_calls _ 13 _ (by omega) (by omega) (u32_range _).1 (u32_range _).2))))
  refine wpQuiet_nil ?_
  intro _ hw'
  obtain ⟨nq, hw''⟩ := hw'
  subst hw''
  go_wp2
  obtain ⟨w2, hw2⟩ : ∃ z, z = (w1.drewN nq).setCell ⟨g, 4, none⟩ (.int .u32 (X.step32 v.b (X.le32 (l.drop 4)))) := ⟨_, rfl⟩
  have P2 := put_world HD.out nq 4 (.int .u32 (X.step32 v.b (X.le32 (l.drop 4))))
  rw [← hw2] at P2
  unfold X.step32 at hw2
  rw [← hw2]
  clear hw2
  obtain ⟨D2, K2, G2⟩ := P2
  have HD2 := Lib.hid (show IsD w2 g r n s ⟨X.step32 v.a (X.le32 l), X.step32 v.b (X.le32 (l.drop 4)), v.c, v.d⟩ from D2)
  have HG2 := Lib.hid (grown_then HG.out G2)
  have r2 := Lib.hid (Rd.of_cells R1.out (fun p hp => K2 p (by rw [hp]; exact hag)))
  have hx2 := (K2 ⟨bx, 0, none⟩ hne).trans hx1
  clear x0 f0 D2 K2 G2 HD HG hx1
  have HD := HD2
  have HG := HG2
  have R2 := r2
  clear HD2 HG2 r2 R1
  obtain ⟨x0, f0⟩ := IsD.at HD.out 5 _ rfl
  have hr2 : Rd w2 ⟨ad.block, ad.off + 8, none⟩ (l.drop 8) := by
    have := R2.out.drop 8
    rwa [add_pos _ _ (by omega)] at this
  rw [rounds_succ]
  go_wp2
  refine QTail.wp_region_tail (C := fun w' => ∃ n, w' = w2.drewN n) 20 (by kernel_rfl) (by kernel_rfl) ⟨1, rfl⟩ ?_
  simp only [List.take_succ_cons, List.take_zero, List.drop_succ_cons, List.drop_zero]
  repeat (quiet_step (first | (go_at_call 85; exact Calls.quiet_of (get32_calls ⟨ad.block, ad.off + 8, none⟩ _ _ (l.drop 8) _ (hr2.drewN _) (by simp [hl]) (by simp [hl]) (hb.drop 8))) | (go_at_call 84; exact Calls.quiet_of_same (rotl32_calls _ 13 _ (by omega) (by omega) (u32_range _).1 (u32_range _).2))))
  refine wpQuiet_nil ?_
  intro _ hw'
  obtain ⟨nq, hw''⟩ := hw'
  subst hw''
  go_wp2
  obtain ⟨w3, hw3⟩ : ∃ z, z = (w2.drewN nq).setCell ⟨g, 5, none⟩ (.int .u32 (X.step32 v.c (X.le32 (l.drop 8)))) := ⟨_, rfl⟩
  have P3 := put_world HD.out nq 5 (.int .u32 (X.step32 v.c (X.le32 (l.drop 8))))
  rw [← hw3] at P3
  unfold X.step32 at hw3
  rw [← hw3]
  clear hw3
  obtain ⟨D3, K3, G3⟩ := P3
  have HD3 := Lib.hid (show IsD w3 g r n s ⟨X.step32 v.a (X.le32 l), X.step32 v.b (X.le32 (l.drop 4)), X.step32 v.c (X.le32 (l.drop 8)), v.d⟩ from D3)
  have HG3 := Lib.hid (grown_then HG.out G3)
  have r3 := Lib.hid (Rd.of_cells R2.out (fun p hp => K3 p (by rw [hp]; exact hag)))
  have hx3 := (K3 ⟨bx, 0, none⟩ hne).trans hx2
  clear x0 f0 D3 K3 G3 HD HG hx2
  have HD := HD3
  have HG := HG3
  have R3 := r3
  clear HD3 HG3 r3 R2
  obtain ⟨x0, f0⟩ := IsD.at HD.out 6 _ rfl
  have hr3 : Rd w3 ⟨ad.block, ad.off + 12, none⟩ (l.drop 12) := by
    have := R3.out.drop 12
    rwa [add_pos _ _ (by omega)] at this
  rw [rounds_succ]
  go_wp2
  refine QTail.wp_region_tail (C := fun w' => ∃ n, w' = w3.drewN n) 20 (by kernel_rfl) (by kernel_rfl) ⟨1, rfl⟩ ?_
  simp only [List.take_succ_cons, List.take_zero, List.drop_succ_cons, List.drop_zero]
  repeat (quiet_step (first | (go_at_call 85; exact Calls.quiet_of (get32_calls ⟨ad.block, ad.off + 12, none⟩ _ _ (l.drop 12) _ (hr3.drewN _) (by simp [hl]) (by simp [hl]) (hb.drop 12))) | (go_at_call 84; exact Calls.quiet_of_same (rotl32_calls _ 13 _ (by omega) (by omega) (u32_range _).1 (u32_range _).2))))
  refine wpQuiet_nil ?_
  intro _ hw'
  obtain ⟨nq, hw''⟩ := hw'
  subst hw''
  go_wp2
  obtain ⟨w4, hw4⟩ : ∃ z, z = (w3.drewN nq).setCell ⟨g, 6, none⟩ (.int .u32 (X.step32 v.d (X.le32 (l.drop 12)))) := ⟨_, rfl⟩
  have P4 := put_world HD.out nq 6 (.int .u32 (X.step32 v.d (X.le32 (l.drop 12))))
  rw [← hw4] at P4
  unfold X.step32 at hw4
  rw [← hw4]
  clear hw4
  obtain ⟨D4, K4, G4⟩ := P4
  have HD4 := Lib.hid (show IsD w4 g r n s ⟨X.step32 v.a (X.le32 l), X.step32 v.b (X.le32 (l.drop 4)), X.step32 v.c (X.le32 (l.drop 8)), X.step32 v.d (X.le32 (l.drop 12))⟩ from D4)
  have HG4 := Lib.hid (grown_then HG.out G4)
  have r4 := Lib.hid (Rd.of_cells R3.out (fun p hp => K4 p (by rw [hp]; exact hag)))
  have hx4 := (K4 ⟨bx, 0, none⟩ hne).trans hx3
  clear x0 f0 D4 K4 G4 HD HG hx3
  have HD := HD4
  have HG := HG4
  have R4 := r4
  clear HD4 HG4 r4 R3
  rw [rounds_succ]
  go_wp2
  go_end0
  exact ⟨rfl, HD.out, HG.out⟩
end Go.Proofs.Ytnkcbkfccbfjpaa.XxhW
