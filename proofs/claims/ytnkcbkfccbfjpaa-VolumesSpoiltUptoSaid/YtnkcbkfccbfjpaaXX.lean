/- Texts of mine made one: Xm, Xq, Xa, Xb, Xc, Xd, Xe, Xf, Xg, Xh. -/
import Derived.Laws.BitsLemmas
import Derived.StillTail
import Derived.Deep.Quiet
import Derived.Test.YtnkcbkfccbfjpaaPXxhSumsx0
import Derived.Lib.Hide
import Derived.WalkSpells
/- Sums of 32 bits (XXH32) and of 64 bits (XXH64) as plain functions of numbers and lists: what the program's digests and the document's reference come to. No Go, no memory. -/
namespace Go.Proofs.Ytnkcbkfccbfjpaa.X
set_option linter.unusedVariables false
/-- element i of a list of numbers, 0 beyond -/
def at' (l : List Int) (i : Nat) : Int := l.getD i 0
def rot32 (x : Int) (k : Nat) : Int := (x * 2 ^ k) % 4294967296 + x / 2 ^ (32 - k)
def le32 (l : List Int) : Int := at' l 0 + at' l 1 * 256 + at' l 2 * 65536 + at' l 3 * 16777216
def step32 (v w : Int) : Int := rot32 ((v + w * 2246822519) % 4294967296) 13 * 2654435761 % 4294967296
structure V4 where
  a : Int
  b : Int
  c : Int
  d : Int
def init32 (s : Int) : V4 := ⟨(((s + 2654435761) % 4294967296) + 2246822519) % 4294967296, (s + 2246822519) % 4294967296, s, (s - 2654435761) % 4294967296⟩
def stripe32 (v : V4) (l : List Int) : V4 := ⟨step32 v.a (le32 l), step32 v.b (le32 (l.drop 4)), step32 v.c (le32 (l.drop 8)), step32 v.d (le32 (l.drop 12))⟩
def run32 : Nat → V4 → List Int → V4
  | 0, v, _ => v
  | n + 1, v, l => run32 n (stripe32 v l) (l.drop 16)
def merge32 (v : V4) : Int := (rot32 v.a 1 + rot32 v.b 7 + rot32 v.c 12 + rot32 v.d 18) % 4294967296
def word32 (h w : Int) : Int := rot32 ((h + w * 3266489917) % 4294967296) 17 * 668265263 % 4294967296
def byte32 (h b : Int) : Int := rot32 ((h + b * 374761393) % 4294967296) 11 * 2654435761 % 4294967296
def words32 : Nat → Int → List Int → Int
  | 0, h, _ => h
  | n + 1, h, l => words32 n (word32 h (le32 l)) (l.drop 4)
def bytes32 (h : Int) (l : List Int) : Int := l.foldl byte32 h
def fin32 (h : Int) : Int :=
  let h1 := (Go.bits .xor .u32 h (h / 32768) * 2246822519) % 4294967296
  let h2 := (Go.bits .xor .u32 h1 (h1 / 8192) * 3266489917) % 4294967296
  Go.bits .xor .u32 h2 (h2 / 65536)
/-- the rest behind the last whole stripe -/
def rest (u : Nat) (l : List Int) : List Int := l.drop (u * (l.length / u))
def tail32 (h : Int) (r : List Int) : Int := fin32 (bytes32 (words32 (r.length / 4) h r) (rest 4 r))
def sum32 (s : Int) (l : List Int) : Int :=
  let h := if 16 ≤ l.length then merge32 (run32 (l.length / 16) (init32 s) l) else (s + 374761393) % 4294967296
  tail32 ((h + (l.length : Int) % 4294967296) % 4294967296) (rest 16 l)
end Go.Proofs.Ytnkcbkfccbfjpaa.X
/- A region that draws its order, all of whose operations but the last few only read (their calls may draw), the last few standing in one forced order: one walk in the text's order serves every order. No condition but the two closed facts on the region. -/
namespace Go.Proofs.Ytnkcbkfccbfjpaa.QTail
section
variable {P : Program} {ops : Array Oper} {md : Region.Mode} {C : World → Prop}

/-- f operations of the head come up, in whatever order. -/
def headQ (P : Program) (md : Region.Mode) (ops : Array Oper) (C : World → Prop) (n : Nat) (L : Array Bool → Act → Prop) : Nat → Array Bool → Act → Prop
  | 0, listed, a => L listed a
  | f + 1, listed, a => Region.ready md ops listed ≠ [] ∧ ∀ i ∈ Region.ready md ops listed, i < n ∧ qOp P ops C i (headQ P md ops C n L f (listed.setIfInBounds i true)) a

theorem any_of_headQ {n g : Nat} {L : Array Bool → Act → Prop} {Q : Exit → Act → World → Prop} (hL : ∀ listed a w, C w → L listed a → wpAny P md ops Q g listed a w) (f : Nat) :
    ∀ (listed : Array Bool) (a : Act) (w : World), C w → headQ P md ops C n L f listed a → wpAny P md ops Q (f + g) listed a w := by
  induction f with
  | zero => intro listed a w hw h; rw [Nat.zero_add]; exact hL _ _ _ hw h
  | succ f ih =>
    intro listed a w hw h
    have e : f + 1 + g = (f + g) + 1 := by omega
    rw [e]
    refine ⟨fun h0 => absurd h0 h.1, fun i hi => wpOp_of_qOp hw (fun a' w' hw' h' => ih _ a' w' hw' h') (h.2 i hi).2⟩

theorem headQ_take {n i : Nat} {oi : Oper} {v : Value} {L : Array Bool → Act → Prop} (hi : ops[i]? = some oi) (hsel : ∀ (j : Nat) (o : Oper) cs b, ops[j]? = some o → o.op ≠ .select cs b)
    (hs : Region.sinkB md ops n = true) (hc : Region.chainB md ops n = true) (hn : n < ops.size) (hin : i < n) (hdone : ∀ listed a, L listed a → ∀ j ∈ Region.ready md ops listed, n ≤ j) (f : Nat) :
    ∀ (listed : Array Bool) (a : Act), HeadInv md ops n listed →
      (∀ j oj, ops[j]? = some oj → j ≠ i → listed.getD j true = false → (∀ e ∈ oj.after, Region.binds md e = true → e.on ≠ i) → oi.apart ops oj = true) →
      i ∈ Region.ready md ops listed → YieldsIn P ops C oi v a → headQ P md ops C n L f (listed.setIfInBounds i true) (a.put oi.dst v) → headQ P md ops C n L (f + 1) listed a := by
  induction f with
  | zero =>
    intro listed a inv _ hr hy H
    have hun := (mem_ready.1 hr).1
    have hhead : ∀ j ∈ Region.ready md ops listed, j < n := fun j hj => Nat.lt_of_not_le fun h => tail_waits hs hc hn inv _ i rfl hin hun j h hj
    refine ⟨fun h => (by rw [h] at hr; cases hr), fun j hj => ⟨hhead j hj, ?_⟩⟩
    by_cases hji : j = i
    · subst hji; exact hy.qOp hi H
    · have h1 := hdone _ _ H j (ready_mono hj hji)
      have h2 := hhead j hj
      omega
  | succ f ih =>
    intro listed a inv hfree hr hy H
    have hun := (mem_ready.1 hr).1
    have hhead : ∀ j ∈ Region.ready md ops listed, j < n := fun j hj => Nat.lt_of_not_le fun h => tail_waits hs hc hn inv _ i rfl hin hun j h hj
    refine ⟨fun h => (by rw [h] at hr; cases hr), fun j hj => ⟨hhead j hj, ?_⟩⟩
    by_cases hji : j = i
    · subst hji; exact hy.qOp hi H
    · have h1 := (H.2 j (ready_mono hj hji)).2
      obtain ⟨hjun, oj, hoj, hall⟩ := mem_ready.1 hj
      have hnot : ∀ e ∈ oj.after, Region.binds md e = true → e.on ≠ i := fun e he hb heq => by
        have h1 := hall e he hb
        rw [heq, getD_both hun] at h1
        cases h1
      have h2 := qOp_put hoj (hfree j oj hoj hji hjun hnot) (fun cs b => hsel i oi cs b hi) (fun cs b => hsel j oj cs b hoj) hy h1
      refine qOp_mono (fun a' h3 => ih (listed.setIfInBounds j true) a' (inv.set hj (hhead j hj)) (fun k ok hk hki hk2 hno => hfree k ok hk hki ?_ hno) (ready_mono hr (Ne.symm hji)) h3.1 ?_) h2
      · by_cases hjk : j = k
        · subst hjk; exact hjun
        · rw [getD_set_ne true hjk] at hk2; exact hk2
      · rw [Array.setIfInBounds_comm _ _ hji]
        exact h3.2

theorem headQ_lex {n g : Nat} {Lq : Act → Prop} (hsel : Region.noSelect ops = true) (hs : Region.sinkB md ops n = true) (hc : Region.chainB md ops n = true) (hn : n < ops.size) :
    ∀ (l : List Oper) (k : Nat) (listed : Array Bool) (a : Act), (∀ j, j < l.length → l[j]? = ops[k + j]?) → k + l.length = n → HeadInv md ops n listed →
    Region.lexHead md ops g l.length k listed = true → wpQuiet P ops C Lq l a → headQ P md ops C n (fun listed' a' => Region.seqB md ops g n listed' = true ∧ Lq a') l.length listed a
  | [], k, listed, a, _, hk, _, hB, h => by
    obtain rfl : k = n := by simpa using hk
    exact ⟨by simpa [Region.lexHead] using hB, h⟩
  | o :: l, k, listed, a, hl, hk, inv, hB, h => by
    have h0 : ops[k]? = some o := by simpa using (hl 0 (by simp)).symm
    simp only [List.length_cons] at hk
    simp only [List.length_cons, Region.lexHead, Bool.and_eq_true] at hB
    obtain ⟨⟨hr, hf⟩, hB'⟩ := hB
    have hr' : k ∈ Region.ready md ops listed := by simpa using hr
    have hst : qOp P ops C k (wpQuiet P ops C Lq l) a := by unfold qOp; simp only [h0]; exact h
    obtain ⟨v, hy, hK⟩ := yieldsIn_of_qOp h0 hst
    refine headQ_take h0 (Region.noSelect_spec hsel) hs hc hn (by omega) (fun listed' a' hL => seqB_ready hL.1) l.length listed a inv (Region.free_spec h0 hf) hr' hy ?_
    exact headQ_lex hsel hs hc hn l (k + 1) _ _ (fun j hj => by have := hl (j + 1) (by simp; omega); simpa [Nat.add_assoc, Nat.add_comm 1 j] using this) (by omega) (inv.set hr' (by omega)) hB' hK

/-- The region: n operations that only read, in the class C of worlds; then the rest, in its one order. -/
theorem wp_region_tail {id : Nat} {Q : Exit → Act → World → Prop} {a : Act} {w : World} {l : List Oper} (n : Nat) (hm : P.follows .mixedOrders = true) (hB : Region.lexTailB .any l.toArray n = true) (hC : C w.drew)
    (h : wpQuiet P l.toArray C (fun a' => ∀ w', C w' → wpList P l.toArray Q (l.drop n) a' w') (l.take n) a) : (Code.region id l.toArray true).wp P Q a w := by
  simp only [Region.lexTailB, Bool.and_eq_true, decide_eq_true_eq] at hB
  obtain ⟨⟨⟨⟨hsel, hn⟩, hs⟩, hc⟩, hlex⟩ := hB
  have hn' : n < l.length := by simpa using hn
  have htl : (l.take n).length = n := by simp; omega
  have hdl : (l.drop n).length = l.toArray.size - n := by simp
  have inv0 : HeadInv .any l.toArray n (Array.replicate l.toArray.size false) :=
    ⟨by simp, fun j oj _ hl => (by rw [getD_replicate_false] at hl; cases hl), fun t _ ht => getD_in (by simpa using ht) (getD_replicate_false _ _)⟩
  have H := headQ_lex (md := .any) (g := l.toArray.size - n) hsel hs hc hn (l.take n) 0 _ a (fun j hj => by
    have hj' : j < n := by rw [htl] at hj; exact hj
    simp [hj']) (by simpa using htl) inv0 (by rw [htl]; exact hlex) h
  refine wp_region_any hm ?_
  have hall := any_of_headQ (Q := Q) (g := l.toArray.size - n) (fun listed a' w' hw' hL => by
    have hseq := wpAny_of_seq (md := .any) (Q' := Q) (l.drop n) n listed a' w' (fun j => by simp [List.getElem?_drop]) (by rw [hdl]; exact hL.1) (hL.2 w' hw')
    rwa [hdl] at hseq) _ _ _ _ hC H
  rw [htl] at hall
  rw [show n + (l.toArray.size - n) = l.toArray.size from by omega] at hall
  exact hall
end
end Go.Proofs.Ytnkcbkfccbfjpaa.QTail
/- Contracts of small functions of xxh: RotateLeft32, get32. -/
namespace Go.Proofs.Ytnkcbkfccbfjpaa.XxhW
open Go.RowKit Go.Proofs.YtnkcbkfccbfjpaaW.PrintWords Go.Proofs.YtnkcbkfccbfjpaaW.PrintLast Go.Proofs.YtnkcbkfccbfjpaaW.PrintMore
set_option linter.unusedVariables false
set_option linter.unusedSimpArgs false

theorem wraps_u64 (n : Int) (h0 : 0 ≤ n) (h1 : n < 18446744073709551616) : IntKind.u64.wrap n = n := by
  simp [IntKind.wrap, IntKind.bits, IntKind.signed]; omega
theorem wraps_u32 (n : Int) (h0 : 0 ≤ n) (h1 : n < 4294967296) : IntKind.u32.wrap n = n := by rw [IntKind.wrap_u32]; omega
theorem and31 (k : Int) (h0 : 0 ≤ k) (h1 : k < 32) : Go.bits .and .u64 k 31 = k := by
  have := bits_mask .u64 64 (by decide) (fun n a b => wraps_u64 n a (by simpa using b)) 5 (by decide) k h0 (by omega)
  rw [show (2 : Int) ^ 5 - 1 = 31 by decide] at this
  rw [this]; omega

theorem rot_parts (W k : Nat) (x M : Int) (hk : k ≤ W) (hM : M = 2 ^ W) (h0 : 0 ≤ x) (h1 : x < M) :
    ((x * 2 ^ k) % M) % 2 ^ k = 0 ∧ 0 ≤ (x * 2 ^ k) % M ∧ (x * 2 ^ k) % M < M ∧ 0 ≤ x / 2 ^ (W - k) ∧ x / 2 ^ (W - k) < 2 ^ k ∧ x / 2 ^ (W - k) < M := by
  have hp : (0 : Int) < 2 ^ k := Int.pow_pos (by decide)
  have hq : (0 : Int) < 2 ^ (W - k) := Int.pow_pos (by decide)
  have hm : (2 : Int) ^ (W - k) * 2 ^ k = M := by rw [hM, ← Int.pow_add, Nat.sub_add_cancel hk]
  have hMp : 0 < M := by omega
  have hlt : x / 2 ^ (W - k) < 2 ^ k := by
    apply Int.ediv_lt_of_lt_mul hq
    rw [Int.mul_comm, hm]; exact h1
  have hle : (2 : Int) ^ k ≤ M := by
    rw [← hm]
    have := Int.mul_le_mul_of_nonneg_right (show (1 : Int) ≤ 2 ^ (W - k) by omega) (Int.le_of_lt hp)
    omega
  refine ⟨?_, Int.emod_nonneg _ (by omega), Int.emod_lt_of_pos _ hMp, Int.ediv_nonneg h0 (Int.le_of_lt hq), hlt, by omega⟩
  rw [← hm, Int.emod_emod_of_dvd _ (Int.dvd_mul_left _ _)]
  exact Int.mul_emod_left _ _

theorem rot32_or (x : Int) (k : Nat) (hk : k ≤ 32) (h0 : 0 ≤ x) (h1 : x < 4294967296) : Go.bits .or .u32 (x * 2 ^ k % 4294967296) (x / 2 ^ (32 - k)) = X.rot32 x k := by
  obtain ⟨a, b, c, d, e, g⟩ := rot_parts 32 k x 4294967296 hk (by decide) h0 h1
  exact bits_join .u32 32 (by decide) (fun n a b => wraps_u32 n a (by simpa using b)) k _ _ b a (by simpa using c) d e (by simpa using g)

theorem rotl32_calls (x k : Int) (w : World) (h0 : 0 < k) (h1 : k < 32) (h2 : 0 ≤ x) (h3 : x < 4294967296) :
    Calls Try.prog 84 #[.int .u32 x, .int .i64 k] w fun e w' => e = .returned (.int .u32 (X.rot32 x k.toNat)) ∧ w' = w := by
  have hw := wraps_u64 k (by omega) (by omega)
  have hk := and31 k (by omega) h1
  have hs := wraps_u64 (32 - k) (by omega) (by omega)
  have hk0 : 0 ≤ k := by omega
  have HE := Lib.hid (rot32_or x k.toNat (by omega) h2 h3)
  have HT := Lib.hid (show (32 - k).toNat = 32 - k.toNat by omega)
  go_enter Try.func84, Try.ntmps84
  go_wp2
  go_ret
  refine ⟨congrArg (fun z => Ending.returned (.int .u32 z)) ?_, rfl⟩
  show Go.bits .or .u32 (x * 2 ^ k.toNat % 4294967296) (x / 2 ^ (32 - k).toNat) = _
  rw [HT.out, HE.out]

/-- A slice that is read, element i as the walk wants it. -/
theorem at_int {w : World} {A : Option Addr} {l : List Int} (hr : Kd.C (Kd.int .u8) w A l.length l) (i : Nat) (hi : i < l.length) : ∃ ad, A = some ad ∧ w.cell? (ad.add i) = some (.int .u8 (X.at' l i)) := by
  obtain ⟨ad, e, h⟩ := Kd.at_int hr (i : Int) (by omega) (by omega)
  exact ⟨ad, e, by simpa [X.at', rd] using h⟩
theorem add_pos (ad : Addr) (i : Nat) (h : 0 < i) : ad.add i = ⟨ad.block, ad.off + i, none⟩ := by
  unfold Addr.add; split
  · omega
  · rfl
theorem add_add (ad : Addr) (i j : Nat) : (ad.add i).add j = ad.add (i + j) := by
  unfold Addr.add
  by_cases hi : i = 0
  · subst hi; simp
  · by_cases hj : j = 0
    · subst hj; simp
    · simp [hi, hj, Nat.add_assoc]
/-- bytes: each from 0 to 255 -/
def Bytes (l : List Int) : Prop := ∀ i, 0 ≤ X.at' l i ∧ X.at' l i < 256
theorem at_drop (l : List Int) (k i : Nat) : X.at' (l.drop k) i = X.at' l (k + i) := by
  simp [X.at', List.getD_eq_getElem?_getD, List.getElem?_drop]
theorem Bytes.drop {l : List Int} (h : Bytes l) (k : Nat) : Bytes (l.drop k) := fun i => by rw [at_drop]; exact h _
/-- from ad on lie the bytes l -/
def Rd (w : World) (ad : Addr) (l : List Int) : Prop := ∀ i, i < l.length → w.cell? (ad.add i) = some (.int .u8 (X.at' l i))
theorem Rd.drop {w : World} {ad : Addr} {l : List Int} (h : Rd w ad l) (k : Nat) : Rd w (ad.add k) (l.drop k) := fun i hi => by
  rw [add_add, at_drop]
  exact h _ (by simp at hi; omega)
theorem Rd.take {w : World} {ad : Addr} {l : List Int} (h : Rd w ad l) (k : Nat) : Rd w ad (l.take k) := fun i hi => by
  simp at hi
  rw [h i (by omega)]
  have h1 : i < k := by omega
  simp [X.at', List.getD_eq_getElem?_getD, h1]
theorem Rd.drewN {w : World} {ad : Addr} {l : List Int} (h : Rd w ad l) (n : Nat) : Rd (w.drewN n) ad l := fun i hi => h i hi

theorem Rd.drew {w : World} {ad : Addr} {l : List Int} (h : Rd w ad l) : Rd w.drew ad l := fun i hi => h i hi

theorem u32_range (x : Int) : 0 ≤ IntKind.u32.wrap x ∧ IntKind.u32.wrap x < 4294967296 := by rw [IntKind.wrap_u32]; omega
theorem or_up (k : IntKind) (j : Nat) (hj : j ≤ k.bits) (hk : ∀ n : Int, 0 ≤ n → n < 2 ^ j → k.wrap n = n) (i : Nat)
    (x y : Int) (hx₀ : 0 ≤ x) (hx : x % 2 ^ i = 0) (hx₁ : x < 2 ^ j) (hy₀ : 0 ≤ y) (hy : y < 2 ^ i) (hy₁ : y < 2 ^ j) : Go.bits .or k y x = y + x := by
  have h := bits_join k j hj hk i x y hx₀ hx hx₁ hy₀ hy hy₁
  obtain ⟨a, rfl⟩ := Int.eq_ofNat_of_zero_le hx₀
  obtain ⟨b, rfl⟩ := Int.eq_ofNat_of_zero_le hy₀
  have ha : a < 2 ^ j := by exact_mod_cast hx₁
  have hb : b < 2 ^ j := by exact_mod_cast hy₁
  rw [(bits_nat k j hj hk b a hb ha).2, Nat.or_comm, ← (bits_nat k j hj hk a b ha hb).2, h, Int.add_comm]
theorem or32 (i : Nat) (x y : Int) (h0 : 0 ≤ x) (hx : x % 2 ^ i = 0) (h1 : x < 4294967296) (h2 : 0 ≤ y) (h3 : y < 2 ^ i) (h4 : y < 4294967296) : Go.bits .or .u32 y x = y + x :=
  or_up .u32 32 (by decide) (fun n a b => wraps_u32 n a (by simpa using b)) i x y h0 hx (by simpa using h1) h2 h3 (by simpa using h4)
theorem or64 (i : Nat) (x y : Int) (h0 : 0 ≤ x) (hx : x % 2 ^ i = 0) (h1 : x < 18446744073709551616) (h2 : 0 ≤ y) (h3 : y < 2 ^ i) (h4 : y < 18446744073709551616) : Go.bits .or .u64 y x = y + x :=
  or_up .u64 64 (by decide) (fun n a b => wraps_u64 n a (by simpa using b)) i x y h0 hx (by simpa using h1) h2 h3 (by simpa using h4)
theorem le32_or (l : List Int) (hb : Bytes l) : Go.bits .or .u32 (Go.bits .or .u32 (Go.bits .or .u32 (X.at' l 0) (X.at' l 1 * 256)) (X.at' l 2 * 65536)) (X.at' l 3 * 16777216) = X.le32 l := by
  have b0 := hb 0
  have b1 := hb 1
  have b2 := hb 2
  have b3 := hb 3
  rw [or32 8 (X.at' l 1 * 256) (X.at' l 0) (by omega) (by omega) (by omega) (by omega) (by omega) (by omega)]
  rw [or32 16 (X.at' l 2 * 65536) _ (by omega) (by omega) (by omega) (by omega) (by omega) (by omega)]
  rw [or32 24 (X.at' l 3 * 16777216) _ (by omega) (by omega) (by omega) (by omega) (by omega) (by omega)]
  rfl
theorem le32_range (l : List Int) (hb : Bytes l) : 0 ≤ X.le32 l ∧ X.le32 l < 4294967296 := by
  have b0 := hb 0
  have b1 := hb 1
  have b2 := hb 2
  have b3 := hb 3
  unfold X.le32
  omega

theorem get32_calls (ad : Addr) (n c : Nat) (l : List Int) (w : World) (hr : Rd w ad l) (hn : n = l.length) (h4 : 4 ≤ l.length) (hb : Bytes l) :
    Calls Try.prog 85 #[.slice (some ad) n c] w fun e w' => e = .returned (.int .u32 (X.le32 l)) ∧ ∃ m, w' = w.drewN m := by
  subst hn
  have h0 := hr 0 (by omega)
  have h1 := hr 1 (by omega)
  have h2 := hr 2 (by omega)
  have h3 := hr 3 (by omega)
  rw [Addr.add_zero'] at h0
  rw [add_pos _ _ (by omega)] at h1 h2 h3
  obtain ⟨p0, q0⟩ := hb 0
  obtain ⟨p1, q1⟩ := hb 1
  obtain ⟨p2, q2⟩ := hb 2
  obtain ⟨p3, q3⟩ := hb 3
  have l0 : 0 < l.length := by omega
  have l1 : 1 < l.length := by omega
  have l2 : 2 < l.length := by omega
  have l3 : 3 < l.length := by omega
  have m0 : (0 : Int) < (l.length : Int) := by omega
  have m1 : (1 : Int) < (l.length : Int) := by omega
  have m2 : (2 : Int) < (l.length : Int) := by omega
  have m3 : (3 : Int) < (l.length : Int) := by omega
  have HE := Lib.hid (le32_or l hb)
  clear hb hr
  go_enter Try.func85, Try.ntmps85
  go_wp2
  go_quiet (fail)
  go_wp2
  go_ret
  exact ⟨congrArg (fun z => Ending.returned (.int .u32 z)) HE.out, _, rfl⟩

/-- A digest of 32 bits lies at block g: what waits, how many came, the seed, four sums. -/
def IsD (w : World) (g : Nat) (r : Value) (n s : Int) (v : X.V4) : Prop :=
  w.heap[g]? = some (.cells #[r, .int .u64 n, .int .u32 s, .int .u32 v.a, .int .u32 v.b, .int .u32 v.c, .int .u32 v.d] 104 (0, 0))

theorem IsD.at {w : World} {g : Nat} {r : Value} {n s : Int} {v : X.V4} (h : IsD w g r n s v) (i : Nat) (u : Value) (hu : (#[r, .int .u64 n, .int .u32 s, .int .u32 v.a, .int .u32 v.b, .int .u32 v.c, .int .u32 v.d] : Array Value)[i]? = some u) :
    w.cell? ⟨g, i, none⟩ = some u ∧ w.frozen? ⟨g, i, none⟩ = false := ⟨(cell_of_row w g i _ 104 (0, 0) h).trans hu, blk_frozen h i⟩
/-- A store into the digest's block, behind draws: what it does to the digest, to others' cells, and to the world. -/
theorem put_world {w : World} {g : Nat} {t : TypeId} {cs : Array Value} (h : w.heap[g]? = some (.cells cs t (0, 0))) (m i : Nat) (u : Value) :
    ((w.drewN m).setCell ⟨g, i, none⟩ u).heap[g]? = some (.cells (cs.setIfInBounds i u) t (0, 0)) ∧ (∀ p : Addr, p.block ≠ g → ((w.drewN m).setCell ⟨g, i, none⟩ u).cell? p = w.cell? p) ∧
    w.grownBy ((w.drewN m).setCell ⟨g, i, none⟩ u) (some g) := by
  refine ⟨blk_set (w := w.drewN m) h i _, fun p hp => ?_, ?_⟩
  · have := Below.heap_setCell (w.drewN m) ⟨g, i, none⟩ u p.block hp
    have e : (w.drewN m).heap = w.heap := rfl
    rw [e] at this
    simp only [World.cell?, this]
  · refine ⟨rfl, rfl, rfl, by simp [World.setCell, World.drewN], fun j _ hj => ?_⟩
    exact Below.heap_setCell (w.drewN m) ⟨g, i, none⟩ u j (fun e => hj (congrArg some e))
theorem Rd.of_cells {w w1 : World} {ad : Addr} {l : List Int} (h : Rd w ad l) (hk : ∀ p : Addr, p.block = ad.block → w1.cell? p = w.cell? p) : Rd w1 ad l := fun i hi => by
  rw [hk _ (by unfold Addr.add; split <;> rfl)]; exact h i hi
theorem grown_then {w w1 w2 : World} {r : Option Nat} (h : w.grownBy w1 r) (h' : w1.grownBy w2 r) : w.grownBy w2 r :=
  ⟨h'.os.trans h.os, h'.tape.trans h.tape, h'.output.trans h.output, Nat.le_trans h.size h'.size, fun i hi hr => (h'.block i (Nat.lt_of_lt_of_le hi h.size) hr).trans (h.block i hi hr)⟩

set_option maxHeartbeats 4000000 in
theorem takes1_calls (ad : Addr) (c : Nat) (l : List Int) (bx g : Nat) (r : Value) (n s : Int) (v : X.V4) (w : World) (hr : Rd w ad l) (hl : l.length = 16) (hc : 16 ≤ c) (hb : Bytes l)
    (hx : w.cell? ⟨bx, 0, none⟩ = some (.pointer (some ⟨g, 0, none⟩))) (hd : IsD w g r n s v) (hne : bx ≠ g) (hag : ad.block ≠ g) :
    Calls Try.prog 83 #[.slice (some ad) 16 c, .pointer (some ⟨bx, 0, none⟩)] w fun e w' => e = .returned (.tuple #[]) ∧ IsD w' g r n s (X.stripe32 v l) ∧ w.grownBy w' (some g) := by
  have z0 : IntKind.i64.wrap 0 = 0 := by decide
  have z4 : IntKind.i64.wrap 4 = 4 := by decide
  have z8 : IntKind.i64.wrap 8 = 8 := by decide
  have z12 : IntKind.i64.wrap 12 = 12 := by decide
  have n4 : ¬ c = 4 := by omega
  have n8 : ¬ c = 8 := by omega
  have n12 : ¬ c = 12 := by omega
  have m4 : (4 : Int) ≤ (c : Int) := by omega
  obtain ⟨x0, f0⟩ := IsD.at hd 3 _ rfl
  have HD := Lib.hid hd
  have HG := Lib.hid (World.grownBy.refl w (some g))
  clear hd
  go_enter Try.func83, Try.ntmps83
  go_wp2
  refine wp_loop_rounds 5 ?_
  rw [rounds_succ]
  go_wp2
  refine QTail.wp_region_tail (C := fun w' => ∃ n, w' = w.drewN n) 20 (by kernel_rfl) (by kernel_rfl) ⟨1, rfl⟩ ?_
  simp only [List.take_succ_cons, List.take_zero, List.drop_succ_cons, List.drop_zero]
  repeat (quiet_step (first | (go_at_call 85; exact Calls.quiet_of (get32_calls ad _ _ l _ (hr.drewN _) hl.symm (by simp [hl]) (hb))) | (go_at_call 84; exact Calls.quiet_of_same (rotl32_calls _ 13 _ (by omega) (by omega) (u32_range _).1 (u32_range _).2))))
  refine wpQuiet_nil ?_
  intro _ hw'
  obtain ⟨nq, hw''⟩ := hw'
  subst hw''
  go_wp2
  obtain ⟨w1, hw1⟩ : ∃ z, z = (w.drewN nq).setCell ⟨g, 3, none⟩ (.int .u32 (X.step32 v.a (X.le32 l))) := ⟨_, rfl⟩
  have P1 := put_world HD.out nq 3 (.int .u32 (X.step32 v.a (X.le32 l)))
  rw [← hw1] at P1
  unfold X.step32 at hw1
  rw [← hw1]
  clear hw1
  obtain ⟨D1, K1, G1⟩ := P1
  have HD1 := Lib.hid (show IsD w1 g r n s ⟨X.step32 v.a (X.le32 l), v.b, v.c, v.d⟩ from D1)
  have HG1 := Lib.hid (grown_then HG.out G1)
  have r1 := Lib.hid (Rd.of_cells hr (fun p hp => K1 p (by rw [hp]; exact hag)))
  have hx1 := (K1 ⟨bx, 0, none⟩ hne).trans hx
  clear x0 f0 D1 K1 G1 HD HG hx
  have HD := HD1
  have HG := HG1
  have R1 := r1
  clear HD1 HG1 r1 hr
  obtain ⟨x0, f0⟩ := IsD.at HD.out 4 _ rfl
  have hr1 : Rd w1 ⟨ad.block, ad.off + 4, none⟩ (l.drop 4) := by
    have := R1.out.drop 4
    rwa [add_pos _ _ (by omega)] at this
  rw [rounds_succ]
  go_wp2
  refine QTail.wp_region_tail (C := fun w' => ∃ n, w' = w1.drewN n) 20 (by kernel_rfl) (by kernel_rfl) ⟨1, rfl⟩ ?_
  simp only [List.take_succ_cons, List.take_zero, List.drop_succ_cons, List.drop_zero]
  repeat (quiet_step (first | (go_at_call 85; exact Calls.quiet_of (get32_calls ⟨ad.block, ad.off + 4, none⟩ _ _ (l.drop 4) _ (hr1.drewN _) (by simp [hl]) (by simp [hl]) (hb.drop 4))) | (go_at_call 84; exact Calls.quiet_of_same (rotl32_calls _ 13 _ (by omega) (by omega) (u32_range _).1 (u32_range _).2))))
  refine wpQuiet_nil ?_
  intro _ hw'
  obtain ⟨nq, hw''⟩ := hw'
  subst hw''
  go_wp2
  obtain ⟨w2, hw2⟩ : ∃ z, z = (w1.drewN nq).setCell ⟨g, 4, none⟩ (.int .u32 (X.step32 v.b (X.le32 (l.drop 4)))) := ⟨_, rfl⟩
  have P2 := put_world HD.out nq 4 (.int .u32 (X.step32 v.b (X.le32 (l.drop 4))))
  rw [← hw2] at P2
  unfold X.step32 at hw2
  rw [← hw2]
  clear hw2
  obtain ⟨D2, K2, G2⟩ := P2
  have HD2 := Lib.hid (show IsD w2 g r n s ⟨X.step32 v.a (X.le32 l), X.step32 v.b (X.le32 (l.drop 4)), v.c, v.d⟩ from D2)
  have HG2 := Lib.hid (grown_then HG.out G2)
  have r2 := Lib.hid (Rd.of_cells R1.out (fun p hp => K2 p (by rw [hp]; exact hag)))
  have hx2 := (K2 ⟨bx, 0, none⟩ hne).trans hx1
  clear x0 f0 D2 K2 G2 HD HG hx1
  have HD := HD2
  have HG := HG2
  have R2 := r2
  clear HD2 HG2 r2 R1
  obtain ⟨x0, f0⟩ := IsD.at HD.out 5 _ rfl
  have hr2 : Rd w2 ⟨ad.block, ad.off + 8, none⟩ (l.drop 8) := by
    have := R2.out.drop 8
    rwa [add_pos _ _ (by omega)] at this
  rw [rounds_succ]
  go_wp2
  refine QTail.wp_region_tail (C := fun w' => ∃ n, w' = w2.drewN n) 20 (by kernel_rfl) (by kernel_rfl) ⟨1, rfl⟩ ?_
  simp only [List.take_succ_cons, List.take_zero, List.drop_succ_cons, List.drop_zero]
  repeat (quiet_step (first | (go_at_call 85; exact Calls.quiet_of (get32_calls ⟨ad.block, ad.off + 8, none⟩ _ _ (l.drop 8) _ (hr2.drewN _) (by simp [hl]) (by simp [hl]) (hb.drop 8))) | (go_at_call 84; exact Calls.quiet_of_same (rotl32_calls _ 13 _ (by omega) (by omega) (u32_range _).1 (u32_range _).2))))
  refine wpQuiet_nil ?_
  intro _ hw'
  obtain ⟨nq, hw''⟩ := hw'
  subst hw''
  go_wp2
  obtain ⟨w3, hw3⟩ : ∃ z, z = (w2.drewN nq).setCell ⟨g, 5, none⟩ (.int .u32 (X.step32 v.c (X.le32 (l.drop 8)))) := ⟨_, rfl⟩
  have P3 := put_world HD.out nq 5 (.int .u32 (X.step32 v.c (X.le32 (l.drop 8))))
  rw [← hw3] at P3
  unfold X.step32 at hw3
  rw [← hw3]
  clear hw3
  obtain ⟨D3, K3, G3⟩ := P3
  have HD3 := Lib.hid (show IsD w3 g r n s ⟨X.step32 v.a (X.le32 l), X.step32 v.b (X.le32 (l.drop 4)), X.step32 v.c (X.le32 (l.drop 8)), v.d⟩ from D3)
  have HG3 := Lib.hid (grown_then HG.out G3)
  have r3 := Lib.hid (Rd.of_cells R2.out (fun p hp => K3 p (by rw [hp]; exact hag)))
  have hx3 := (K3 ⟨bx, 0, none⟩ hne).trans hx2
  clear x0 f0 D3 K3 G3 HD HG hx2
  have HD := HD3
  have HG := HG3
  have R3 := r3
  clear HD3 HG3 r3 R2
  obtain ⟨x0, f0⟩ := IsD.at HD.out 6 _ rfl
  have hr3 : Rd w3 ⟨ad.block, ad.off + 12, none⟩ (l.drop 12) := by
    have := R3.out.drop 12
    rwa [add_pos _ _ (by omega)] at this
  rw [rounds_succ]
  go_wp2
  refine QTail.wp_region_tail (C := fun w' => ∃ n, w' = w3.drewN n) 20 (by kernel_rfl) (by kernel_rfl) ⟨1, rfl⟩ ?_
  simp only [List.take_succ_cons, List.take_zero, List.drop_succ_cons, List.drop_zero]
  repeat (quiet_step (first | (go_at_call 85; exact Calls.quiet_of (get32_calls ⟨ad.block, ad.off + 12, none⟩ _ _ (l.drop 12) _ (hr3.drewN _) (by simp [hl]) (by simp [hl]) (hb.drop 12))) | (go_at_call 84; exact Calls.quiet_of_same (rotl32_calls _ 13 _ (by omega) (by omega) (u32_range _).1 (u32_range _).2))))
  refine wpQuiet_nil ?_
  intro _ hw'
  obtain ⟨nq, hw''⟩ := hw'
  subst hw''
  go_wp2
  obtain ⟨w4, hw4⟩ : ∃ z, z = (w3.drewN nq).setCell ⟨g, 6, none⟩ (.int .u32 (X.step32 v.d (X.le32 (l.drop 12)))) := ⟨_, rfl⟩
  have P4 := put_world HD.out nq 6 (.int .u32 (X.step32 v.d (X.le32 (l.drop 12))))
  rw [← hw4] at P4
  unfold X.step32 at hw4
  rw [← hw4]
  clear hw4
  obtain ⟨D4, K4, G4⟩ := P4
  have HD4 := Lib.hid (show IsD w4 g r n s ⟨X.step32 v.a (X.le32 l), X.step32 v.b (X.le32 (l.drop 4)), X.step32 v.c (X.le32 (l.drop 8)), X.step32 v.d (X.le32 (l.drop 12))⟩ from D4)
  have HG4 := Lib.hid (grown_then HG.out G4)
  have r4 := Lib.hid (Rd.of_cells R3.out (fun p hp => K4 p (by rw [hp]; exact hag)))
  have hx4 := (K4 ⟨bx, 0, none⟩ hne).trans hx3
  clear x0 f0 D4 K4 G4 HD HG hx3
  have HD := HD4
  have HG := HG4
  have R4 := r4
  clear HD4 HG4 r4 R3
  rw [rounds_succ]
  go_wp2
  go_end0
  exact ⟨rfl, HD.out, HG.out⟩
end Go.Proofs.Ytnkcbkfccbfjpaa.XxhW
/- Contract of slices.Clone at []byte: the same bytes, in memory of the call's own. Condition: fewer than 2^47 bytes. -/
namespace Go.Proofs.Ytnkcbkfccbfjpaa.XxhW
open Go.RowKit Go.Proofs.YtnkcbkfccbfjpaaW.PrintWords Go.Proofs.YtnkcbkfccbfjpaaW.PrintLast Go.Proofs.YtnkcbkfccbfjpaaW.PrintMore
set_option linter.unusedVariables false
set_option linter.unusedSimpArgs false
theorem info5 : (Try.prog.info? 5).map (fun i => (i.zero, i.size, i.bytes)) = some (some (.int .u8 0), 1, 1) := by kernel_rfl

theorem clone_nil (n c : Nat) (w : World) : Calls Try.prog 68 #[.slice none n c] w fun e w' => e = .returned (.slice none 0 0) ∧ w' = w := by
  have hq := @Lib.run_eql_slice_nil Try.prog
  go_enter Try.func68, Try.ntmps68
  go_wp2
  go_ret
  exact ⟨rfl, rfl⟩

theorem clone_some (ad : Addr) (c : Nat) (l : List Int) (w : World) (hr : ReadsInt w .u8 (some ad) l.length l) (hl : l.length ≤ 140737488355327) :
    Calls Try.prog 68 #[.slice (some ad) l.length c] w fun e w' => ∃ v, e = .returned v ∧ w'.ownsRow w.heap.size 5 1 v l.length (nums .u8 l) ∧ Below w.heap.size w w' := by
  have hq := @Lib.run_eql_slice_nil Try.prog
  have hb : Below w.heap.size w (w.alloc (.cells #[] 5)) := below_alloc (Below.refl _ _) _
  have ho : (w.alloc (.cells #[] 5)).ownsRow w.heap.size 5 1 (.slice (some ⟨w.heap.size, 0, none⟩) 0 0) ([] : List Int).length (nums .u8 []) := own_lit w w.heap.size 5 .u8 [] (Nat.le_refl _) (by simp)
  go_enter Try.func68, Try.ntmps68
  go_wp2_with (first | (at_builtin; refine print_append_row (w0 := w) w.heap.size rfl (.tmp 5) (.tmp 6) 22 5 .u8 1 rfl Try.underlying22 info5 (by decide) (.slice (some ⟨w.heap.size, 0, none⟩) 0 0) [] l (some ad) l.length c rfl rfl ho (hr.below hb) hb (by simp) (by simp; omega) ?_; intro v1 w1 hO hB hG hA))
  go_ret
  exact ⟨v1, rfl, by simpa using hO, hB⟩

/-- Whatever the slice: what it reads is owned by the result. -/
theorem clone_any (A : Option Addr) (c : Nat) (l : List Int) (w : World) (hr : ReadsInt w .u8 A l.length l) (hl : l.length ≤ 140737488355327) :
    Calls Try.prog 68 #[.slice A l.length c] w fun e w' => ∃ A' c', e = .returned (.slice A' l.length c') ∧ w'.ownsRow w.heap.size 5 1 (.slice A' l.length c') l.length (nums .u8 l) ∧ Below w.heap.size w w' := by
  cases A with
  | some ad =>
    refine (clone_some ad c l w hr hl).mono fun e w' ⟨v, he, ho, hb⟩ => ?_
    obtain ⟨A', c', rfl⟩ := own_slice ho
    exact ⟨A', c', he, ho, hb⟩
  | none =>
    have h0 : l.length = 0 := by
      rcases Nat.eq_zero_or_pos l.length with h | h
      · exact h
      · obtain ⟨ad, e, _⟩ := hr.2.2 h; cases e
    obtain rfl : l = [] := List.eq_nil_of_length_eq_zero h0
    exact (clone_nil _ c w).mono fun e w' ⟨he, hw⟩ => by
      subst he hw
      exact ⟨_, _, rfl, own_nil _ _ _ _, Below.refl _ _⟩
end Go.Proofs.Ytnkcbkfccbfjpaa.XxhW
/- Contract of xxh's pieces, at digests of 32 bits: what waited and what came is taken in whole stripes, what is left waits. Conditions: the lengths stay below 2^47; bytes are bytes. -/
namespace Go.Proofs.Ytnkcbkfccbfjpaa.XxhW
open Go.RowKit Go.Proofs.YtnkcbkfccbfjpaaW.PrintWords Go.Proofs.YtnkcbkfccbfjpaaW.PrintLast Go.Proofs.YtnkcbkfccbfjpaaW.PrintMore
set_option linter.unusedVariables false
set_option linter.unusedSimpArgs false
/-- Behind what happened, the world is as it was at the blocks that ok holds of. -/
structure Fr (w w' : World) (ok : Nat → Prop) : Prop where
  os : w'.os = w.os
  tape : w'.tape = w.tape
  output : w'.output = w.output
  size : w.heap.size ≤ w'.heap.size
  block : ∀ i, i < w.heap.size → ok i → w'.heap[i]? = w.heap[i]?
theorem Fr.refl (w : World) (ok : Nat → Prop) : Fr w w ok := ⟨rfl, rfl, rfl, Nat.le_refl _, fun _ _ _ => rfl⟩
theorem Fr.then {w w1 w2 : World} {ok : Nat → Prop} (h : Fr w w1 ok) (h' : Fr w1 w2 ok) : Fr w w2 ok :=
  ⟨h'.os.trans h.os, h'.tape.trans h.tape, h'.output.trans h.output, Nat.le_trans h.size h'.size, fun i hi ho => (h'.block i (Nat.lt_of_lt_of_le hi h.size) ho).trans (h.block i hi ho)⟩
theorem Fr.mono {w w1 : World} {ok ok' : Nat → Prop} (h : Fr w w1 ok) (hk : ∀ i, i < w.heap.size → ok' i → ok i) : Fr w w1 ok' := ⟨h.os, h.tape, h.output, h.size, fun i hi ho => h.block i hi (hk i hi ho)⟩
/-- The second step speaks of the blocks that stood ahead of the first alone. -/
theorem Fr.then' {w w1 w2 : World} {ok ok' : Nat → Prop} (h : Fr w w1 ok) (h' : Fr w1 w2 ok') (hk : ∀ i, i < w.heap.size → ok i → ok' i) : Fr w w2 ok :=
  ⟨h'.os.trans h.os, h'.tape.trans h.tape, h'.output.trans h.output, Nat.le_trans h.size h'.size, fun i hi ho => (h'.block i (Nat.lt_of_lt_of_le hi h.size) (hk i hi ho)).trans (h.block i hi ho)⟩
theorem Fr.of_grown {w w1 : World} {row : Option Nat} (h : w.grownBy w1 row) : Fr w w1 (fun i => some i ≠ row) := ⟨h.os, h.tape, h.output, h.size, fun i hi ho => h.block i hi ho⟩
theorem Fr.of_below {w w1 : World} (h : Below w.heap.size w w1) (ok : Nat → Prop) : Fr w w1 ok := ⟨h.os, h.tape, h.output, h.size, fun i hi _ => h.block i hi⟩
theorem Fr.below {w w1 : World} {ok : Nat → Prop} {B : Nat} (h : Fr w w1 ok) (hk : ∀ i, i < B → i < w.heap.size ∧ ok i) : Below B w w1 := ⟨h.os, h.tape, h.output, h.size, fun i hi => h.block i (hk i hi).1 (hk i hi).2⟩
theorem Fr.set {w : World} (p : Addr) (u : Value) : Fr w (w.setCell p u) (fun i => i ≠ p.block) := ⟨rfl, rfl, rfl, by simp [World.setCell], fun i _ hi => Below.heap_setCell w p u i hi⟩
theorem Fr.heap {w w1 : World} {ok : Nat → Prop} (h : Fr w w1 ok) {i : Nat} {o : Obj} (hb : w.heap[i]? = some o) (hi : ok i) : w1.heap[i]? = some o := (h.block i (blk_lt hb) hi).trans hb
theorem Fr.cell {w w1 : World} {ok : Nat → Prop} (h : Fr w w1 ok) {p : Addr} {u : Value} (hc : w.cell? p = some u) (hi : ok p.block) : w1.cell? p = some u := by
  have := h.block p.block (World.block_lt_of_cell? w p hc) hi
  simpa [World.cell?, this] using hc
theorem add_block (ad : Addr) (i : Nat) : (ad.add i).block = ad.block := by unfold Addr.add; split <;> rfl
theorem reads_fr {w w1 : World} {ok : Nat → Prop} (h : Fr w w1 ok) {k : IntKind} {A : Option Addr} {n : Nat} {l : List Int} (hr : ReadsInt w k A n l) (hi : ∀ ad, A = some ad → 0 < n → ok ad.block) : ReadsInt w1 k A n l :=
  ⟨hr.1, hr.2.1, fun h0 => by
    obtain ⟨ad, e, hc⟩ := hr.2.2 h0
    exact ⟨ad, e, fun j hj => h.cell (hc j hj) (by rw [add_block]; exact hi ad e h0)⟩⟩
theorem rd_of_reads {w : World} {ad : Addr} {n : Nat} {l : List Int} (hr : ReadsInt w .u8 (some ad) n l) : Rd w ad l := fun i hi => by
  obtain ⟨ad', e, hc⟩ := hr.2.2 (by have := hr.1; omega)
  cases e
  exact hc i (by have := hr.1; omega)

/-- Bytes that are read lie in no block whose cells are no bytes. -/
theorem apart_of_reads {w : World} {k : IntKind} {ad : Addr} {n g : Nat} {t : TypeId} {l : List Int} {cs : Array Value} (hr : ReadsInt w k (some ad) n l) (h0 : 0 < n) (hd : w.heap[g]? = some (.cells cs t (0, 0)))
    (hcs : ∀ (o : Nat) (k' : IntKind) (z : Int), cs[o]? = some (.int k' z) → k' ≠ k) : ad.block ≠ g := by
  intro hq
  obtain ⟨ad', e', hc⟩ := hr.2.2 h0
  cases e'
  have hc0 := hc 0 h0
  rw [Addr.add_zero'] at hc0
  unfold World.cell? at hc0
  rw [hq, hd] at hc0
  simp only at hc0
  split at hc0
  · cases hc0
  · exact hcs _ _ _ hc0 rfl

/-- n rounds and one more. -/
theorem run_snoc (j : Nat) : ∀ (v : X.V4) (l : List Int), X.run32 (j + 1) v l = X.stripe32 (X.run32 j v l) (l.drop (16 * j)) := by
  induction j with
  | zero => intro v l; rfl
  | succ j ih =>
    intro v l
    rw [X.run32, ih]
    rw [X.run32, List.drop_drop]
    congr 2
    omega

theorem Bytes.take {l : List Int} (h : Bytes l) (k : Nat) : Bytes (l.take k) := fun i => by
  have := h i
  by_cases hi : i < k
  · simpa [X.at', List.getD_eq_getElem?_getD, List.getElem?_take, hi] using this
  · simp [X.at', List.getD_eq_getElem?_getD, List.getElem?_take, hi]
theorem le_take (l : List Int) (k m : Nat) (h : k + 4 ≤ m) : X.le32 ((l.take m).drop k) = X.le32 (l.drop k) := by
  have e : ∀ i, i < 4 → X.at' ((l.take m).drop k) i = X.at' (l.drop k) i := fun i hi => by
    have : k + i < m := by omega
    simp [X.at', List.getD_eq_getElem?_getD, List.getElem?_take, List.getElem?_drop, this]
  simp only [X.le32, e 0 (by omega), e 1 (by omega), e 2 (by omega), e 3 (by omega)]
theorem stripe_take (v : X.V4) (l : List Int) (h : 16 ≤ l.length) : X.stripe32 v (l.take 16) = X.stripe32 v l := by
  have e0 := le_take l 0 16 (by omega)
  simp only [List.drop_zero] at e0
  simp only [X.stripe32, e0, le_take l 4 16 (by omega), le_take l 8 16 (by omega), le_take l 12 16 (by omega)]
theorem own_lower {w : World} {base base' : Nat} {e : TypeId} {size n : Nat} {v : Value} {xs : List Value} (h : w.ownsRow base e size v n xs) (hb : base' ≤ base) : w.ownsRow base' e size v n xs := by
  refine ⟨h.1, ?_⟩
  rcases h.2 with h | ⟨g, cap, cur, a, b, c⟩
  · exact .inl h
  · exact .inr ⟨g, cap, cur, a, Nat.le_trans hb b, c⟩

/-- What waits reads as this; it lies apart from block g. -/
def Waits (w : World) (g : Nat) (A : Option Addr) (n c : Nat) (l : List Int) : Prop := ReadsInt w .u8 A n l ∧ n ≤ c

theorem own_waits {w : World} {base g : Nat} {v : Value} {l : List Int} (h : w.ownsRow base 5 1 v l.length (nums .u8 l)) : ∃ A c, v = .slice A l.length c ∧ Waits w g A l.length c l := by
  obtain ⟨A, c, e, hr⟩ := own_reads h
  refine ⟨A, c, e, hr, ?_⟩
  rcases h.2 with ⟨hv, h0⟩ | ⟨q, cap, cur, hv, _, _, hn, _⟩
  · rw [h0]; exact Nat.zero_le _
  · rw [hv] at e; injection e with _ _ e3; omega
theorem apart_D {w : World} {ad : Addr} {n g m c : Nat} {A : Option Addr} {N s : Int} {v : X.V4} {l : List Int} (hr : ReadsInt w .u8 (some ad) n l) (h0 : 0 < n) (hd : IsD w g (.slice A m c) N s v) : ad.block ≠ g :=
  apart_of_reads hr h0 hd (fun o k z h => by
    rcases o with _ | _ | _ | _ | _ | _ | _ | o <;> simp at h
    all_goals (obtain ⟨rfl, _⟩ := h; decide))

set_option maxHeartbeats 4000000 in
set_option maxRecDepth 100000 in
theorem pieces_calls (A : Option Addr) (c : Nat) (b rl : List Int) (bx g base N : Nat) (rv : Value) (s : Int) (v : X.V4) (w : World) (hr : ReadsInt w .u8 A b.length b) (hb : Bytes (rl ++ b))
    (hx : w.heap[bx]? = some (.cells #[.pointer (some ⟨g, 0, none⟩)] 45 (0, 0))) (hd : IsD w g rv N s v) (ho : w.ownsRow base 5 1 rv rl.length (nums .u8 rl)) (hbase : base ≤ w.heap.size)
    (hl : rl.length + b.length ≤ 140737488355327) (hN : N ≤ 4611686018427387904) :
    Calls Try.prog 82 #[.pointer (some ⟨g, 0, none⟩), .slice A b.length c, .int .i64 16, .func (.func 83) #[] #[.pointer (some ⟨bx, 0, none⟩)]] w fun e w' => e = .returned (.tuple #[]) ∧
      ∃ rv', IsD w' g rv' ((N + b.length : Nat) : Int) s (X.run32 ((rl ++ b).length / 16) v (rl ++ b)) ∧ w'.ownsRow w.heap.size 5 1 rv' (X.rest 16 (rl ++ b)).length (nums .u8 (X.rest 16 (rl ++ b))) ∧
        Fr w w' (fun i => i ≠ g ∧ some i ≠ rv.ownBlock) := by
  obtain ⟨al, eal⟩ : ∃ al, al = rl ++ b := ⟨_, rfl⟩
  rw [← eal] at hb ⊢
  have hal : al.length = rl.length + b.length := by rw [eal]; simp
  have Hal := Aside0.mk hal
  have Heal := Aside0.mk eal
  clear hal eal
  have hneg : bx ≠ g := blk_ne hx hd (by decide)
  obtain ⟨x0, f0⟩ := IsD.at hd 0 rv rfl
  obtain ⟨x1, f1⟩ := IsD.at hd 1 (.int .u64 N) rfl
  have n0 : (0 : Int) ≤ (N : Int) := by omega
  have nb0 : (0 : Int) ≤ (b.length : Int) := by omega
  have nb1 : (b.length : Int) ≤ 140737488355327 := by omega
  have nn : (N : Int) ≤ 4611686018427387904 := by omega
  have F1 : Fr w (w.setCell ⟨g, 1, none⟩ (.int .u64 ((N : Int) + (b.length : Int)))) (fun i => i ≠ g) := Fr.set ⟨g, 1, none⟩ _
  have D1 : (w.setCell ⟨g, 1, none⟩ (.int .u64 ((N : Int) + (b.length : Int)))).heap[g]? = some (.cells #[rv, .int .u64 ((N : Int) + (b.length : Int)), .int .u32 s, .int .u32 v.a, .int .u32 v.b, .int .u32 v.c, .int .u32 v.d] 104 (0, 0)) := blk_set hd 1 _
  have hag : ∀ ad, A = some ad → 0 < b.length → ad.block ≠ g := fun ad e h0 => apart_of_reads (e ▸ hr) h0 hd (fun o k z h => by
    rcases o with _ | _ | _ | _ | _ | _ | _ | o <;> simp at h
    · rcases ho.2 with ⟨hv, _⟩ | ⟨_, _, _, hv, _⟩ <;> rw [hv] at h <;> cases h
    all_goals (obtain ⟨rfl, _⟩ := h; decide))
  have hne : some g ≠ rv.ownBlock := own_ne ho (show w.heap[g]? = some (.cells _ 104 (0, 0)) from hd) (by decide)
  have O1 : (w.setCell ⟨g, 1, none⟩ (.int .u64 ((N : Int) + (b.length : Int)))).ownsRow base 5 1 rv rl.length (nums .u8 rl) := own_setCell ho hne _
  have hrv : ∃ A n c, rv = .slice A n c := by obtain ⟨A, c, e⟩ := own_slice ho; exact ⟨_, _, _, e⟩
  have hrow : some bx ≠ rv.ownBlock := own_ne ho hx (by decide)
  have HR1 := Aside0.mk (reads_fr F1 hr (fun ad e h0 => hag ad e h0))
  have HO1 := Aside0.mk O1
  have HD1 := Aside0.mk D1
  have HF1 := Aside0.mk F1
  have HB1 := Aside0.mk (Nat.le_trans hbase F1.size)
  clear O1 D1 F1 hag hr ho
  go_enter Try.func82, Try.ntmps82
  go_wp2_with (first | (at_builtin; refine print_append_row (w0 := (w.setCell ⟨g, 1, none⟩ (.int .u64 ((N : Int) + (b.length : Int))))) base rfl (.tmp 22) (.tmp 23) 22 5 .u8 1 rfl Try.underlying22 info5 (by decide) rv rl b A b.length c rfl rfl HO1.out HR1.out (Below.refl _ _) HB1.out (by omega) ?_; intro v1 w2 hO hB hG hA; rw [← Heal.out] at hO; have HD2 := Aside0.mk (blk_grown HD1.out hG hne); have x2 : w2.cell? ⟨g, 0, none⟩ = some rv := cell_of_row w2 g 0 _ 104 (0, 0) HD2.out; have f2 : w2.frozen? ⟨g, 0, none⟩ = false := blk_frozen HD2.out 0; obtain ⟨A2, c2, ev, hW⟩ := own_waits (g := g) hO; subst ev; have HW2 := Aside0.mk hW; clear hW; have HO2 := Aside0.mk hO; have HG2 := Aside0.mk hG; have HA2 := Aside0.mk hA; clear hO hB hG hA))
  have e9 : ((N : Int) + (b.length : Int)) = ((N + b.length : Nat) : Int) := by omega
  obtain ⟨w3, hw3⟩ : ∃ z, z = w2.setCell ⟨g, 0, none⟩ (.slice A2 al.length c2) := ⟨_, rfl⟩
  rw [← hw3]
  have F3 : Fr w w3 (fun i => i ≠ g ∧ some i ≠ rv.ownBlock) := by
    rw [hw3]
    exact ((HF1.out.mono (fun i _ h => h.1)).then' (Fr.of_grown HG2.out) (fun i _ h => h.2)).then' (Fr.set ⟨g, 0, none⟩ _) (fun i _ h => h.1)
  have D3 : IsD w3 g (.slice A2 al.length c2) (N + b.length : Nat) s (X.run32 0 v al) := by
    rw [hw3, ← e9]; exact blk_set HD2.out 0 _
  have W3 : Waits w3 g A2 (al.length - 16 * 0) c2 (al.drop (16 * 0)) := by
    rw [hw3]
    exact ⟨reads_fr (Fr.set ⟨g, 0, none⟩ _) HW2.out.1 (fun ad e h0 => apart_of_reads (e ▸ HW2.out.1) h0 HD2.out (fun o k z h => by
      rcases o with _ | _ | _ | _ | _ | _ | _ | o <;> simp at h
      · exact absurd h (by rcases hrv with ⟨_, _, _, e⟩; rw [e]; simp)
      all_goals (obtain ⟨rfl, _⟩ := h; decide))), HW2.out.2⟩
  clear e9 hw3 HA2 HG2 HO2 HW2 HD2 HF1 HD1 HO1 HR1 HB1 x2 f2 x0 f0 x1 f1
  have HF := Aside0.mk F3
  have HD := Aside0.mk D3
  have HW := Aside0.mk W3
  clear F3 D3 W3
  go_loopg [] (al.length / 16) (fun kq wc => ∃ (j : Nat) (A' : Option Addr) (c' : Nat), kq + j = al.length / 16 ∧ Aside0 (IsD wc g (.slice A' (al.length - 16 * j) c') (N + b.length : Nat) s (X.run32 j v al)) ∧
    Aside0 (Waits wc g A' (al.length - 16 * j) c' (al.drop (16 * j))) ∧ Aside0 (Fr w wc (fun i => i ≠ g ∧ some i ≠ rv.ownBlock)))
  case atStart => exact ⟨0, A2, c2, by omega, HD, HW, HF⟩
  case round =>
    clear HD HW HF
    obtain ⟨j, A', c', hk, HD, HW, HF⟩ := hrel
    obtain ⟨L, eL⟩ : ∃ L, L = al.drop (16 * j) := ⟨_, rfl⟩
    have eLl : al.length - 16 * j = L.length := by rw [eL]; simp
    rw [eLl] at HD HW
    rw [← eL] at HW
    have HeL := Aside0.mk eL
    have HeLl := Aside0.mk eLl
    have hLs : L.length ≤ 140737488355327 := by have := Hal.out; omega
    have hLb : Bytes L := by rw [eL]; exact hb.drop _
    have HLb := Aside0.mk hLb
    clear eL eLl hLb
    have HbX := Aside0.mk (HF.out.heap hx ⟨hneg, fun e => hrow e⟩)
    have hbx : wr.cell? ⟨bx, 0, none⟩ = some (.pointer (some ⟨g, 0, none⟩)) := cell_of_one HbX.out
    obtain ⟨y0, g0⟩ := IsD.at HD.out 0 (.slice A' L.length c') rfl
    have hLc : L.length ≤ c' := HW.out.2
    cases gk with
    | zero =>
      have hlt : L.length < 16 := by have := HeLl.out; have := Nat.div_add_mod al.length 16; have := Nat.mod_lt al.length (show 0 < 16 by decide); omega
      have hlt' : (L.length : Int) < 16 := by omega
      have Hk := Aside0.mk hk
      have HLs := Aside0.mk hLs
      have HLc := Aside0.mk hLc
      clear hk hd hrv hb hl hN hLc hbase
      go_wp2_with (first | ((with_reducible refine gate_callee (f := 68) rfl ?_); refine goesL_ (some 56) rfl rfl Try.func68 (by kernel_rfl) rfl #[.slice A' L.length c'] rfl (by (try simp only [List.map_toArray, List.map_cons, List.map_nil]); first | done | rfl) ?_; refine (clone_any A' c' L _ HW.out.1 hLs).mono ?_; rintro e w5 ⟨A5, c5, rfl, hO5, hB5⟩; refine ⟨_, rfl, ?_⟩; have HO5 := Aside0.mk hO5; have HB5 := Aside0.mk hB5; have HD5 := Aside0.mk (show w5.heap[g]? = some (.cells _ 104 (0, 0)) from (hB5.block g (blk_lt HD.out)).trans HD.out); have f5 : w5.frozen? ⟨g, 0, none⟩ = false := blk_frozen HD5.out 0; have x5 : w5.cell? ⟨g, 0, none⟩ = some (.slice A' L.length c') := cell_of_row w5 g 0 _ 104 (0, 0) HD5.out; clear hO5 hB5))
      go_end0
      have eM : j = al.length / 16 := by have := Hk.out; omega
      have eR : X.rest 16 al = L := by rw [X.rest, ← eM]; exact HeL.out.symm
      refine ⟨rfl, .slice A5 L.length c5, ?_, ?_, ?_⟩
      · rw [← eM]; exact blk_set HD5.out 0 _
      · rw [eR]
        have hne5 : some g ≠ (Value.slice A5 L.length c5).ownBlock := own_ne HO5.out HD5.out (by decide)
        have := own_setCell (p := ⟨g, 0, none⟩) HO5.out hne5 (.slice A5 L.length c5)
        exact own_lower this HF.out.size
      · exact (HF.out.then' (Fr.of_below HB5.out (fun _ => True)) (fun _ _ _ => trivial)).then' (Fr.set ⟨g, 0, none⟩ _) (fun i _ h => h.1)
    | succ k1 =>
      have hge : 16 ≤ L.length := by have := HeLl.out; have := Nat.div_mul_le_self al.length 16; omega
      have hge' : (16 : Int) ≤ (L.length : Int) := by omega
      have hc16 : (16 : Int) ≤ (c' : Int) := by omega
      obtain ⟨ad, rfl, _⟩ := HW.out.1.2.2 (by omega)
      have hadg : ad.block ≠ g := apart_D HW.out.1 (by omega) HD.out
      have HT := Aside0.mk (Rd.take (rd_of_reads HW.out.1) 16)
      have HTl := Aside0.mk (show (L.take 16).length = 16 by simp; omega)
      have HTb := Aside0.mk (HLb.out.take 16)
      have HstripeL := Aside0.mk (stripe_take (X.run32 j v al) L hge)
      have HdropL := Aside0.mk (show al.drop (16 * (j + 1)) = L.drop 16 by rw [HeL.out, List.drop_drop, Nat.mul_succ])
      obtain ⟨i05, hi05, _, hsz5, _⟩ := info_parts info5
      obtain ⟨A1, hcut, hA1⟩ := print_cut (P := Try.prog) 22 5 .i64 Try.underlying22 hi05 hsz5 (some ad) L.length c' 16 hge
      have HA1 := Aside0.mk hA1
      have hcut' : ∀ W : World, (Instr.slice 22 (.slice (some ad) L.length c') (some (.int .i64 16)) none none).run Try.prog W = .ok (.slice A1 (L.length - 16) (c' - 16)) W := hcut
      clear hA1 hi05 hsz5 hcut
      go_wp2_with (first | (go_at_call 83; refine (takes1_calls ad c' (L.take 16) bx g (.slice (some ad) L.length c') ((N + b.length : Nat) : Int) s (X.run32 j v al) _ HT.out HTl.out (by omega) HTb.out hbx HD.out hneg hadg).mono ?_; rintro e w4 ⟨rfl, hD4, hG4⟩; have HD4 := Aside0.mk hD4; have F4' := Aside0.mk ((Fr.of_grown hG4).mono (ok' := fun i => i ≠ g) (fun i _ h e => h (by injection e))); have x4 : w4.cell? ⟨g, 0, none⟩ = some (.slice (some ad) L.length c') := (IsD.at hD4 0 _ rfl).1; have f4 : w4.frozen? ⟨g, 0, none⟩ = false := (IsD.at hD4 0 (.slice (some ad) L.length c') rfl).2; clear hD4 hG4))
      go_roundg k1
      case measure => omega
      case rel =>
        have F4 := F4'.out
        have e1 : al.length - 16 * (j + 1) = L.length - 16 := by have := HeLl.out; omega
        refine ⟨j + 1, A1, c' - 16, by omega, ⟨?_⟩, ⟨?_⟩, ⟨?_⟩⟩
        · rw [run_snoc, ← HeL.out, ← HstripeL.out, e1]
          exact blk_set HD4.out 0 _
        · rw [e1, HdropL.out]
          exact ⟨reads_fr (F4.then (Fr.set ⟨g, 0, none⟩ _)) (HA1.out _ _ _ hLc HW.out.1) (fun ad' e h0 => apart_D (e ▸ HA1.out _ _ _ hLc HW.out.1) h0 HD.out), by omega⟩
        · exact (HF.out.then' F4 (fun i _ h => h.1)).then' (Fr.set ⟨g, 0, none⟩ _) (fun i _ h => h.1)
end Go.Proofs.Ytnkcbkfccbfjpaa.XxhW
/- Contracts of xxh's begun32 and takes (32 bits). Conditions: the lengths stay below 2^47; bytes are bytes. -/
namespace Go.Proofs.Ytnkcbkfccbfjpaa.XxhW
open Go.RowKit Go.Proofs.YtnkcbkfccbfjpaaW.PrintWords Go.Proofs.YtnkcbkfccbfjpaaW.PrintLast Go.Proofs.YtnkcbkfccbfjpaaW.PrintMore
set_option linter.unusedVariables false
set_option linter.unusedSimpArgs false
theorem IsD.alloc {w : World} {g : Nat} {r : Value} {n s : Int} {v : X.V4} (h : IsD w g r n s v) (o : Obj) : IsD (w.alloc o) g r n s v :=
  (below_alloc (Below.refl _ _) o).block g (blk_lt h) |>.trans h

theorem begun_calls (s : Int) (w : World) (h0 : 0 ≤ s) (h1 : s < 4294967296) :
    Calls Try.prog 52 #[.int .u32 s] w fun e w' => e = .returned (.pointer (some ⟨w.heap.size, 0, none⟩)) ∧ IsD w' w.heap.size (.slice none 0 0) 0 s (X.init32 s) ∧ Below w.heap.size w w' := by
  go_enter Try.func52, Try.ntmps52
  go_wp2
  go_ret
  refine ⟨rfl, ?_, below_alloc (Below.refl _ _) _⟩
  have := heap_alloc_new w (.cells #[.slice none 0 0, .int .u64 0, .int .u32 s, .int .u32 (X.init32 s).a, .int .u32 (X.init32 s).b, .int .u32 (X.init32 s).c, .int .u32 (X.init32 s).d] 104)
  simpa [IsD, X.init32] using this

set_option maxHeartbeats 1000000 in
theorem takes_calls (A : Option Addr) (c : Nat) (b rl : List Int) (g base N : Nat) (rv : Value) (s : Int) (v : X.V4) (w : World) (hr : ReadsInt w .u8 A b.length b) (hb : Bytes (rl ++ b))
    (hd : IsD w g rv N s v) (ho : w.ownsRow base 5 1 rv rl.length (nums .u8 rl)) (hbase : base ≤ w.heap.size) (hl : rl.length + b.length ≤ 140737488355327) (hN : N ≤ 4611686018427387904) :
    Calls Try.prog 53 #[.pointer (some ⟨g, 0, none⟩), .slice A b.length c] w fun e w' => e = .returned (.tuple #[]) ∧
      ∃ rv', IsD w' g rv' ((N + b.length : Nat) : Int) s (X.run32 ((rl ++ b).length / 16) v (rl ++ b)) ∧ w'.ownsRow w.heap.size 5 1 rv' (X.rest 16 (rl ++ b)).length (nums .u8 (X.rest 16 (rl ++ b))) ∧
        Fr w w' (fun i => i ≠ g ∧ some i ≠ rv.ownBlock) := by
  have hB := below_alloc (Below.refl w.heap.size w) (.cells #[.pointer (some ⟨g, 0, none⟩)] 45)
  have HC := Aside0.mk (pieces_calls A c b rl w.heap.size g base N rv s v (w.alloc (.cells #[.pointer (some ⟨g, 0, none⟩)] 45)) (hr.below hB) hb (heap_alloc_new _ _) (hd.alloc _) (ho.alloc _)
    (Nat.le_trans hbase hB.size) hl hN)
  clear hr hd ho hb
  go_enter Try.func53, Try.ntmps53
  go_wp2_with (first | (go_at_call 82; refine HC.out.mono ?_; rintro e w' ⟨rfl, hp⟩; have HP := Aside0.mk hp; clear hp))
  go_end0
  obtain ⟨rv', d, o, f⟩ := HP.out
  exact ⟨rfl, rv', d, own_lower o hB.size, (Fr.of_below hB (fun i => i ≠ g ∧ some i ≠ rv.ownBlock)).then' f (fun _ _ h => h)⟩
end Go.Proofs.Ytnkcbkfccbfjpaa.XxhW
/- Contract of xxh's sum (32 bits): what a digest comes to; the digest is only read. Conditions: bytes are bytes, words are words of 32 bits, fewer than 2^47 bytes wait. -/
namespace Go.Proofs.Ytnkcbkfccbfjpaa.XxhW
open Go.RowKit Go.Proofs.YtnkcbkfccbfjpaaW.PrintWords Go.Proofs.YtnkcbkfccbfjpaaW.PrintLast Go.Proofs.YtnkcbkfccbfjpaaW.PrintMore
set_option linter.unusedVariables false
set_option linter.unusedSimpArgs false
def W32 (x : Int) : Prop := 0 ≤ x ∧ x < 4294967296
structure Good (v : X.V4) : Prop where
  a : W32 v.a
  b : W32 v.b
  c : W32 v.c
  d : W32 v.d
theorem w32_mod (x : Int) : W32 (x % 4294967296) := ⟨by omega, by omega⟩
theorem good_init (s : Int) (h : W32 s) : Good (X.init32 s) := ⟨w32_mod _, w32_mod _, h, w32_mod _⟩
theorem good_stripe (v : X.V4) (l : List Int) : Good (X.stripe32 v l) := ⟨w32_mod _, w32_mod _, w32_mod _, w32_mod _⟩
theorem good_run (n : Nat) : ∀ (v : X.V4) (l : List Int), Good v → Good (X.run32 n v l) := by
  induction n with
  | zero => intro v l h; exact h
  | succ n ih => intro v l h; exact ih _ _ (good_stripe _ _)
theorem words_snoc (j : Nat) : ∀ (h : Int) (l : List Int), X.words32 (j + 1) h l = X.word32 (X.words32 j h l) (X.le32 (l.drop (4 * j))) := by
  induction j with
  | zero => intro h l; rfl
  | succ j ih =>
    intro h l
    rw [X.words32, ih, X.words32, List.drop_drop]
    congr 3
    omega
theorem words_range (j : Nat) : ∀ (h : Int) (l : List Int), W32 h → W32 (X.words32 j h l) := by
  induction j with
  | zero => intro h l hh; exact hh
  | succ j ih => intro h l hh; exact ih _ _ (w32_mod _)
theorem bytes_snoc (h : Int) (l : List Int) (i : Nat) (hi : i < l.length) : X.bytes32 h (l.take (i + 1)) = X.byte32 (X.bytes32 h (l.take i)) (X.at' l i) := by
  unfold X.bytes32
  rw [List.take_succ_eq_append_getElem hi, List.foldl_append]
  simp [X.at', List.getD_eq_getElem?_getD, List.getElem?_eq_getElem hi]
theorem bytes_range (l : List Int) : ∀ (h : Int), W32 h → W32 (X.bytes32 h l) := by
  induction l with
  | nil => intro h hh; exact hh
  | cons b l ih => intro h hh; exact ih _ (w32_mod _)

/-- How the sum begins. -/
def head32 (N : Nat) (s : Int) (v : X.V4) : Int := if 16 ≤ N then X.merge32 v else (s + 374761393) % 4294967296

set_option maxHeartbeats 8000000 in
set_option maxRecDepth 100000 in
theorem sum_calls (A : Option Addr) (c g N : Nat) (l : List Int) (s : Int) (v : X.V4) (w : World) (hd : IsD w g (.slice A l.length c) N s v) (hr : ReadsInt w .u8 A l.length l) (hlc : l.length ≤ c)
    (hb : Bytes l) (hv : Good v) (hs : W32 s) (hN : N ≤ 4611686018427387904) (hl : l.length ≤ 140737488355327) :
    Calls Try.prog 54 #[.pointer (some ⟨g, 0, none⟩)] w fun e w' => e = .returned (.int .u32 (X.tail32 ((head32 N s v + (N : Int) % 4294967296) % 4294967296) l)) ∧ ∃ m, w' = w.drewN m := by
  have x0 := (IsD.at hd 0 (.slice A l.length c) rfl).1
  have x1 := (IsD.at hd 1 (.int .u64 N) rfl).1
  have x2 := (IsD.at hd 2 (.int .u32 s) rfl).1
  have x3 := (IsD.at hd 3 (.int .u32 v.a) rfl).1
  have x4 := (IsD.at hd 4 (.int .u32 v.b) rfl).1
  have x5 := (IsD.at hd 5 (.int .u32 v.c) rfl).1
  have x6 := (IsD.at hd 6 (.int .u32 v.d) rfl).1
  obtain ⟨va, vb, vc, vd⟩ := hv
  have n0 : (0 : Int) ≤ (N : Int) := by omega
  have n1 : (N : Int) ≤ 4611686018427387904 := by omega
  have HR := Aside0.mk hr
  have HB := Aside0.mk hb
  clear hr hd hb
  obtain ⟨h1, eh1⟩ : ∃ z, z = (head32 N s v + (N : Int) % 4294967296) % 4294967296 := ⟨_, rfl⟩
  rw [← eh1]
  have Hh := Aside0.mk eh1
  have hh1 : W32 h1 := by rw [eh1]; exact w32_mod _
  have Hw := Aside0.mk hh1
  clear eh1 hh1
  obtain ⟨i05, hi05, _, hsz5, _⟩ := info_parts info5
  have H2 := Aside0.mk hs
  go_enter Try.func54, Try.ntmps54
  go_upto_if 17 with (fail)
  go_cut [3] (fun v3 wc => v3 = .int .u32 (head32 N s v) ∧ ∃ m, wc = w.drewN m)
  case first =>
    by_cases hbig : 16 ≤ N
    · have hbig' : (16 : Int) ≤ (N : Int) := by omega
      have HH := Aside0.mk (show head32 N s v = X.merge32 v from if_pos hbig)
      go_wp2
      go_quiet (first | (go_at_call 84; exact Calls.quiet_of_same (rotl32_calls _ _ _ (by decide) (by decide) va.1 va.2)) | (go_at_call 84; exact Calls.quiet_of_same (rotl32_calls _ _ _ (by decide) (by decide) vb.1 vb.2)) | (go_at_call 84; exact Calls.quiet_of_same (rotl32_calls _ _ _ (by decide) (by decide) vc.1 vc.2)) | (go_at_call 84; exact Calls.quiet_of_same (rotl32_calls _ _ _ (by decide) (by decide) vd.1 vd.2)))
      go_wp2
      go_meet
      case rel => exact ⟨congrArg (Value.int .u32) (by rw [HH.out]; unfold X.merge32; omega), _, rfl⟩
    · have hbig' : (N : Int) < 16 := by omega
      have HH := Aside0.mk (show head32 N s v = (s + 374761393) % 4294967296 from if_neg hbig)
      go_wp2
      go_meet
      case rel => exact ⟨by rw [HH.out], 0, rfl⟩
  case rest =>
    obtain ⟨rfl, mc, rfl⟩ := hcut
    have x0' : (w.drewN mc).cell? ⟨g, 0, none⟩ = some (.slice A l.length c) := x0
    have x1' : (w.drewN mc).cell? ⟨g, 1, none⟩ = some (.int .u64 N) := x1
    go_upto_region 5 with (fail)
    go_cut [3, 4] (fun v3 v4 wc => v3 = .int .u32 h1 ∧ v4 = .slice A l.length c ∧ ∃ m, wc = w.drewN m)
    case first =>
      go_wp2
      go_meet
      case rel => exact ⟨congrArg (Value.int .u32) (by rw [Hh.out]), rfl, _, rfl⟩
    case rest =>
    obtain ⟨rfl, rfl, mc2, rfl⟩ := hcut
    clear x0' x1'
    go_wp2
    go_loopg [3, 4] (l.length / 4) (fun kq v3 v4 wc => ∃ (j : Nat) (A' : Option Addr) (c' : Nat) (h : Int), kq + j = l.length / 4 ∧ v3 = .int .u32 h ∧ Aside0 (h = X.words32 j h1 l) ∧ v4 = .slice A' (l.length - 4 * j) c' ∧
      Aside0 (ReadsInt w .u8 A' (l.length - 4 * j) (l.drop (4 * j))) ∧ l.length - 4 * j ≤ c' ∧ ∃ m, wc = w.drewN m)
    case atStart => exact ⟨0, A, c, h1, by omega, rfl, ⟨rfl⟩, rfl, HR, by simpa using hlc, _, rfl⟩
    case round =>
      obtain ⟨j, A', c', h, hk, rfl, HE, rfl, HA, hnc, m, rfl⟩ := hrel
      obtain ⟨L, eL⟩ : ∃ L, L = l.drop (4 * j) := ⟨_, rfl⟩
      have eLl : l.length - 4 * j = L.length := by rw [eL]; simp
      rw [eLl] at HA hnc ⊢
      rw [← eL] at HA
      have HeL := Aside0.mk eL
      have HeLl := Aside0.mk eLl
      have Hk := Aside0.mk hk
      have HLb := Aside0.mk (show Bytes L by rw [eL]; exact HB.out.drop _)
      have hLs : L.length ≤ 140737488355327 := by omega
      have hW := words_range j h1 l Hw.out
      rw [← HE.out] at hW
      obtain ⟨hW0, hW1⟩ := hW
      clear eL eLl hk
      cases gk with
      | zero =>
        have hlt : (L.length : Int) < 4 := by have := HeLl.out; have := Hk.out; have := Nat.div_add_mod l.length 4; have := Nat.mod_lt l.length (show 0 < 4 by decide); omega
        have HF := Aside0.mk (show h = X.words32 (l.length / 4) h1 l ∧ L = X.rest 4 l by
          have := Hk.out
          obtain rfl : j = l.length / 4 := by omega
          exact ⟨HE.out, HeL.out⟩)
        clear HeL HeLl Hk HE
        go_wp2
        go_loopg [3, 72] L.length (fun kq v3 v72 wc => ∃ (i : Nat) (q : Int), kq + i = L.length ∧ v3 = .int .u32 q ∧ Aside0 (q = X.bytes32 h (L.take i)) ∧ v72 = .int .i64 i ∧ ∃ m', wc = w.drewN m')
        case atStart => exact ⟨0, h, by omega, rfl, ⟨by rw [List.take_zero]; rfl⟩, rfl, _, rfl⟩
        case round =>
          obtain ⟨i, q, hk, rfl, HQ, rfl, m', rfl⟩ := hrel
          have hQ := bytes_range (L.take i) h ⟨hW0, hW1⟩
          rw [← HQ.out] at hQ
          obtain ⟨hQ0, hQ1⟩ := hQ
          have Hk := Aside0.mk hk
          clear hk
          cases gk with
          | zero =>
            have hi : i = L.length := by have := Hk.out; omega
            subst hi
            go_wp2
            go_ret
            refine ⟨congrArg (fun z => Ending.returned (.int .u32 z)) ?_, _, rfl⟩
            obtain ⟨f1, f2⟩ := HF.out
            have f3 := HQ.out
            rw [List.take_length] at f3
            rw [X.tail32, ← f1, ← f2, ← f3]
            rfl
          | succ k1 =>
            have hi : i < L.length := by have := Hk.out; omega
            have hi' : (i : Int) < (L.length : Int) := by omega
            have hi0 : (0 : Int) ≤ (i : Int) := by omega
            obtain ⟨ad, rfl, hc⟩ := HA.out.2.2 (by omega)
            have hci : w.cell? (ad.add i) = some (.int .u8 (X.at' L i)) := hc i hi
            obtain ⟨b0, b1⟩ := HLb.out i
            clear hc
            go_wp2_with (first | (go_at_call 84; refine (rotl32_calls _ 11 _ (by decide) (by decide) (w32_mod _).1 (w32_mod _).2).mono ?_; rintro e w' ⟨rfl, rfl⟩))
            go_roundg k1
            case measure => omega
            case rel =>
              refine ⟨i + 1, _, by have := Hk.out; omega, rfl, ⟨?_⟩, by go_num, _, rfl⟩
              rw [bytes_snoc _ _ _ hi, ← HQ.out]
              rfl
      | succ k1 =>
        have hge : 4 ≤ L.length := by have := HeLl.out; have := Hk.out; have := Nat.div_mul_le_self l.length 4; omega
        have hge' : (4 : Int) ≤ (L.length : Int) := by omega
        obtain ⟨ad, rfl, _⟩ := HA.out.2.2 (by omega)
        obtain ⟨A1, hcut, hA1⟩ := print_cut (P := Try.prog) 22 5 .i64 Try.underlying22 hi05 hsz5 (some ad) L.length c' 4 hge
        have HA1 := Aside0.mk hA1
        have hcut' : ∀ W : World, (Instr.slice 22 (.slice (some ad) L.length c') (some (.int .i64 4)) none none).run Try.prog W = .ok (.slice A1 (L.length - 4) (c' - 4)) W := hcut
        clear hA1 hcut
        go_wp2_with (first | (go_at_call 85; refine (get32_calls ad L.length c' L _ ((rd_of_reads HA.out).drewN _) rfl hge HLb.out).mono ?_; rintro e w' ⟨rfl, m', rfl⟩) | (go_at_call 84; refine (rotl32_calls _ 17 _ (by decide) (by decide) (w32_mod _).1 (w32_mod _).2).mono ?_; rintro e w' ⟨rfl, rfl⟩))
        go_roundg k1
        case measure => omega
        case rel =>
          have e1 : l.length - 4 * (j + 1) = L.length - 4 := by have := HeLl.out; omega
          refine ⟨j + 1, A1, c' - 4, _, by have := Hk.out; omega, rfl, ⟨?_⟩, by rw [e1], ⟨?_⟩, by omega, _, rfl⟩
          · rw [words_snoc, ← HeL.out, ← HE.out]; rfl
          · rw [e1, show l.drop (4 * (j + 1)) = L.drop 4 by rw [HeL.out, List.drop_drop, Nat.mul_succ]]
            exact HA1.out _ _ _ hnc HA.out
end Go.Proofs.Ytnkcbkfccbfjpaa.XxhW
/- Contract of xxh.Sum32: the sum of 32 bits as a plain function of the seed and the bytes. Conditions: the seed is a word of 32 bits, bytes are bytes, fewer than 2^47 of them. -/
namespace Go.Proofs.Ytnkcbkfccbfjpaa.XxhW
open Go.RowKit Go.Proofs.YtnkcbkfccbfjpaaW.PrintWords Go.Proofs.YtnkcbkfccbfjpaaW.PrintLast Go.Proofs.YtnkcbkfccbfjpaaW.PrintMore
set_option linter.unusedVariables false
set_option linter.unusedSimpArgs false
theorem bytes_rest {l : List Int} (h : Bytes l) (u : Nat) : Bytes (X.rest u l) := h.drop _
theorem rest_le (u : Nat) (l : List Int) : (X.rest u l).length ≤ l.length := by unfold X.rest; simp

theorem sum_eq (s : Int) (l : List Int) : X.sum32 s l = X.tail32 ((head32 l.length s (X.run32 (l.length / 16) (X.init32 s) l) + (l.length : Int) % 4294967296) % 4294967296) (X.rest 16 l) := by
  unfold X.sum32 head32
  rfl
/-- The first bytes of a new digest. -/
theorem takes_first (A : Option Addr) (c : Nat) (l : List Int) (g : Nat) (s : Int) (w1 : World) (hr : ReadsInt w1 .u8 A l.length l) (hb : Bytes l) (hl : l.length ≤ 140737488355327) (hd : IsD w1 g (.slice none 0 0) 0 s (X.init32 s)) :
    Calls Try.prog 53 #[.pointer (some ⟨g, 0, none⟩), .slice A l.length c] w1 fun e w' => e = .returned (.tuple #[]) ∧ ∃ A' c', IsD w' g (.slice A' (X.rest 16 l).length c') (l.length : Int) s (X.run32 (l.length / 16) (X.init32 s) l) ∧
      Waits w' g A' (X.rest 16 l).length c' (X.rest 16 l) ∧ Fr w1 w' (fun i => i ≠ g) := by
  have h := takes_calls A c l [] g w1.heap.size 0 (.slice none 0 0) s (X.init32 s) w1 hr hb hd (own_nil _ _ _ _) (Nat.le_refl _) (by rw [List.length_nil, Nat.zero_add]; exact hl) (Nat.zero_le _)
  rw [List.nil_append, Nat.zero_add] at h
  refine h.mono fun e w' ⟨he, rv, hd2, ho2, hf2⟩ => ⟨he, ?_⟩
  obtain ⟨A2, c2, rfl, hw2⟩ := own_waits (g := g) ho2
  exact ⟨A2, c2, hd2, hw2, hf2.mono (fun i _ hi => ⟨hi, by simp [Value.ownBlock]⟩)⟩

set_option maxHeartbeats 1000000 in
set_option maxRecDepth 100000 in
theorem Sum32_calls (A : Option Addr) (c : Nat) (l : List Int) (s : Int) (w : World) (hr : ReadsInt w .u8 A l.length l) (hb : Bytes l) (hs : W32 s) (hl : l.length ≤ 140737488355327) :
    Calls Try.prog 21 #[.int .u32 s, .slice A l.length c] w fun e w' => e = .returned (.int .u32 (X.sum32 s l)) ∧ Below w.heap.size w w' := by
  have H1 := Aside0.mk (begun_calls s w hs.1 hs.2)
  have HR := Aside0.mk hr
  have HL := Aside0.mk hl
  have HS := Aside0.mk hs
  have HB0 := Aside0.mk hb
  clear hr hs hl hb
  go_enter Try.func21, Try.ntmps21
  go_wp2_with fail
  refine H1.out.mono ?_
  rintro e w1 ⟨rfl, hd1, hb1⟩
  have HB1 := Aside0.mk hb1
  have HT := Aside0.mk (takes_first A c l w.heap.size s w1 (HR.out.below hb1) HB0.out HL.out hd1)
  clear hd1 hb1
  go_wp2_with fail
  refine HT.out.mono ?_
  rintro e w2 ⟨rfl, A2, c2, hd2, hw2, hf2⟩
  have HF2 := Aside0.mk hf2
  have HQ := Aside0.mk (sum_calls A2 c2 w.heap.size l.length (X.rest 16 l) s (X.run32 (l.length / 16) (X.init32 s) l) w2 hd2 hw2.1 hw2.2 (bytes_rest HB0.out 16) (good_run _ _ _ (good_init s HS.out)) HS.out (Nat.le_trans HL.out (by decide)) (Nat.le_trans (rest_le _ _) HL.out))
  rw [← sum_eq s l] at HQ
  clear hd2 hf2 hw2
  go_wp2_with fail
  refine HQ.out.mono ?_
  rintro e w3 ⟨rfl, m, rfl⟩
  go_wp2
  go_ret
  exact ⟨rfl, pw_below_drewN (HB1.out.trans (HF2.out.below (B := w.heap.size) (fun i hi => ⟨Nat.lt_of_lt_of_le hi HB1.out.size, Nat.ne_of_lt hi⟩))) m⟩
end Go.Proofs.Ytnkcbkfccbfjpaa.XxhW
/- Contracts of the reference's rot32 and low32. Conditions: the count lies between 1 and 31, words are words, bytes are bytes. -/
namespace Go.Proofs.Ytnkcbkfccbfjpaa.XxhW
open Go.RowKit Go.Proofs.YtnkcbkfccbfjpaaW.PrintWords Go.Proofs.YtnkcbkfccbfjpaaW.PrintLast Go.Proofs.YtnkcbkfccbfjpaaW.PrintMore
set_option linter.unusedVariables false
set_option linter.unusedSimpArgs false
theorem rot32_range (x : Int) (k : Nat) (hk : k ≤ 32) (h : W32 x) : W32 (X.rot32 x k) := by
  obtain ⟨a, b, c, d, e, g⟩ := rot_parts 32 k x 4294967296 hk (by decide) h.1 h.2
  obtain ⟨q, hq⟩ : ∃ q, q = (x * 2 ^ k) % 4294967296 := ⟨_, rfl⟩
  obtain ⟨p, hp⟩ : ∃ p, p = (2 : Int) ^ k := ⟨_, rfl⟩
  have hm : ∃ t : Int, (4294967296 : Int) = t * p := ⟨2 ^ (32 - k), by rw [hp, ← Int.pow_add, Nat.sub_add_cancel hk]; decide⟩
  unfold X.rot32
  rw [← hq] at a b c ⊢
  rw [← hp] at a e
  refine ⟨by omega, ?_⟩
  obtain ⟨t, ht⟩ := hm
  have hdv : q = p * (q / p) := by
    have := Int.mul_ediv_add_emod q p
    rw [a] at this; omega
  have hpp : 0 < p := by rw [hp]; exact Int.pow_pos (by decide)
  have hlt : q / p < t := by
    rcases Int.lt_or_le (q / p) t with h | h
    · exact h
    · have := Int.mul_le_mul_of_nonneg_left h (Int.le_of_lt hpp)
      rw [Int.mul_comm p t, ← ht, ← hdv] at this
      omega
  have := Int.mul_le_mul_of_nonneg_left (show q / p ≤ t - 1 by omega) (Int.le_of_lt hpp)
  rw [← hdv, Int.mul_sub, Int.mul_comm p t, ← ht, Int.mul_one] at this
  omega

theorem rrot32_calls (x k : Int) (w : World) (h0 : 0 < k) (h1 : k < 32) (h2 : 0 ≤ x) (h3 : x < 4294967296) :
    Calls Try.prog 58 #[.int .u32 x, .int .i64 k] w fun e w' => e = .returned (.int .u32 (X.rot32 x k.toNat)) ∧ ∃ m, w' = w.drewN m := by
  have hk0 : 0 ≤ k := by omega
  have hk1 : 0 ≤ 32 - k := by omega
  have hk2 : k ≤ 32 := by omega
  have hk3 : 32 - k ≤ 32 := by omega
  have hs : IntKind.i64.wrap (32 - k) = 32 - k := IntWalk.i64_in _ ⟨by omega, by omega⟩
  have HT := Aside0.mk (show (32 - k).toNat = 32 - k.toNat by omega)
  have HE := Aside0.mk (rot32_range x k.toNat (by omega) ⟨h2, h3⟩)
  go_enter Try.func58, Try.ntmps58
  go_wp2
  go_quiet (fail)
  go_wp2
  go_ret
  refine ⟨congrArg (fun z => Ending.returned (.int .u32 z)) ?_, _, rfl⟩
  have h := HE.out
  have hT := HT.out
  unfold X.rot32 at h ⊢
  obtain ⟨h4, h5⟩ := h
  rw [← hT] at h4 h5 ⊢
  exact Int.emod_eq_of_lt h4 h5

theorem low32_calls (ad : Addr) (n c : Nat) (l : List Int) (w : World) (hr : Rd w ad l) (hn : n = l.length) (h4 : 4 ≤ l.length) (hb : Bytes l) :
    Calls Try.prog 59 #[.slice (some ad) n c] w fun e w' => e = .returned (.int .u32 (X.le32 l)) ∧ ∃ m, w' = w.drewN m := by
  subst hn
  have h0 := hr 0 (by omega)
  have h1 := hr 1 (by omega)
  have h2 := hr 2 (by omega)
  have h3 := hr 3 (by omega)
  rw [Addr.add_zero'] at h0
  rw [add_pos _ _ (by omega)] at h1 h2 h3
  obtain ⟨p0, q0⟩ := hb 0
  obtain ⟨p1, q1⟩ := hb 1
  obtain ⟨p2, q2⟩ := hb 2
  obtain ⟨p3, q3⟩ := hb 3
  have l0 : 0 < l.length := by omega
  have l1 : 1 < l.length := by omega
  have l2 : 2 < l.length := by omega
  have l3 : 3 < l.length := by omega
  have m0 : (0 : Int) < (l.length : Int) := by omega
  have m1 : (1 : Int) < (l.length : Int) := by omega
  have m2 : (2 : Int) < (l.length : Int) := by omega
  have m3 : (3 : Int) < (l.length : Int) := by omega
  clear hb hr
  go_enter Try.func59, Try.ntmps59
  go_wp2
  go_quiet (fail)
  go_wp2
  go_ret
  exact ⟨congrArg (fun z => Ending.returned (.int .u32 z)) (by unfold X.le32; first | rfl | omega), _, rfl⟩
end Go.Proofs.Ytnkcbkfccbfjpaa.XxhW
/- Contract of the reference's Sum32: the sum of 32 bits as a plain function of the seed and the bytes. Conditions: the seed is a word of 32 bits, bytes are bytes, fewer than 2^47 of them. -/
namespace Go.Proofs.Ytnkcbkfccbfjpaa.XxhW
open Go.RowKit Go.Proofs.YtnkcbkfccbfjpaaW.PrintWords Go.Proofs.YtnkcbkfccbfjpaaW.PrintLast Go.Proofs.YtnkcbkfccbfjpaaW.PrintMore
set_option linter.unusedVariables false
set_option linter.unusedSimpArgs false
theorem reads_drawn {w : World} {k : IntKind} {A : Option Addr} {n : Nat} {l : List Int} (h : ReadsInt w k A n l) (m : Nat) : ReadsInt (w.drewN m) k A n l := h
/-- Four words in an array at block g. -/
def IsV (w : World) (g : Nat) (v : X.V4) : Prop := w.heap[g]? = some (.cells #[.int .u32 v.a, .int .u32 v.b, .int .u32 v.c, .int .u32 v.d] 94 (0, 0))
theorem IsV.at {w : World} {g : Nat} {v : X.V4} (h : IsV w g v) (i : Nat) (u : Value) (hu : (#[.int .u32 v.a, .int .u32 v.b, .int .u32 v.c, .int .u32 v.d] : Array Value)[i]? = some u) :
    w.cell? ⟨g, i, none⟩ = some u ∧ w.frozen? ⟨g, i, none⟩ = false := ⟨(cell_of_row w g i _ 94 (0, 0) h).trans hu, blk_frozen h i⟩
theorem apart_V {w : World} {ad : Addr} {n g : Nat} {v : X.V4} {l : List Int} (hr : ReadsInt w .u8 (some ad) n l) (h0 : 0 < n) (hd : IsV w g v) : ad.block ≠ g :=
  apart_of_reads hr h0 hd (fun o k z h => by
    rcases o with _ | _ | _ | _ | o <;> simp at h
    all_goals (obtain ⟨rfl, _⟩ := h; decide))
theorem small_rest (l : List Int) (h : l.length < 16) : X.rest 16 l = l := by unfold X.rest; rw [Nat.div_eq_of_lt h]; rfl

set_option maxHeartbeats 16000000 in
set_option maxRecDepth 100000 in
theorem rSum32_calls (A : Option Addr) (c : Nat) (l : List Int) (s : Int) (w : World) (hr : ReadsInt w .u8 A l.length l) (hlc : l.length ≤ c) (hb : Bytes l) (hs : W32 s) (hl : l.length ≤ 140737488355327) :
    Calls Try.prog 23 #[.int .u32 s, .slice A l.length c] w fun e w' => e = .returned (.int .u32 (X.sum32 s l)) ∧ Below w.heap.size w w' := by
  have HR := Aside0.mk hr
  have HB := Aside0.mk hb
  have HS := Aside0.mk hs
  obtain ⟨hs0, hs1⟩ := hs
  clear hr hb
  have hl0 : (0 : Int) ≤ (l.length : Int) := by omega
  have hl1 : (l.length : Int) ≤ 140737488355327 := by omega
  obtain ⟨i05, hi05, _, hsz5, _⟩ := info_parts info5
  go_enter Try.func23, Try.ntmps23
  go_upto_if 14 with (fail)
  go_cut [5, 6] (fun v5 v6 wc => v5 = .int .u32 (head32 l.length s (X.run32 (l.length / 16) (X.init32 s) l)) ∧ ∃ (A' : Option Addr) (c' : Nat), v6 = .slice A' (X.rest 16 l).length c' ∧ Aside0 (ReadsInt wc .u8 A' (X.rest 16 l).length (X.rest 16 l)) ∧ (X.rest 16 l).length ≤ c' ∧ Aside0 (Below w.heap.size w wc))
  case first =>
    by_cases hbig : 16 ≤ l.length
    · have hbig' : (16 : Int) ≤ (l.length : Int) := by omega
      have HH := Aside0.mk (show head32 l.length s (X.run32 (l.length / 16) (X.init32 s) l) = X.merge32 (X.run32 (l.length / 16) (X.init32 s) l) from if_pos hbig)

      go_upto_region 4 with (fail)
      go_cut [6, 7] (fun v6 v7 wc => v6 = .slice A l.length c ∧ v7 = .pointer (some ⟨w.heap.size, 0, none⟩) ∧ Aside0 (IsV wc w.heap.size (X.init32 s)) ∧ Aside0 (Below w.heap.size w wc))
      case first =>
        go_wp2
        go_meet
        case rel =>
          refine ⟨rfl, rfl, ⟨?_⟩, ⟨below_alloc (Below.refl _ _) _⟩⟩
          have := heap_alloc_new w (.cells #[.int .u32 (X.init32 s).a, .int .u32 (X.init32 s).b, .int .u32 (X.init32 s).c, .int .u32 (X.init32 s).d] 94)
          simpa [IsV, X.init32] using this
      case rest =>
      obtain ⟨rfl, rfl, HV0, HB0⟩ := hcut
      go_wp2
      go_loopg [6] (l.length / 16) (fun kq v6 wd => ∃ (j : Nat) (A' : Option Addr) (c' : Nat) (v : X.V4), kq + j = l.length / 16 ∧ v6 = .slice A' (l.length - 16 * j) c' ∧ Aside0 (v = X.run32 j (X.init32 s) l) ∧ Aside0 (IsV wd w.heap.size v) ∧
        Aside0 (ReadsInt wd .u8 A' (l.length - 16 * j) (l.drop (16 * j))) ∧ l.length - 16 * j ≤ c' ∧ Aside0 (Below w.heap.size w wd))
      case atStart => exact ⟨0, A, c, _, by omega, rfl, ⟨rfl⟩, HV0, ⟨HR.out.below HB0.out⟩, by simpa using hlc, HB0⟩
      case round =>
        clear HV0 HB0
        obtain ⟨j, A', c', v, hk, rfl, HE, HD, HA, hnc, HBW⟩ := hrel
        obtain ⟨L, eL⟩ : ∃ L, L = l.drop (16 * j) := ⟨_, rfl⟩
        have eLl : l.length - 16 * j = L.length := by rw [eL]; simp
        rw [eLl] at HA hnc ⊢
        rw [← eL] at HA
        have HeL := Aside0.mk eL
        have HeLl := Aside0.mk eLl
        have Hk := Aside0.mk hk
        have HLb := Aside0.mk (show Bytes L by rw [eL]; exact HB.out.drop _)
        have hLs : L.length ≤ 140737488355327 := by omega
        have HvG := Aside0.mk (show Good v by rw [HE.out]; exact good_run _ _ _ (good_init s HS.out))
        clear eL eLl hk
        cases gk with
        | zero =>
          have hlt : (L.length : Int) < 16 := by have := HeLl.out; have := Hk.out; have := Nat.div_add_mod l.length 16; have := Nat.mod_lt l.length (show 0 < 16 by decide); omega
          have x0 := (IsV.at HD.out 0 (.int .u32 v.a) rfl).1
          have x1 := (IsV.at HD.out 1 (.int .u32 v.b) rfl).1
          have x2 := (IsV.at HD.out 2 (.int .u32 v.c) rfl).1
          have x3 := (IsV.at HD.out 3 (.int .u32 v.d) rfl).1
          go_wp2
          go_quiet (first | (go_at_call 58; exact Calls.quiet_of (rrot32_calls _ _ _ (by decide) (by decide) HvG.out.a.1 HvG.out.a.2)) | (go_at_call 58; exact Calls.quiet_of (rrot32_calls _ _ _ (by decide) (by decide) HvG.out.b.1 HvG.out.b.2)) | (go_at_call 58; exact Calls.quiet_of (rrot32_calls _ _ _ (by decide) (by decide) HvG.out.c.1 HvG.out.c.2)) | (go_at_call 58; exact Calls.quiet_of (rrot32_calls _ _ _ (by decide) (by decide) HvG.out.d.1 HvG.out.d.2)))
          go_wp2
          go_meet
          case rel =>
            have ej : j = l.length / 16 := by have := Hk.out; omega
            have er : X.rest 16 l = L := by rw [X.rest, ← ej]; exact HeL.out.symm
            rw [er]
            refine ⟨congrArg (Value.int .u32) ?_, A', c', rfl, ⟨reads_drawn HA.out _⟩, hnc, ⟨pw_below_drewN HBW.out _⟩⟩
            rw [HH.out, ← ej, ← HE.out]
            unfold X.merge32
            omega
        | succ k1 =>
          have hge : 16 ≤ L.length := by have := HeLl.out; have := Hk.out; have := Nat.div_mul_le_self l.length 16; omega
          have hge' : (16 : Int) ≤ (L.length : Int) := by omega
          obtain ⟨ad, rfl, _⟩ := HA.out.2.2 (by omega)
          have hag : ad.block ≠ w.heap.size := apart_V HA.out (by omega) HD.out
          have hc16 : (16 : Int) ≤ (c' : Int) := by omega
          have n4 : ¬ c' = 4 := by omega
          have n8 : ¬ c' = 8 := by omega
          have n12 : ¬ c' = 12 := by omega
          have z0 : IntKind.i64.wrap 0 = 0 := by decide
          have z4 : IntKind.i64.wrap 4 = 4 := by decide
          have z8 : IntKind.i64.wrap 8 = 8 := by decide
          have z12 : IntKind.i64.wrap 12 = 12 := by decide
          have m4 : (4 : Int) ≤ (L.length : Int) := by omega
          have m8 : (8 : Int) ≤ (L.length : Int) := by omega
          have m12 : (12 : Int) ≤ (L.length : Int) := by omega
          obtain ⟨A1, hcut, hA1⟩ := print_cut (P := Try.prog) 22 5 .i64 Try.underlying22 hi05 hsz5 (some ad) L.length c' 16 hge
          have HA1 := Aside0.mk hA1
          have hcut' : ∀ W : World, (Instr.slice 22 (.slice (some ad) L.length c') (some (.int .i64 16)) none none).run Try.prog W = .ok (.slice A1 (L.length - 16) (c' - 16)) W := hcut
          have HG := Aside0.mk (World.grownBy.refl wr (some w.heap.size))
          have hr0 : Rd wr ad L := rd_of_reads HA.out
          obtain ⟨x0, f0⟩ := IsV.at HD.out 0 _ rfl
          have HDr := HD
          clear hA1 hcut
          go_wp2
          refine wp_loop_rounds 5 ?_
          rw [rounds_succ]
          go_wp2
          refine QTail.wp_region_tail (C := fun w' => ∃ n, w' = wr.drewN n) 14 (by kernel_rfl) (by kernel_rfl) ⟨1, rfl⟩ ?_
          simp only [List.take_succ_cons, List.take_zero, List.drop_succ_cons, List.drop_zero]
          repeat (quiet_step (first | (go_at_call 59; exact Calls.quiet_of (low32_calls ad _ _ L _ (hr0.drewN _) rfl (by first | omega | (simp; omega)) (HLb.out))) | (go_at_call 58; exact Calls.quiet_of (rrot32_calls _ 13 _ (by omega) (by omega) (u32_range _).1 (u32_range _).2))))
          refine wpQuiet_nil ?_
          intro _ hw'
          obtain ⟨nq, hw''⟩ := hw'
          subst hw''
          go_wp2
          obtain ⟨w1, hw1⟩ : ∃ z, z = (wr.drewN nq).setCell ⟨w.heap.size, 0, none⟩ (.int .u32 (X.step32 v.a (X.le32 L))) := ⟨_, rfl⟩
          have P1 := put_world HD.out nq 0 (.int .u32 (X.step32 v.a (X.le32 L)))
          rw [← hw1] at P1
          unfold X.step32 at hw1
          rw [← hw1]
          clear hw1
          obtain ⟨D1, K1, G1⟩ := P1
          have HD1 := Aside0.mk (show IsV w1 w.heap.size ⟨X.step32 v.a (X.le32 L), v.b, v.c, v.d⟩ from D1)
          have HG1 := Aside0.mk (grown_then HG.out G1)
          have r1 := Aside0.mk (Rd.of_cells hr0 (fun p hp => K1 p (by rw [hp]; exact hag)))
          clear x0 f0 D1 K1 G1 HD HG
          have HD := HD1
          have HG := HG1
          have R1 := r1
          clear HD1 HG1 r1 hr0
          obtain ⟨x0, f0⟩ := IsV.at HD.out 1 _ rfl
          have hr1 : Rd w1 ⟨ad.block, ad.off + 4, none⟩ (L.drop 4) := by
            have := R1.out.drop 4
            rwa [add_pos _ _ (by omega)] at this
          rw [rounds_succ]
          go_wp2
          refine QTail.wp_region_tail (C := fun w' => ∃ n, w' = w1.drewN n) 14 (by kernel_rfl) (by kernel_rfl) ⟨1, rfl⟩ ?_
          simp only [List.take_succ_cons, List.take_zero, List.drop_succ_cons, List.drop_zero]
          repeat (quiet_step (first | (go_at_call 59; exact Calls.quiet_of (low32_calls ⟨ad.block, ad.off + 4, none⟩ _ _ (L.drop 4) _ (hr1.drewN _) (by simp) (by first | omega | (simp; omega)) (HLb.out.drop 4))) | (go_at_call 58; exact Calls.quiet_of (rrot32_calls _ 13 _ (by omega) (by omega) (u32_range _).1 (u32_range _).2))))
          refine wpQuiet_nil ?_
          intro _ hw'
          obtain ⟨nq, hw''⟩ := hw'
          subst hw''
          go_wp2
          obtain ⟨w2, hw2⟩ : ∃ z, z = (w1.drewN nq).setCell ⟨w.heap.size, 1, none⟩ (.int .u32 (X.step32 v.b (X.le32 (L.drop 4)))) := ⟨_, rfl⟩
          have P2 := put_world HD.out nq 1 (.int .u32 (X.step32 v.b (X.le32 (L.drop 4))))
          rw [← hw2] at P2
          unfold X.step32 at hw2
          rw [← hw2]
          clear hw2
          obtain ⟨D2, K2, G2⟩ := P2
          have HD2 := Aside0.mk (show IsV w2 w.heap.size ⟨X.step32 v.a (X.le32 L), X.step32 v.b (X.le32 (L.drop 4)), v.c, v.d⟩ from D2)
          have HG2 := Aside0.mk (grown_then HG.out G2)
          have r2 := Aside0.mk (Rd.of_cells R1.out (fun p hp => K2 p (by rw [hp]; exact hag)))
          clear x0 f0 D2 K2 G2 HD HG
          have HD := HD2
          have HG := HG2
          have R2 := r2
          clear HD2 HG2 r2 R1
          obtain ⟨x0, f0⟩ := IsV.at HD.out 2 _ rfl
          have hr2 : Rd w2 ⟨ad.block, ad.off + 8, none⟩ (L.drop 8) := by
            have := R2.out.drop 8
            rwa [add_pos _ _ (by omega)] at this
          rw [rounds_succ]
          go_wp2
          refine QTail.wp_region_tail (C := fun w' => ∃ n, w' = w2.drewN n) 14 (by kernel_rfl) (by kernel_rfl) ⟨1, rfl⟩ ?_
          simp only [List.take_succ_cons, List.take_zero, List.drop_succ_cons, List.drop_zero]
          repeat (quiet_step (first | (go_at_call 59; exact Calls.quiet_of (low32_calls ⟨ad.block, ad.off + 8, none⟩ _ _ (L.drop 8) _ (hr2.drewN _) (by simp) (by first | omega | (simp; omega)) (HLb.out.drop 8))) | (go_at_call 58; exact Calls.quiet_of (rrot32_calls _ 13 _ (by omega) (by omega) (u32_range _).1 (u32_range _).2))))
          refine wpQuiet_nil ?_
          intro _ hw'
          obtain ⟨nq, hw''⟩ := hw'
          subst hw''
          go_wp2
          obtain ⟨w3, hw3⟩ : ∃ z, z = (w2.drewN nq).setCell ⟨w.heap.size, 2, none⟩ (.int .u32 (X.step32 v.c (X.le32 (L.drop 8)))) := ⟨_, rfl⟩
          have P3 := put_world HD.out nq 2 (.int .u32 (X.step32 v.c (X.le32 (L.drop 8))))
          rw [← hw3] at P3
          unfold X.step32 at hw3
          rw [← hw3]
          clear hw3
          obtain ⟨D3, K3, G3⟩ := P3
          have HD3 := Aside0.mk (show IsV w3 w.heap.size ⟨X.step32 v.a (X.le32 L), X.step32 v.b (X.le32 (L.drop 4)), X.step32 v.c (X.le32 (L.drop 8)), v.d⟩ from D3)
          have HG3 := Aside0.mk (grown_then HG.out G3)
          have r3 := Aside0.mk (Rd.of_cells R2.out (fun p hp => K3 p (by rw [hp]; exact hag)))
          clear x0 f0 D3 K3 G3 HD HG
          have HD := HD3
          have HG := HG3
          have R3 := r3
          clear HD3 HG3 r3 R2
          obtain ⟨x0, f0⟩ := IsV.at HD.out 3 _ rfl
          have hr3 : Rd w3 ⟨ad.block, ad.off + 12, none⟩ (L.drop 12) := by
            have := R3.out.drop 12
            rwa [add_pos _ _ (by omega)] at this
          rw [rounds_succ]
          go_wp2
          refine QTail.wp_region_tail (C := fun w' => ∃ n, w' = w3.drewN n) 14 (by kernel_rfl) (by kernel_rfl) ⟨1, rfl⟩ ?_
          simp only [List.take_succ_cons, List.take_zero, List.drop_succ_cons, List.drop_zero]
          repeat (quiet_step (first | (go_at_call 59; exact Calls.quiet_of (low32_calls ⟨ad.block, ad.off + 12, none⟩ _ _ (L.drop 12) _ (hr3.drewN _) (by simp) (by first | omega | (simp; omega)) (HLb.out.drop 12))) | (go_at_call 58; exact Calls.quiet_of (rrot32_calls _ 13 _ (by omega) (by omega) (u32_range _).1 (u32_range _).2))))
          refine wpQuiet_nil ?_
          intro _ hw'
          obtain ⟨nq, hw''⟩ := hw'
          subst hw''
          go_wp2
          obtain ⟨w4, hw4⟩ : ∃ z, z = (w3.drewN nq).setCell ⟨w.heap.size, 3, none⟩ (.int .u32 (X.step32 v.d (X.le32 (L.drop 12)))) := ⟨_, rfl⟩
          have P4 := put_world HD.out nq 3 (.int .u32 (X.step32 v.d (X.le32 (L.drop 12))))
          rw [← hw4] at P4
          unfold X.step32 at hw4
          rw [← hw4]
          clear hw4
          obtain ⟨D4, K4, G4⟩ := P4
          have HD4 := Aside0.mk (show IsV w4 w.heap.size ⟨X.step32 v.a (X.le32 L), X.step32 v.b (X.le32 (L.drop 4)), X.step32 v.c (X.le32 (L.drop 8)), X.step32 v.d (X.le32 (L.drop 12))⟩ from D4)
          have HG4 := Aside0.mk (grown_then HG.out G4)
          have r4 := Aside0.mk (Rd.of_cells R3.out (fun p hp => K4 p (by rw [hp]; exact hag)))
          clear x0 f0 D4 K4 G4 HD HG
          have HD := HD4
          have HG := HG4
          have R4 := r4
          clear HD4 HG4 r4 R3
          rw [rounds_succ]
          go_wp2
          go_roundg k1
          case measure => omega
          case rel =>
            have e1 : l.length - 16 * (j + 1) = L.length - 16 := by have := HeLl.out; omega
            have F4 := Fr.of_grown HG.out
            refine ⟨j + 1, A1, c' - 16, _, by have := Hk.out; omega, by rw [e1], ⟨?_⟩, HD, ⟨?_⟩, by omega, ⟨?_⟩⟩
            · rw [run_snoc, ← HeL.out, ← HE.out]; rfl
            · rw [e1, show l.drop (16 * (j + 1)) = L.drop 16 by rw [HeL.out, List.drop_drop, Nat.mul_succ]]
              have q := HA1.out _ _ _ hnc HA.out
              exact reads_fr F4 q (fun ad' e h0 h => apart_V (e ▸ q) h0 HDr.out (by injection h))
            · exact HBW.out.grown HG.out HBW.out.size (fun k hk => by injection hk with hk; omega)
    · have hbig' : (l.length : Int) < 16 := by omega
      have HH := Aside0.mk (show head32 l.length s (X.run32 (l.length / 16) (X.init32 s) l) = (s + 374761393) % 4294967296 from if_neg hbig)
      have HZ := Aside0.mk (small_rest l (by omega))
      go_wp2
      go_meet
      case rel => exact ⟨by rw [HH.out], A, c, by rw [HZ.out], ⟨by rw [HZ.out]; exact HR.out⟩, by rw [HZ.out]; exact hlc, ⟨Below.refl _ _⟩⟩
  case rest =>
    obtain ⟨rfl, A2, c2, rfl, HR2, hc2, HB2⟩ := hcut
    obtain ⟨r, er⟩ : ∃ r, r = X.rest 16 l := ⟨_, rfl⟩
    rw [← er] at HR2 hc2 ⊢
    have Hr := Aside0.mk er
    have hrl : r.length ≤ 140737488355327 := by rw [er]; exact Nat.le_trans (rest_le _ _) hl
    have Hrb := Aside0.mk (show Bytes r by rw [er]; exact bytes_rest HB.out 16)
    clear er
    obtain ⟨h1, eh1⟩ : ∃ z, z = (head32 l.length s (X.run32 (l.length / 16) (X.init32 s) l) + (l.length : Int) % 4294967296) % 4294967296 := ⟨_, rfl⟩
    have Hh := Aside0.mk eh1
    have Hw := Aside0.mk (show W32 h1 by rw [eh1]; exact w32_mod _)
    clear eh1
    go_upto_region 12 with (fail)
    go_cut [5] (fun v5 wd => v5 = .int .u32 h1 ∧ wd = wc)
    case first =>
      go_wp2
      go_meet
      case rel => exact ⟨congrArg (Value.int .u32) (by rw [Hh.out]), rfl⟩
    case rest =>
    obtain ⟨rfl, rfl⟩ := hcut
    go_wp2
    go_loopg [5, 6] (r.length / 4) (fun kq v5 v6 we => ∃ (j : Nat) (A' : Option Addr) (c' : Nat) (h : Int), kq + j = r.length / 4 ∧ v5 = .int .u32 h ∧ Aside0 (h = X.words32 j h1 r) ∧ v6 = .slice A' (r.length - 4 * j) c' ∧
      Aside0 (ReadsInt wc .u8 A' (r.length - 4 * j) (r.drop (4 * j))) ∧ r.length - 4 * j ≤ c' ∧ ∃ m, we = wc.drewN m)
    case atStart => exact ⟨0, A2, c2, h1, by omega, rfl, ⟨rfl⟩, rfl, HR2, by simpa using hc2, 0, rfl⟩
    case round =>
      obtain ⟨j, A', c', h, hk, rfl, HE, rfl, HA, hnc, m, rfl⟩ := hrel
      obtain ⟨L, eL⟩ : ∃ L, L = r.drop (4 * j) := ⟨_, rfl⟩
      have eLl : r.length - 4 * j = L.length := by rw [eL]; simp
      rw [eLl] at HA hnc ⊢
      rw [← eL] at HA
      have HeL := Aside0.mk eL
      have HeLl := Aside0.mk eLl
      have Hk := Aside0.mk hk
      have HLb := Aside0.mk (show Bytes L by rw [eL]; exact Hrb.out.drop _)
      have hLs : L.length ≤ 140737488355327 := by omega
      have hW := words_range j h1 r Hw.out
      rw [← HE.out] at hW
      obtain ⟨hW0, hW1⟩ := hW
      clear eL eLl hk
      cases gk with
      | zero =>
        have hlt : (L.length : Int) < 4 := by have := HeLl.out; have := Hk.out; have := Nat.div_add_mod r.length 4; have := Nat.mod_lt r.length (show 0 < 4 by decide); omega
        have HF := Aside0.mk (show h = X.words32 (r.length / 4) h1 r ∧ L = X.rest 4 r by
          have := Hk.out
          obtain rfl : j = r.length / 4 := by omega
          exact ⟨HE.out, HeL.out⟩)
        clear HeL HeLl Hk HE
        go_wp2
        go_loopg [5, 6] L.length (fun kq v5 v6 we => ∃ (i : Nat) (A' : Option Addr) (c' : Nat) (q : Int), kq + i = L.length ∧ v5 = .int .u32 q ∧ Aside0 (q = X.bytes32 h (L.take i)) ∧ v6 = .slice A' (L.length - i) c' ∧ Aside0 (ReadsInt wc .u8 A' (L.length - i) (L.drop i)) ∧ L.length - i ≤ c' ∧ ∃ m', we = wc.drewN m')
        case atStart => exact ⟨0, A', c', h, by omega, rfl, ⟨by rw [List.take_zero]; rfl⟩, rfl, HA, by simpa using hnc, _, rfl⟩
        case round =>
          clear HA hnc
          obtain ⟨i, A', c', q, hk, rfl, HQ, rfl, HA, hnc, m', rfl⟩ := hrel
          have hQ := bytes_range (L.take i) h ⟨hW0, hW1⟩
          rw [← HQ.out] at hQ
          obtain ⟨hQ0, hQ1⟩ := hQ
          have Hk := Aside0.mk hk
          clear hk
          cases gk with
          | zero =>
            have hi : i = L.length := by have := Hk.out; omega
            subst hi
            rw [Nat.sub_self]
            go_wp2
            go_ret
            refine ⟨congrArg (fun z => Ending.returned (.int .u32 z)) ?_, pw_below_drewN HB2.out _⟩
            obtain ⟨f1, f2⟩ := HF.out
            have f3 := HQ.out
            rw [List.take_length] at f3
            rw [sum_eq, ← Hh.out, ← Hr.out, X.tail32, ← f1, ← f2, ← f3]
            rfl
          | succ k1 =>
            have hi : i < L.length := by have := Hk.out; omega
            obtain ⟨T, eT⟩ : ∃ T, T = L.drop i := ⟨_, rfl⟩
            have eTl : L.length - i = T.length := by rw [eT]; simp
            rw [eTl] at HA hnc ⊢
            rw [← eT] at HA
            have ht : 0 < T.length := by omega
            have HeT := Aside0.mk eT
            have HeTl := Aside0.mk eTl
            have hts : T.length ≤ 140737488355327 := by omega
            clear eT eTl
            obtain ⟨A1, hcut, hA1⟩ := print_cut (P := Try.prog) 22 5 .i64 Try.underlying22 hi05 hsz5 A' T.length c' 1 ht
            have HA1 := Aside0.mk hA1
            have hcut' : ∀ W : World, (Instr.slice 22 (.slice A' T.length c') (some (.int .i64 1)) none none).run Try.prog W = .ok (.slice A1 (T.length - 1) (c' - 1)) W := hcut
            obtain ⟨ad, rfl, hc⟩ := HA.out.2.2 ht
            have hci : wc.cell? ad = some (.int .u8 (X.at' T 0)) := by have := hc 0 ht; rwa [Addr.add_zero'] at this
            have hTb : X.at' T 0 = X.at' L i := by rw [HeT.out, at_drop]; rfl
            have hb0 : 0 ≤ X.at' T 0 ∧ X.at' T 0 < 256 := by rw [hTb]; exact HLb.out i
            obtain ⟨b0, b1⟩ := hb0
            have HTb := Aside0.mk hTb
            have ht' : (0 : Int) < (T.length : Int) := by omega
            clear hc hA1 hcut hTb
            go_wp2_with (first | (go_at_call 58; refine (rrot32_calls _ 11 _ (by decide) (by decide) (w32_mod _).1 (w32_mod _).2).mono ?_; rintro e w' ⟨rfl, mm, rfl⟩))
            go_roundg k1
            case measure => omega
            case rel =>
              have e1 : L.length - (i + 1) = T.length - 1 := by have := HeTl.out; omega
              refine ⟨i + 1, A1, c' - 1, _, by have := Hk.out; omega, rfl, ⟨?_⟩, by rw [e1], ⟨?_⟩, by omega, _, rfl⟩
              · rw [bytes_snoc _ _ _ hi, ← HQ.out, ← HTb.out]; rfl
              · rw [e1, show L.drop (i + 1) = T.drop 1 by rw [HeT.out, List.drop_drop]]
                exact HA1.out _ _ _ hnc HA.out
      | succ k1 =>
        have hge : 4 ≤ L.length := by have := HeLl.out; have := Hk.out; have := Nat.div_mul_le_self r.length 4; omega
        have hge' : (4 : Int) ≤ (L.length : Int) := by omega
        obtain ⟨ad, rfl, _⟩ := HA.out.2.2 (by omega)
        obtain ⟨A1, hcut, hA1⟩ := print_cut (P := Try.prog) 22 5 .i64 Try.underlying22 hi05 hsz5 (some ad) L.length c' 4 hge
        have HA1 := Aside0.mk hA1
        have hcut' : ∀ W : World, (Instr.slice 22 (.slice (some ad) L.length c') (some (.int .i64 4)) none none).run Try.prog W = .ok (.slice A1 (L.length - 4) (c' - 4)) W := hcut
        clear hA1 hcut
        go_wp2_with (first | (go_at_call 59; refine (low32_calls ad L.length c' L _ ((rd_of_reads HA.out).drewN _) rfl hge HLb.out).mono ?_; rintro e w' ⟨rfl, m', rfl⟩) | (go_at_call 58; refine (rrot32_calls _ 17 _ (by decide) (by decide) (w32_mod _).1 (w32_mod _).2).mono ?_; rintro e w' ⟨rfl, mm, rfl⟩))
        go_roundg k1
        case measure => omega
        case rel =>
          have e1 : r.length - 4 * (j + 1) = L.length - 4 := by have := HeLl.out; omega
          refine ⟨j + 1, A1, c' - 4, _, by have := Hk.out; omega, rfl, ⟨?_⟩, by rw [e1], ⟨?_⟩, by omega, _, rfl⟩
          · rw [words_snoc, ← HeL.out, ← HE.out]; rfl
          · rw [e1, show r.drop (4 * (j + 1)) = L.drop 4 by rw [HeL.out, List.drop_drop, Nat.mul_succ]]
            exact HA1.out _ _ _ hnc HA.out
end Go.Proofs.Ytnkcbkfccbfjpaa.XxhW
