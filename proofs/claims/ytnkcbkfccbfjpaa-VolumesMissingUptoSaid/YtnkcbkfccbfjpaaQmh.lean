/- Contracts and plain facts (texts of mine, and printed ones, made one; what nothing leads to is left out). -/
import Derived.Test.YtnkcbkfccbfjpaaRows
import Derived.Deep.Matrix
import Derived.Deep.Strs
import Derived.Test.YtnkcbkfccbfjpaaQmg
/- VolumesMissing, plain: what is missing, and what is there, are together the whole, each place once. -/
namespace Go.Proofs.Ytnkcbkfccbfjpaa.Z
open Go.RowKit Go.Proofs.Ytnkcbkfccbfjpaa.XxhW Go.Proofs.Ytnkcbkfccbfjpaa.QVolumesCuts Go.Proofs.Ytnkcbkfccbfjpaa.SVolumesMissing Go.Proofs.Ytnkcbkfccbfjpaa.Rng Go.Proofs.YtnkcbkfccbfjpaaW.PrintWords Go.Proofs.YtnkcbkfccbfjpaaW.PrintLast Go.Proofs.YtnkcbkfccbfjpaaW.PrintMore
open Go.Proofs.Ytnkcbkfccbfjpaa.RSizesRanges hiding errW errW_none errW_some
set_option linter.unusedVariables false
set_option linter.unusedSimpArgs false
theorem take_succ_getD {α : Type} (L : List α) (d : α) (i : Nat) (h : i < L.length) : L.take (i + 1) = L.take i ++ [L.getD i d] := by
  rw [List.take_succ_eq_append_getElem h, List.getD_eq_getElem?_getD, List.getElem?_eq_getElem h]; rfl
theorem copies_l0 (L : List (List Int)) (hL : ∀ b ∈ L, b.length ≤ 100000000) (hn : L.length ≤ 1000000000) : ∀ (j k i : Nat), i + j = L.length → j < k → satchellaw27_copies.l0 k L (L.take i) (i : Int) = some L := by
  intro j
  induction j with
  | zero =>
    intro k i hi hk
    obtain ⟨k, rfl⟩ : ∃ q, k = q + 1 := ⟨k - 1, by omega⟩
    rw [satchellaw27_copies.l0, if_neg (by omega), List.take_of_length_le (by omega)]
  | succ j ih =>
    intro k i hi hk
    obtain ⟨k, rfl⟩ : ∃ q, k = q + 1 := ⟨k - 1, by omega⟩
    have hb := hL (L.getD i []) (by rw [List.getD_eq_getElem?_getD, List.getElem?_eq_getElem (show i < L.length by omega)]; exact List.getElem_mem _)
    rw [satchellaw27_copies.l0, if_pos (by omega), Option.bind_some, if_pos (by omega), rdL_at, if_pos (by rw [List.length_nil]; omega), if_pos (by rw [List.length_take]; omega), List.nil_append, XxhW.wrap_succ _ (by omega), ← take_succ_getD L [] i (by omega)]
    exact ih k (i + 1) (by omega) (by omega)
theorem copies_f (k : Nat) (L : List (List Int)) (hL : ∀ b ∈ L, b.length ≤ 100000000) (hn : L.length ≤ 1000000000) (hk : L.length < k) : satchellaw27_copies.f k L = some L := copies_l0 L hL hn L.length k 0 (by omega) hk
/-! ### places that are told -/
/-- One where f, none elsewhere. -/
def chr (n : Nat) (f : Nat → Bool) : List Int := (List.range n).map fun x => if f x = true then 1 else 0
theorem chr_len (n : Nat) (f : Nat → Bool) : (chr n f).length = n := by simp [chr]
theorem chr_at (n : Nat) (f : Nat → Bool) (x : Nat) (h : x < n) : (chr n f).getD x 0 = if f x = true then 1 else 0 := by
  unfold chr
  rw [List.getD_eq_getElem?_getD, List.getElem?_map, List.getElem?_range h]
  rfl
theorem chr_set (n : Nat) (f : Nat → Bool) (x : Nat) (h : x < n) : (chr n f).set x 1 = chr n (fun y => f y || decide (y = x)) := by
  apply List.ext_getElem
  · rw [List.length_set, chr_len, chr_len]
  · intro i h1 h2
    rw [List.getElem_set]
    rw [chr_len] at h2
    simp only [chr, List.getElem_map, List.getElem_range]
    by_cases e : x = i
    · subst e; simp
    · rw [if_neg e]
      have : decide (i = x) = false := decide_eq_false (fun q => e q.symm)
      rw [this, Bool.or_false]
theorem chr_zero (n : Nat) : List.replicate n (0 : Int) = chr n (fun _ => false) := by
  apply List.ext_getElem
  · rw [List.length_replicate, chr_len]
  · intro i h1 h2
    simp [chr]
theorem chr_congr {n : Nat} {f g : Nat → Bool} (h : ∀ x, x < n → f x = g x) : chr n f = chr n g := by
  unfold chr
  apply List.map_congr_left
  intro x hx
  rw [h x (List.mem_range.1 hx)]
theorem rd_nat2 (b : List Int) (p : Nat) : rd b (p : Int) = b.getD p 0 := by simp [rd]
section
variable (l : List Int) (most set : Int) (sp : Bool)
/-- A range's places are told. -/
theorem ml2 (M : List (List Int)) (r : List S82) (i : Nat) (hi : i < r.length) (a b : Nat) (hra : (rd_T82 r (i : Int)).f0 = (a : Int)) (hrb : (rd_T82 r (i : Int)).f1 = (b : Int)) (hbl : b ≤ l.length) (hll : l.length ≤ 4194304) (hr : r.length ≤ 1000000) : ∀ (j k x : Nat) (f : Nat → Bool), x + j = b → a ≤ x → j < k → (∀ y, x ≤ y → y < b → f y = false) →
    satchellaw27_VolumesMissing.l2 k M r (chr l.length f) (i : Int) (x : Int) l most set sp = satchellaw27_VolumesMissing.l1 (k - j - 1) M r (chr l.length (fun y => f y || decide (x ≤ y ∧ y < b))) ((i + 1 : Nat) : Int) l most set sp := by
  intro j
  induction j with
  | zero =>
    intro k x f hx hax hk hf
    obtain ⟨k, rfl⟩ : ∃ q, k = q + 1 := ⟨k - 1, by omega⟩
    rw [satchellaw27_VolumesMissing.l2, if_pos (by omega), if_pos (by omega), hrb, if_neg (by omega), XxhW.wrap_succ _ (by omega)]
    rw [show k + 1 - 0 - 1 = k by omega]
    congr 1
    refine chr_congr fun y hy => ?_
    rw [decide_eq_false (by omega), Bool.or_false]
  | succ j ih =>
    intro k x f hx hax hk hf
    obtain ⟨k, rfl⟩ : ∃ q, k = q + 1 := ⟨k - 1, by omega⟩
    have hfx := hf x (Nat.le_refl _) (by omega)
    have hv : wrap64 ((chr l.length f).getD x 0 + 1) = 1 := by rw [chr_at _ _ _ (by omega), hfx, if_neg (by decide)]; exact IntWalk.wrap64_in _ (by decide)
    rw [satchellaw27_VolumesMissing.l2, if_pos (by omega), if_pos (by omega), hrb, if_pos (by omega), if_neg (by omega), if_neg (by rw [chr_len]; omega), if_pos (by omega), if_pos (by rw [chr_len]; omega), rd_nat2, hv, Int.toNat_natCast, chr_set _ _ _ (by omega), XxhW.wrap_succ _ (by omega)]
    rw [ih k (x + 1) _ (by omega) (by omega) (by omega) (fun y h1 h2 => by
      rw [hf y (by omega) h2, decide_eq_false (by omega)]; rfl)]
    rw [show k + 1 - (j + 1) - 1 = k - j - 1 by omega]
    congr 1
    refine chr_congr fun y hy => ?_
    by_cases e1 : y = x
    · subst e1
      rw [decide_eq_true rfl, decide_eq_true (show y ≤ y ∧ y < b by omega)]
      simp
    · rw [decide_eq_false e1, Bool.or_false]
      congr 1
      exact decide_eq_decide.2 (by omega)
def inB (x : Int) (L : List S82) : Bool := L.any fun y => decide (y.f0 ≤ x ∧ x < y.f1)
theorem inB_iff (x : Int) (L : List S82) : inB x L = true ↔ In x L := by
  unfold inB In
  rw [List.any_eq_true]
  exact ⟨fun ⟨y, h1, h2⟩ => ⟨y, h1, (of_decide_eq_true h2).1, (of_decide_eq_true h2).2⟩, fun ⟨y, h1, h2, h3⟩ => ⟨y, h1, decide_eq_true ⟨h2, h3⟩⟩⟩
theorem inB_cons (x : Int) (y : S82) (L : List S82) : inB x (y :: L) = (decide (y.f0 ≤ x ∧ x < y.f1) || inB x L) := rfl
theorem ml1 (B : Nat) (hB : 4194310 ≤ B) (M : List (List Int)) (r : List S82) (hll : l.length ≤ 4194304) (hr : r.length ≤ 2000) (hin : ∀ y ∈ r, 0 ≤ y.f0 ∧ y.f1 ≤ (l.length : Int)) : ∀ (j k i : Nat) (lo : Int) (f : Nat → Bool), i + j = r.length → j * B + B ≤ k → Canon lo (r.drop i) → (∀ y, f y = true → (y : Int) ≤ lo) →
    ∃ k', k ≤ k' + (j * B + B) ∧ satchellaw27_VolumesMissing.l1 k M r (chr l.length f) (i : Int) l most set sp = satchellaw27_VolumesMissing.l3 k' M (chr l.length (fun y => f y || inB (y : Int) (r.drop i))) 0 l most set sp := by
  intro j
  induction j with
  | zero =>
    intro k i lo f hi hk hc hf
    obtain ⟨k, rfl⟩ : ∃ q, k = q + 1 := ⟨k - 1, by omega⟩
    refine ⟨k, by omega, ?_⟩
    rw [satchellaw27_VolumesMissing.l1, if_neg (by omega), List.drop_eq_nil_of_le (by omega)]
    congr 1
    refine chr_congr fun y hy => ?_
    simp [inB]
  | succ j ih =>
    intro k i lo f hi hk hc hf
    have hjB : (j + 1) * B = j * B + B := by rw [Nat.add_mul, Nat.one_mul]
    rw [hjB] at hk ⊢
    generalize hX : j * B = X at *
    obtain ⟨k, rfl⟩ : ∃ q, k = q + 1 := ⟨k - 1, by omega⟩
    have hdr := drop_rd r i (by omega)
    rw [hdr] at hc
    obtain ⟨c1, c2, c3⟩ := hc
    have hym : rd_T82 r (i : Int) ∈ r := List.mem_of_mem_drop (by rw [hdr]; exact List.mem_cons_self)
    obtain ⟨b1, b2⟩ := hin _ hym
    obtain ⟨a, ha⟩ : ∃ a : Nat, (rd_T82 r (i : Int)).f0 = (a : Int) := ⟨(rd_T82 r (i : Int)).f0.toNat, by omega⟩
    obtain ⟨b, hb⟩ : ∃ b : Nat, (rd_T82 r (i : Int)).f1 = (b : Int) := ⟨(rd_T82 r (i : Int)).f1.toNat, by omega⟩
    have hff : ∀ y, a ≤ y → y < b → f y = false := fun y h1 h2 => by
      cases e : f y with
      | false => rfl
      | true => have := hf y e; omega
    have h2 := ml2 l most set sp M r i (by omega) a b ha hb (by omega) hll (by omega) (b - a) k a f (by omega) (Nat.le_refl _) (by omega) hff
    obtain ⟨k', g1, g2⟩ := ih (k - (b - a) - 1) (i + 1) (b : Int) (fun y => f y || decide (a ≤ y ∧ y < b)) (by omega) (by omega) (by rw [← hb]; exact c3) (fun y hy => by
      rw [Bool.or_eq_true, decide_eq_true_eq] at hy
      rcases hy with hy | hy
      · have := hf y hy; omega
      · omega)
    refine ⟨k', by omega, ?_⟩
    rw [satchellaw27_VolumesMissing.l1, if_pos (by omega), if_pos (by omega), ha, h2, g2]
    congr 1
    refine chr_congr fun y hy => ?_
    rw [hdr, inB_cons, ha, hb, Bool.or_assoc]
    congr 2
    exact decide_eq_decide.2 (by omega)
theorem ml5 (hll : l.length ≤ 4194304) (f : Nat → Bool) (hf : ∀ x, x < l.length → f x = true) : ∀ (j k i : Nat), i + j = l.length → j < k → satchellaw27_VolumesMissing.l5 k (chr l.length f) (i : Int) = some true := by
  intro j
  induction j with
  | zero =>
    intro k i hi hk
    obtain ⟨k, rfl⟩ : ∃ q, k = q + 1 := ⟨k - 1, by omega⟩
    rw [satchellaw27_VolumesMissing.l5, if_neg (by rw [chr_len]; omega)]
  | succ j ih =>
    intro k i hi hk
    obtain ⟨k, rfl⟩ : ∃ q, k = q + 1 := ⟨k - 1, by omega⟩
    rw [satchellaw27_VolumesMissing.l5, if_pos (by rw [chr_len]; omega), if_pos (by omega), rd_nat2, chr_at _ _ _ (by omega), hf i (by omega), if_pos rfl, if_pos rfl, XxhW.wrap_succ _ (by omega)]
    exact ih k (i + 1) (by omega) (by omega)
theorem ml4 (M : List (List Int)) (t : Nat) (ht : t < 1000000) (o m : Nat) (p : List Int) (hp : p.length = m) (hom : o + m ≤ l.length) (hpl : ∀ x, x < m → p.getD x 0 = l.getD (o + x) 0) (hll : l.length ≤ 4194304) (v0 v1 v2 v4 : Int) : ∀ (j k x : Nat) (f : Nat → Bool), x + j = o + m → o ≤ x → 2 * j + 2 < k → (∀ y, x ≤ y → y < o + m → f y = false) →
    satchellaw27_VolumesMissing.l4 k M (chr l.length f) (t : Int) p (x : Int) l most set sp v0 v1 v2 false v4 (o : Int) (m : Int) = satchellaw27_VolumesMissing.l3 (k - 2 * j - 2) M (chr l.length (fun y => f y || decide (x ≤ y ∧ y < o + m))) ((t + 1 : Nat) : Int) l most set sp := by
  intro j
  have hw : wrap64 ((o : Int) + (m : Int)) = ((o + m : Nat) : Int) := by rw [← Int.natCast_add]; exact XxhW.wrap_small _ (by omega)
  induction j with
  | zero =>
    intro k x f hx hox hk hf
    obtain ⟨k, rfl⟩ : ∃ q, k = q + 2 := ⟨k - 2, by omega⟩
    rw [satchellaw27_VolumesMissing.l4, hw, if_neg (by omega), satchellaw27_VolumesMissing.j7, if_neg (by decide), XxhW.wrap_succ _ (by omega), show k + 2 - 2 * 0 - 2 = k by omega]
    congr 1
    refine chr_congr fun y hy => ?_
    rw [decide_eq_false (by omega), Bool.or_false]
  | succ j ih =>
    intro k x f hx hox hk hf
    obtain ⟨k, rfl⟩ : ∃ q, k = q + 2 := ⟨k - 2, by omega⟩
    have hfx := hf x (Nat.le_refl _) (by omega)
    have hv : wrap64 ((chr l.length f).getD x 0 + 1) = 1 := by rw [chr_at _ _ _ (by omega), hfx, if_neg (by decide)]; exact IntWalk.wrap64_in _ (by decide)
    have hw2 : wrap64 ((x : Int) - (o : Int)) = ((x - o : Nat) : Int) := by rw [show (x : Int) - (o : Int) = ((x - o : Nat) : Int) by omega]; exact XxhW.wrap_small _ (by omega)
    have heq : p.getD (x - o) 0 = l.getD x 0 := by rw [hpl _ (by omega), show o + (x - o) = x by omega]
    rw [satchellaw27_VolumesMissing.l4, hw, if_pos (by omega), satchellaw27_VolumesMissing.j7, if_pos (show (!false) = true from rfl), if_neg (by omega), if_neg (by rw [chr_len]; omega), hw2, if_pos (by omega), if_pos (by omega), if_pos (by omega), if_pos (by omega), rd_nat2, rd_nat2, heq, if_pos rfl, if_pos (by rw [chr_len]; omega), rd_nat2, hv, Int.toNat_natCast, chr_set _ _ _ (by omega), XxhW.wrap_succ _ (by omega)]
    rw [ih k (x + 1) _ (by omega) (by omega) (by omega) (fun y h1 h2 => by rw [hf y (by omega) h2, decide_eq_false (by omega)]; rfl)]
    rw [show k + 2 - 2 * (j + 1) - 2 = k - 2 * j - 2 by omega]
    congr 1
    refine chr_congr fun y hy => ?_
    by_cases e1 : y = x
    · subst e1
      rw [decide_eq_true rfl, decide_eq_true (show y ≤ y ∧ y < o + m by omega)]
      simp
    · rw [decide_eq_false e1, Bool.or_false]
      congr 1
      exact decide_eq_decide.2 (by omega)
end
end Go.Proofs.Ytnkcbkfccbfjpaa.Z
/- VolumesMissing, plain: the printed function answers true. -/
namespace Go.Proofs.Ytnkcbkfccbfjpaa.Z
open Go.RowKit Go.Proofs.Ytnkcbkfccbfjpaa.XxhW Go.Proofs.Ytnkcbkfccbfjpaa.QVolumesCuts Go.Proofs.Ytnkcbkfccbfjpaa.SVolumesMissing Go.Proofs.Ytnkcbkfccbfjpaa.Rng Go.Proofs.YtnkcbkfccbfjpaaW.PrintWords Go.Proofs.YtnkcbkfccbfjpaaW.PrintLast Go.Proofs.YtnkcbkfccbfjpaaW.PrintMore
open Go.Proofs.Ytnkcbkfccbfjpaa.RSizesRanges hiding errW errW_none errW_some
set_option linter.unusedVariables false
set_option linter.unusedSimpArgs false
/-- Is a place in a piece. -/
def pieceB (len s n k x : Nat) : Bool := decide (k < n ∧ k * s ≤ x ∧ x < min (k * s + s) len)
theorem pieceB_one {len s n a b x : Nat} (ha : pieceB len s n a x = true) (hb : pieceB len s n b x = true) : a = b := by
  unfold pieceB at ha hb
  rw [decide_eq_true_eq] at ha hb
  rcases Nat.lt_trichotomy a b with h | h | h
  · have : (a + 1) * s ≤ b * s := Nat.mul_le_mul_right _ h
    rw [Nat.add_mul, Nat.one_mul] at this
    omega
  · exact h
  · have : (b + 1) * s ≤ a * s := Nat.mul_le_mul_right _ h
    rw [Nat.add_mul, Nat.one_mul] at this
    omega
section
variable {l : List Int} {set : Int} {sp : Bool} {s n : Nat} {R : List (List Int)}
theorem CutOk.rn (h : CutOk l set sp s n R) : n ≤ R.length ∧ R.length ≤ n + 1 := by rw [h.cnt]; constructor <;> split <;> omega
theorem CutOk.at_ (h : CutOk l set sp s n R) {k : Nat} (hk : k < n) : k * s ≤ l.length := by
  by_cases e : n = 1
  · have : k = 0 := by omega
    subst this
    omega
  · have := h.few (by have := h.n1; omega)
    have : k * s ≤ (n - 1) * s := Nat.mul_le_mul_right _ (by omega)
    omega
theorem CutOk.fields (h : CutOk l set sp s n R) {k : Nat} (hk : k < R.length) : (volOf (R.getD k [])).sp = decide (k = n) ∧ (volOf (R.getD k [])).size = ((partK l s n k).length : Int) ∧ (k < n → (volOf (R.getD k [])).off = ((k * s : Nat) : Int)) := by
  obtain ⟨hg, e1, e2, e3, e4, e5, e6⟩ := h.el k hk
  have hok := getE_ok hg.getE
  rw [e6] at hok
  have hsz := hok.size.1
  rw [e5] at hsz
  refine ⟨?_, hsz, fun hkn => ?_⟩
  · rw [hok.sp, e2, e3]
    by_cases e : k = n
    · rw [decide_eq_true e, e]; simp
    · rw [decide_eq_false e, beq_eq_false_iff_ne]; omega
  · by_cases e : n = 1
    · have : k = 0 := by omega
      subst this
      rw [(hok.one (by omega)).2.2]
      simp
    · obtain ⟨m1, m2, m3, m4, m5, m6, m7⟩ := hok.more (by omega)
      rw [if_neg e] at m5 m6 m7
      rw [e2, e3] at m5 m6 m7
      by_cases e7 : k = n - 1
      · rw [(m6 (by omega)).2, Int.natCast_mul, Int.mul_comm]
      · rw [(m7 (by omega)).2, Int.natCast_mul, Int.mul_comm]
theorem CutOk.read (h : CutOk l set sp s n R) {k : Nat} (hk : k < R.length) : volumes_Read.f (R.getD k []) = some (set, (k : Int), (n : Int), decide (k = n), (l.length : Int), (volOf (R.getD k [])).off, ((partK l s n k).length : Int), partK l s n k, 0) := by
  obtain ⟨hg, e1, e2, e3, e4, e5, e6⟩ := h.el k hk
  obtain ⟨f1, f2, f3⟩ := h.fields hk
  rw [hg.read]
  have q1 : numP ((R.getD k []).drop 8) 8 = set := e1
  have q2 : numP ((R.getD k []).drop 16) 4 = (k : Int) := e2
  have q3 : numP ((R.getD k []).drop 20) 4 = (n : Int) := e3
  have q4 : (numP ((R.getD k []).drop 24) 4 == 1) = decide (k = n) := f1
  have q5 : wrap64 (numP ((R.getD k []).drop 28) 8) = (l.length : Int) := e4
  have q6 : wrap64 (numP ((R.getD k []).drop 36) 8) = (volOf (R.getD k [])).off := rfl
  have q7 : wrap64 (numP ((R.getD k []).drop 44) 8) = ((partK l s n k).length : Int) := f2
  have q8 : (R.getD k []).drop 64 = partK l s n k := e5
  rw [q1, q2, q3, q4, q5, q6, q7, q8]
theorem place_eq (h : CutOk l set sp s n R) {v0 : Vol} (h1 : v0.cnt = (n : Int)) (h2 : v0.whole = (l.length : Int)) (h3 : stepV v0 = if n = 1 then 0 else (s : Int)) {k : Nat} (hk : k < n) : placeP v0 k = (((k * s : Nat) : Int), ((min (k * s + s) l.length : Nat) : Int)) := by
  unfold placeP
  rw [h1, h2, h3]
  have ha := h.all
  by_cases e : n = 1
  · have : k = 0 := by omega
    subst this
    rw [if_pos (by omega)]
    rw [e, Nat.one_mul] at ha
    rw [Nat.zero_mul, Nat.zero_add, Nat.min_eq_right ha]; rfl
  · rw [if_neg (by omega), if_neg e, ← Int.natCast_mul]
    generalize k * s = x
    congr 1
    split <;> omega
/-- What is missing of some of the volumes. -/
theorem miss_facts (h : CutOk l set sp s n R) (M : List (List Int)) (hM : ∀ b ∈ M, ∃ k, k < R.length ∧ b = R.getD k []) (hne : M ≠ []) (hlen : M.length ≤ 1000000000) : ∃ r, volumes_Missing.f M = some (r, 0) ∧ Canon (-1) r ∧ r.length ≤ 2000 ∧ (∀ y ∈ r, 0 ≤ y.f0 ∧ y.f1 ≤ (l.length : Int)) ∧
    ∀ x : Nat, x < l.length → (In (x : Int) r ↔ ¬ ∃ k, R.getD k [] ∈ M ∧ k < R.length ∧ pieceB l.length s n k x = true) := by
  obtain ⟨v0, P, g1, g2, g3, g4, g5, g6⟩ := gather_set h M hM hne
  have hn1 := h.n1
  have hcn : v0.cnt.toNat = n := by omega
  have hL : ∀ i, i ≤ n → Canon (-1) (haveL v0 P i) ∧ (haveL v0 P i).length ≤ i ∧ ∀ x : Int, In x (haveL v0 P i) ↔ ∃ k, k < i ∧ slot P k ≠ none ∧ ((k * s : Nat) : Int) ≤ x ∧ x < ((min (k * s + s) l.length : Nat) : Int) := by
    intro i
    induction i with
    | zero => exact fun _ => ⟨trivial, Nat.le_refl _, fun x => ⟨fun q => absurd q (in_nil x), fun ⟨k, hk, _⟩ => absurd hk (Nat.not_lt_zero _)⟩⟩
    | succ i ih =>
      intro hi
      obtain ⟨a1, a2, a3⟩ := ih (by omega)
      have hat := h.at_ (show i < n by omega)
      rw [haveL]
      cases hs : slot P i with
      | none =>
        refine ⟨a1, by dsimp only; omega, fun x => ?_⟩
        dsimp only
        rw [a3]
        constructor
        · rintro ⟨k, hk, q⟩; exact ⟨k, by omega, q⟩
        · rintro ⟨k, hk, q1, q2⟩
          refine ⟨k, ?_, q1, q2⟩
          rcases Nat.lt_succ_iff_lt_or_eq.1 hk with e | e
          · exact e
          · rw [e] at q1; exact absurd hs q1
      | some o =>
        dsimp only
        rw [place_eq h g2 g3 g4 (show i < n by omega)]
        dsimp only
        have hsplit : ∀ x : Int, (∃ k, k < i + 1 ∧ slot P k ≠ none ∧ ((k * s : Nat) : Int) ≤ x ∧ x < ((min (k * s + s) l.length : Nat) : Int)) ↔ In x (haveL v0 P i) ∨ (((i * s : Nat) : Int) ≤ x ∧ x < ((min (i * s + s) l.length : Nat) : Int)) := fun x => by
          rw [a3]
          constructor
          · rintro ⟨k, hk, q1, q2⟩
            rcases Nat.lt_succ_iff_lt_or_eq.1 hk with e | e
            · exact .inl ⟨k, e, q1, q2⟩
            · rw [e] at q2; exact .inr q2
          · rintro (⟨k, hk, q⟩ | q)
            · exact ⟨k, by omega, q⟩
            · exact ⟨i, by omega, by rw [hs]; simp, q⟩
        generalize i * s = a at hat hsplit ⊢
        have hcan : canB (a : Int) ((min (a + s) l.length : Nat) : Int) = true := by unfold canB; rw [decide_eq_true_eq]; omega
        unfold addR
        rw [if_pos hcan]
        by_cases e : (a : Int) = ((min (a + s) l.length : Nat) : Int)
        · rw [if_pos e]
          refine ⟨a1, by dsimp only; omega, fun x => ?_⟩
          rw [hsplit]
          dsimp only
          constructor
          · exact fun q => .inl q
          · rintro (q | q)
            · exact q
            · omega
        · rw [if_neg e]
          obtain ⟨b1, b2, b3⟩ := addG_facts (haveL v0 P i) (-1) (a : Int) ((min (a + s) l.length : Nat) : Int) a1 (by omega) (by omega)
          rw [if_neg (by omega)]
          refine ⟨b1, by dsimp only; omega, fun x => ?_⟩
          rw [hsplit]
          exact b2 x
  obtain ⟨a1, a2, a3⟩ := hL n (Nat.le_refl _)
  obtain ⟨b1, b2, b3⟩ := gapsG_facts (haveL v0 P n) (-1) 0 (l.length : Int) a1
  have hcan : canB 0 (l.length : Int) = true := by unfold canB; rw [decide_eq_true_eq]; omega
  refine ⟨gapsG (haveL v0 P n) 0 (l.length : Int), ?_, b1, by omega, fun y hy => ?_, fun x hx => ?_⟩
  · unfold volumes_Missing.f missR
    rw [if_pos ⟨(lawful_iff M).2 ⟨fun b hb => by
      obtain ⟨k, hk, rfl⟩ := hM b hb
      exact ⟨(h.el k hk).1.byt, (h.el k hk).1.most⟩, hlen⟩, .inl (by rw [g1])⟩, g1]
    dsimp only
    rw [if_pos rfl, hcn, g3]
    unfold gapsR
    rw [if_pos hcan]
  · obtain ⟨q1, q2⟩ := Canon.mem b1 hy
    have q3 := (b2 (y.f1 - 1)).1 ⟨y, hy, by omega, by omega⟩
    omega
  · rw [b2, a3]
    refine ⟨fun ⟨_, q⟩ ⟨k, q1, q2, q3⟩ => q ?_, fun q => ⟨by omega, fun ⟨k, q1, q2, q3⟩ => q ?_⟩⟩
    · unfold pieceB at q3
      rw [decide_eq_true_eq] at q3
      refine ⟨k, q3.1, ?_, by omega, by omega⟩
      rcases g6 k with ⟨z, _⟩ | ⟨_, z⟩
      · rw [z]; simp
      · exact absurd ⟨q2, q1⟩ z
    · rcases g6 k with ⟨z, z2, z3⟩ | ⟨z, _⟩
      · exact ⟨k, z3, z2, by unfold pieceB; rw [decide_eq_true_eq]; omega⟩
      · exact absurd z q2
/-- The volumes that are there are told. -/
theorem ml3 (h : CutOk l set sp s n R) (most : Int) (ks : List Nat) (hks : ks.Nodup) (hkl : ∀ k ∈ ks, k < R.length) (hln : ks.length ≤ 2000) (g : Nat → Bool) (hg : ∀ k ∈ ks, ∀ x, pieceB l.length s n k x = true → g x = false) (B : Nat) (hB : 8388640 ≤ B) (hfin : ∀ x, x < l.length → g x = true ∨ ∃ k ∈ ks, pieceB l.length s n k x = true) :
    ∀ (j k i : Nat), i + j = ks.length → j * B + B ≤ k →
      satchellaw27_VolumesMissing.l3 k (ks.map fun k => R.getD k []) (chr l.length (fun x => g x || (ks.take i).any fun t => pieceB l.length s n t x)) (i : Int) l most set sp = some true := by
  have hll := h.len
  have hrn := h.rn
  have hn1 := h.n1
  intro j
  induction j with
  | zero =>
    intro k i hi hk
    obtain ⟨k, rfl⟩ : ∃ q, k = q + 1 := ⟨k - 1, by omega⟩
    rw [satchellaw27_VolumesMissing.l3, if_neg (by rw [List.length_map]; omega)]
    refine ml5 l hll _ (fun x hx => ?_) l.length k 0 (by omega) (by omega)
    rw [List.take_of_length_le (by omega), Bool.or_eq_true, List.any_eq_true]
    rcases hfin x hx with q | ⟨t, q1, q2⟩
    · exact .inl q
    · exact .inr ⟨t, q1, q2⟩
  | succ j ih =>
    intro k i hi hk
    have hjB : (j + 1) * B = j * B + B := by rw [Nat.add_mul, Nat.one_mul]
    rw [hjB] at hk
    obtain ⟨k, rfl⟩ : ∃ q, k = q + 2 := ⟨k - 2, by omega⟩
    obtain ⟨q, hq⟩ : ∃ q, q = ks.getD i 0 := ⟨_, rfl⟩
    have hqm : q ∈ ks := by rw [hq, List.getD_eq_getElem?_getD, List.getElem?_eq_getElem (show i < ks.length by omega), Option.getD_some]; exact List.getElem_mem _
    have hqR := hkl q hqm
    have htk : ks.take (i + 1) = ks.take i ++ [q] := by rw [take_succ_getD ks 0 i (by omega), ← hq]
    have hread : rd_L1 (ks.map fun k => R.getD k []) (i : Int) = R.getD q [] := by
      rw [rdL_at, List.getD_eq_getElem?_getD, List.getElem?_map, List.getElem?_eq_getElem (show i < ks.length by omega), hq, List.getD_eq_getElem?_getD, List.getElem?_eq_getElem (show i < ks.length by omega)]
      rfl
    have hnext := ih (k - 2 * (partK l s n q).length - 2) (i + 1) (by omega)
    rw [satchellaw27_VolumesMissing.l3, if_pos (by rw [List.length_map]; omega), if_pos (by omega), hread, h.read hqR, Option.bind_some, if_pos rfl]
    dsimp only
    rw [if_pos rfl, show (((l.length : Int)) != (l.length : Int)) = false by simp, satchellaw27_VolumesMissing.j5, if_neg (by decide)]
    by_cases hqn : q < n
    · have hp := piece_len l s q
      have hat := h.at_ hqn
      have hpk : partK l s n q = piece l s q := by unfold partK; rw [if_pos hqn]
      rw [(h.fields hqR).2.2 hqn, decide_eq_false (show ¬ q = n by omega), hpk]
      rw [hpk] at hnext
      have hpl : ∀ x, x < (piece l s q).length → (piece l s q).getD x 0 = l.getD (q * s + x) 0 := fun x hx => by
        unfold piece
        rw [List.getD_eq_getElem?_getD, List.getElem?_drop, List.getElem?_take, if_pos (by omega), List.getD_eq_getElem?_getD]
      have h4 := ml4 l most set sp (ks.map fun k => R.getD k []) i (by omega) (q * s) (piece l s q).length (piece l s q) rfl (by omega) hpl hll set (q : Int) (n : Int) (l.length : Int) (piece l s q).length k (q * s) (fun x => g x || (ks.take i).any fun t => pieceB l.length s n t x) rfl (Nat.le_refl _) (by omega) (fun y h1 h2 => by
        have hy : pieceB l.length s n q y = true := by unfold pieceB; rw [decide_eq_true_eq]; omega
        rw [hg q hqm y hy, Bool.false_or]
        cases e : (ks.take i).any fun t => pieceB l.length s n t y with
        | false => rfl
        | true =>
          obtain ⟨t, ht, ht2⟩ := List.any_eq_true.1 e
          have := pieceB_one hy ht2
          subst this
          have hnd : (ks.take (i + 1)).Nodup := hks.sublist (List.take_sublist _ _)
          rw [htk, List.nodup_append] at hnd
          exact absurd rfl (hnd.2.2 q ht q (by simp)))
      rw [h4]
      refine Eq.trans ?_ (hnext (by omega))
      congr 1
      refine chr_congr fun y hy => ?_
      rw [htk, List.any_append, Bool.or_assoc]
      congr 2
      rw [List.any_cons, List.any_nil, Bool.or_false]
      unfold pieceB
      exact decide_eq_decide.2 (by omega)
    · have hqe : q = n := by omega
      rw [decide_eq_true hqe]
      have hno : ∀ y, pieceB l.length s n q y = false := fun y => by unfold pieceB; exact decide_eq_false (by omega)
      have hchr : chr l.length (fun x => g x || (ks.take (i + 1)).any fun t => pieceB l.length s n t x) = chr l.length (fun x => g x || (ks.take i).any fun t => pieceB l.length s n t x) := chr_congr fun y hy => by
        rw [htk, List.any_append, List.any_cons, List.any_nil, hno y, Bool.or_false, Bool.or_false]
      obtain ⟨k, rfl⟩ : ∃ x, k = x + 2 := ⟨k - 2, by omega⟩
      have hl3 := ih k (i + 1) (by omega) (by omega)
      rw [hchr] at hl3
      have hj7 : ∀ off : Int, satchellaw27_VolumesMissing.j7 (k + 1) (ks.map fun k => R.getD k []) (chr l.length fun x => g x || (ks.take i).any fun t => pieceB l.length s n t x) (i : Int) (partK l s n q) off false l most set sp set (q : Int) (n : Int) true (l.length : Int) off ((partK l s n q).length : Int) = some true := fun off => by
        rw [satchellaw27_VolumesMissing.j7, if_neg (by decide), XxhW.wrap_succ _ (by omega)]
        exact hl3
      rw [satchellaw27_VolumesMissing.l4]
      split
      · exact hj7 _
      · exact hj7 _
theorem miss_l0 (h : CutOk l set sp s n R) (most : Int) (have_ : List Bool) (K : Nat) (hK : 100000000000 ≤ K) : ∀ (j k i : Nat), i + j = R.length → j + K + 10 ≤ k →
    satchellaw27_VolumesMissing.l0 k have_ R 0 (((List.range i).filter fun t => have_.getD t false).map fun k => R.getD k []) (i : Int) l most set sp = some true := by
  have hll := h.len
  have hrn := h.rn
  have hn1 := h.n1
  intro j
  induction j with
  | zero =>
    intro k i hi hk
    obtain ⟨k, rfl⟩ : ∃ q, k = q + 3 := ⟨k - 3, by omega⟩
    have hii : i = R.length := by omega
    obtain ⟨ks, hks⟩ : ∃ ks, ks = (List.range i).filter fun t => have_.getD t false := ⟨_, rfl⟩
    rw [← hks]
    have hkl : ∀ k ∈ ks, k < R.length := fun k hk => by
      rw [hks, List.mem_filter, List.mem_range] at hk
      omega
    have hkn : ks.length ≤ 2000 := by
      have := List.length_filter_le (fun t => have_.getD t false) (List.range i)
      rw [← hks, List.length_range] at this
      omega
    have hnd : ks.Nodup := by rw [hks]; exact List.nodup_range.filter _
    obtain ⟨M, hM⟩ : ∃ M, M = ks.map fun k => R.getD k [] := ⟨_, rfl⟩
    have hMl : M.length = ks.length := by rw [hM, List.length_map]
    have hMR : ∀ b ∈ M, ∃ k, k < R.length ∧ b = R.getD k [] := fun b hb => by
      rw [hM] at hb
      obtain ⟨k, hk, rfl⟩ := List.mem_map.1 hb
      exact ⟨k, hkl k hk, rfl⟩
    have hMm : ∀ b ∈ M, b.length ≤ 100000000 := fun b hb => by
      obtain ⟨k, hk, rfl⟩ := hMR b hb
      exact (h.el k hk).1.most
    rw [← hM, satchellaw27_VolumesMissing.l0, if_neg (by omega), copies_f (k + 2) M hMm (by omega) (by omega), Option.bind_some]
    by_cases hne : M = []
    · have hmf : volumes_Missing.f M = some ([], 272) := by rw [hne]; rfl
      rw [hmf, Option.bind_some, if_pos rfl, hne]
      rw [satchellaw27_VolumesMissing.j1]
      rfl
    · obtain ⟨r, g1, g2, g3, g4, g5⟩ := miss_facts h M hMR hne (by omega)
      have hl0 : ((M.length : Int) == 0) = false := by
        rw [beq_eq_false_iff_ne]
        intro e
        exact hne (List.eq_nil_of_length_eq_zero (by omega))
      rw [g1, Option.bind_some, if_pos rfl, hl0, satchellaw27_VolumesMissing.j1, if_neg (by decide), if_pos rfl, if_pos (by omega), if_pos (by omega), Int.toNat_natCast, chr_zero]
      obtain ⟨k', q1, q2⟩ := ml1 l most set sp 4194310 (Nat.le_refl _) M r hll g3 g4 r.length (k + 1) 0 (-1) (fun _ => false) (by omega) (by omega) (by rw [List.drop_zero]; exact g2) (fun y hy => absurd hy (by decide))
      rw [show ((0 : Nat) : Int) = 0 from rfl] at q2
      rw [q2, List.drop_zero]
      have h3 := ml3 h most ks hnd hkl hkn (fun x => inB (x : Int) r) (fun k hk x hx => by
        cases e : inB (x : Int) r with
        | false => rfl
        | true =>
          have hxl : x < l.length := by unfold pieceB at hx; rw [decide_eq_true_eq] at hx; omega
          exact absurd ⟨k, by rw [hM]; exact List.mem_map.2 ⟨k, hk, rfl⟩, hkl k hk, hx⟩ ((g5 x hxl).1 ((inB_iff _ _).1 e))) 8388640 (Nat.le_refl _) (fun x hx => by
        by_cases e : ∃ k, R.getD k [] ∈ M ∧ k < R.length ∧ pieceB l.length s n k x = true
        · obtain ⟨k, e1, e2, e3⟩ := e
          rw [hM] at e1
          obtain ⟨k2, e4, e5⟩ := List.mem_map.1 e1
          have hkk : k2 = k := by
            have h5 := (h.el k2 (hkl k2 e4)).2.2.1
            have h6 := (h.el k e2).2.2.1
            have e5' : R.getD k2 [] = R.getD k [] := e5
            rw [e5'] at h5
            omega
          rw [hkk] at e4
          exact .inr ⟨k, e4, e3⟩
        · exact .inl ((inB_iff _ _).2 ((g5 x hx).2 e))) ks.length k' 0 (by omega) (by omega)
      rw [← hM] at h3
      refine Eq.trans ?_ h3
      congr 1
      refine chr_congr fun y hy => ?_
      simp
  | succ j ih =>
    intro k i hi hk
    obtain ⟨k, rfl⟩ : ∃ q, k = q + 1 := ⟨k - 1, by omega⟩
    have hnext := ih k (i + 1) (by omega) (by omega)
    have hfl : ((List.range i).filter fun t => have_.getD t false).length ≤ i := by
      have := List.length_filter_le (fun t => have_.getD t false) (List.range i)
      rwa [List.length_range] at this
    rw [List.range_succ, List.filter_append] at hnext
    rw [satchellaw27_VolumesMissing.l0, if_pos (by omega)]
    have hskip : have_.getD i false = false → satchellaw27_VolumesMissing.l0 k have_ R 0 (((List.range i).filter fun t => have_.getD t false).map fun k => R.getD k []) (wrap64 ((i : Int) + 1)) l most set sp = some true := fun e => by
      rw [XxhW.wrap_succ _ (by omega)]
      rw [show List.filter (fun t => have_.getD t false) [i] = [] by rw [List.filter_cons, if_neg (by rw [e]; decide), List.filter_nil], List.append_nil] at hnext
      exact hnext
    have hrdo : rdOf false have_ (i : Int) = have_.getD i false := by unfold rdOf; rfl
    by_cases hib : (i : Int) < (have_.length : Int)
    · rw [if_pos hib, if_pos (by omega), hrdo]
      cases e : have_.getD i false with
      | true =>
        rw [if_pos rfl, if_pos (by rw [List.length_map]; omega), rdL_at, XxhW.wrap_succ _ (by omega)]
        rw [show List.filter (fun t => have_.getD t false) [i] = [i] by rw [List.filter_cons, if_pos e, List.filter_nil], List.map_append] at hnext
        exact hnext
      | false =>
        rw [if_neg (by decide)]
        exact hskip e
    · rw [if_neg hib]
      exact hskip (by rw [List.getD_eq_getElem?_getD, List.getElem?_eq_none (by omega)]; rfl)
end
theorem missing_f (K : Nat) (hK : 200000000000 ≤ K) (l : List Int) (hb : isByte l = true) (hl : l.length ≤ 4194304) (most set : Int) (sp : Bool) (have_ : List Bool) (hset : W64u set) (hm : most ≤ 9223372036854775807) (hm0 : -9223372036854775808 ≤ most) :
    satchellaw27_VolumesMissing.f (K + 1) l most set sp have_ = some true := by
  unfold satchellaw27_VolumesMissing.f
  rw [Option.bind_some, if_pos (by rw [List.length_nil]; omega), List.nil_append, cut_f1 K (by omega) l most set sp hset hm hm0, Option.bind_some]
  have early : ∀ e : Int, e ≠ 0 → satchellaw27_VolumesMissing.l0 (K + 1) have_ [] e [] 0 l most set sp = some true := fun e he => by
    obtain ⟨K, rfl⟩ : ∃ q, K = q + 1 := ⟨K - 1, by omega⟩
    have hmf : volumes_Missing.f [] = some ([], 272) := rfl
    rw [satchellaw27_VolumesMissing.l0, if_neg (by decide), copies_f (K + 1) [] (fun b hb => absurd hb (by simp)) (by decide) (by simp), Option.bind_some, hmf, Option.bind_some, if_neg he, satchellaw27_VolumesMissing.j1]
    rfl
  by_cases c1 : most ≤ 64
  · have e : cutR l most set sp = ([], 1) := by unfold cutR; rw [if_pos c1]
    rw [e]
    exact early 1 (by decide)
  by_cases c3 : countOf l (most - 64).toNat > 1000
  · have e : cutR l most set sp = ([], 2) := by unfold cutR; rw [if_neg c1, if_neg (by omega), if_pos c3]
    rw [e]
    exact early 2 (by decide)
  have e : cutR l most set sp = (cutP l set sp (stepOf l (most - 64).toNat) (countOf l (most - 64).toNat), 0) := by unfold cutR; rw [if_neg c1, if_neg (by omega), if_neg c3]
  rw [e]
  have hok := cut_ok l hb (most - 64).toNat (by omega) (by omega) hl (by omega) set hset sp
  dsimp only
  generalize cutP l set sp (stepOf l (most - 64).toNat) (countOf l (most - 64).toNat) = R at hok ⊢
  have hrn := hok.rn
  have hn1 := hok.n1
  exact miss_l0 hok most have_ 100000000000 (Nat.le_refl _) R.length (K + 1) 0 (by omega) (by omega)
end Go.Proofs.Ytnkcbkfccbfjpaa.Z
/- A list of truths that is read. -/
namespace Go.Proofs.Ytnkcbkfccbfjpaa.Bu
open Go.Proofs.YtnkcbkfccbfjpaaW.PrintWords
set_option linter.unusedVariables false
theorem truths {w : World} {A : Option Addr} : ∀ (n : Nat), (∀ i, i < n → ∃ ad q, A = some ad ∧ w.cell? (ad.add i) = some (.bool q)) → ∃ xs : List Bool, xs.length = n ∧ ∀ i, i < n → ∃ ad, A = some ad ∧ w.cell? (ad.add i) = some (.bool (xs.getD i false))
  | 0, _ => ⟨[], rfl, fun i hi => absurd hi (Nat.not_lt_zero _)⟩
  | n + 1, h => by
    obtain ⟨xs, h1, h2⟩ := truths n (fun i hi => h i (by omega))
    obtain ⟨ad, q, h3, h4⟩ := h n (Nat.lt_succ_self n)
    refine ⟨xs ++ [q], by rw [List.length_append, h1]; rfl, fun i hi => ?_⟩
    by_cases e : i = n
    · subst e
      refine ⟨ad, h3, ?_⟩
      rw [h4, List.getD_eq_getElem?_getD, List.getElem?_append_right (by omega), h1, Nat.sub_self]
      rfl
    · obtain ⟨ad2, h5, h6⟩ := h2 i (by omega)
      refine ⟨ad2, h5, ?_⟩
      rw [h6, List.getD_eq_getElem?_getD, List.getD_eq_getElem?_getD, List.getElem?_append_left (by omega)]
theorem truths_C {w : World} {A : Option Addr} {n : Nat} (hn : n ≤ 9223372036854775807) (h : ∀ i, i < n → ∃ ad q, A = some ad ∧ w.cell? (ad.add i) = some (.bool q)) : ∃ xs : List Bool, xs.length = n ∧ Kd.C Kd.bool w A n xs := by
  obtain ⟨xs, h1, h2⟩ := truths n h
  refine ⟨xs, h1, Kd.C_of_reads (enc := Value.bool) (d := false) (h1 := fun _ => rfl) ⟨h1, hn, fun h0 => ?_⟩⟩
  obtain ⟨ad, e, _⟩ := h2 0 h0
  refine ⟨ad, e, fun i hi => ?_⟩
  obtain ⟨ad2, e2, h3⟩ := h2 i hi
  rw [e] at e2
  injection e2 with e2
  rw [e2]
  exact h3
end Go.Proofs.Ytnkcbkfccbfjpaa.Bu
/- What the bound on bulk gives, and arguments opened by their shape: bytes, lists of bytes, lists of truths. Plain facts for the laws' last texts. -/
namespace Go.Proofs.Ytnkcbkfccbfjpaa.Bu
open Go.ChangeShapes Go.WideShapes Go.Deep
set_option linter.unusedVariables false
theorem one_le {H : Type} (d : DataW H) : 1 ≤ Rows.uptoBulk d := by
  cases d with
  | lit l => cases l <;> simp [Rows.uptoBulk]
  | nil => simp [Rows.uptoBulk]
  | ptr d => simp [Rows.uptoBulk]
  | slice elems spare => simp [Rows.uptoBulk]
  | agg parts => simp [Rows.uptoBulk]
  | iface t d => simp [Rows.uptoBulk]
  | map entries => simp [Rows.uptoBulk]
  | held h => simp [Rows.uptoBulk]
theorem part_le {H : Type} {d : DataW H} {l : List (DataW H)} (h : d ∈ l) : Rows.uptoBulk d ≤ Rows.uptoBulkAll l := by
  induction l with
  | nil => cases h
  | cons x r ih =>
    simp only [Rows.uptoBulkAll]
    cases List.mem_cons.1 h with
    | inl e => subst e; omega
    | inr e => have := ih e; omega
theorem len_le {H : Type} (l : List (DataW H)) : l.length ≤ Rows.uptoBulkAll l := by
  induction l with
  | nil => simp [Rows.uptoBulkAll]
  | cons x r ih => have := one_le x; simp only [Rows.uptoBulkAll, List.length_cons]; omega
theorem small {H : Type} {l : List (DataW H)} (h : Rows.uptoSmall H l = true) : Rows.uptoBulkAll l ≤ 1048576 := of_decide_eq_true h
section
variable {H : Type} {enc : TypeId × Value → H} {P : Program} {w : World} {base : Nat} {held : Bool}
/-- A list of truths, as it lies. -/
theorem open_truths {t e : TypeId} {A : Option Addr} {len cap : Nat} {d : DataW H} {ps : List MemPlace} (ht : P.underlying t = some (.slice e)) (he : P.underlying e = some .bool) (hc : P.cellsOf e = 1)
    (h : DataW.Trod enc P w base (fun _ => true) held t (.slice A len cap) d ps) :
    len ≤ cap ∧ cap ≤ maxLen ∧ len ≤ Rows.uptoBulk d ∧ ∀ i, i < len → ∃ ad q, A = some ad ∧ w.cell? (ad.add i) = some (.bool q) := by
  obtain ⟨fuel, hf⟩ := h
  rcases open_slice1 ht hc hf with ⟨hcs, hx⟩ | ⟨a, l, c, m, n, V, D, Pl, hcs, _, hl, hm, hmm, hx, hr⟩
  · simp [Value.cells] at hcs
    obtain ⟨rfl, rfl, rfl⟩ := hcs
    exact ⟨Nat.le_refl _, Nat.zero_le _, Nat.zero_le _, fun i hi => absurd hi (Nat.not_lt_zero _)⟩
  · simp [Value.cells] at hcs
    obtain ⟨rfl, rfl, rfl⟩ := hcs
    simp only [Prod.mk.injEq] at hx
    obtain ⟨rfl, _⟩ := hx
    simp only [if_true] at hmm
    subst hmm
    refine ⟨hl, hm, ?_, fun i hi => ?_⟩
    · have h := len_le (H := H) ((List.range len).map D)
      rw [List.length_map, List.length_range] at h
      simp only [Rows.uptoBulk]
      omega
    · obtain ⟨h1, h2⟩ := hr i (Nat.lt_of_lt_of_le hi hl)
      obtain ⟨b, e1, _⟩ := DataW.trod_bool he h2
      simp at e1
      exact ⟨a, b, rfl, by rw [h1, e1]⟩
/-- A list of numbers of one cell, as it lies. -/
theorem open_nums {t e : TypeId} {k : IntKind} {A : Option Addr} {len cap : Nat} {d : DataW H} {ps : List MemPlace} (ht : P.underlying t = some (.slice e)) (he : P.underlying e = some (.int k)) (hc : P.cellsOf e = 1)
    (h : DataW.Trod enc P w base (fun _ => true) held t (.slice A len cap) d ps) :
    ∃ zs : List Int, zs.length = len ∧ len ≤ cap ∧ cap ≤ maxLen ∧ len ≤ Rows.uptoBulk d ∧ (A = none → cap = 0) ∧ (∀ n ∈ zs, (Lit.int k n).wf = true) ∧ ∀ a, A = some a → ∀ i, i < len → w.cell? (a.add i) = some (.int k (zs.getD i 0)) := by
  obtain ⟨fuel, hf⟩ := h
  rcases open_ints ht he hc hf with ⟨hcs, hx⟩ | ⟨x, l, c, zs, hcs, _, hl, hm, hz, hx, hcell, hwz⟩
  · simp [Value.cells] at hcs
    obtain ⟨rfl, rfl, rfl⟩ := hcs
    exact ⟨[], rfl, Nat.le_refl _, Nat.zero_le _, Nat.zero_le _, fun _ => rfl, by simp, fun _ _ i hi => absurd hi (Nat.not_lt_zero _)⟩
  · simp [Value.cells] at hcs
    obtain ⟨rfl, rfl, rfl⟩ := hcs
    simp only [Prod.mk.injEq] at hx
    obtain ⟨rfl, _⟩ := hx
    have hz' : zs.length = cap := by simpa using hz
    refine ⟨zs.take len, by rw [List.length_take]; omega, hl, hm, ?_, (fun h => by cases h), fun n hn => hwz n (List.mem_of_mem_take hn), fun a ha i hi => ?_⟩
    · have h := len_le (H := H) (lits k (zs.take len))
      have e : (lits (H := H) k (zs.take len)).length = len := by simp [lits]; omega
      simp only [Rows.uptoBulk]
      omega
    · cases ha
      rw [hcell i (by omega), List.getD_eq_getElem?_getD, List.getD_eq_getElem?_getD, List.getElem?_take, if_pos hi]
end
end Go.Proofs.Ytnkcbkfccbfjpaa.Bu
/- A slice argument's shape; ranges of whole numbers. -/
namespace Go.Proofs.Ytnkcbkfccbfjpaa.Bu
open Go.ChangeShapes Go.WideShapes Go.Deep
set_option linter.unusedVariables false
set_option linter.unusedSimpArgs false
theorem slice_shape {H : Type} {enc : TypeId × Value → H} {P : Program} {w : World} {base : Nat} {held : Bool} {t e : TypeId} {n : Nat} {v : Value} {y : DataW H × List MemPlace} (ht : P.underlying t = some (.slice e)) (h : DataW.trod enc P w base (fun _ => true) held n t [v] = some y) : ∃ A l c, v = .slice A l c := by
  rcases open_slice ht h with ⟨hcs, hx⟩ | ⟨a, l, c, m, n, D, Pl, hcs, _⟩
  · simp only [List.cons.injEq, and_true] at hcs
    exact ⟨_, _, _, hcs⟩
  · simp only [List.cons.injEq, and_true] at hcs
    exact ⟨_, _, _, hcs⟩
theorem wf_u8 {x : Int} (h : (Lit.int .u8 x).wf = true) : 0 ≤ x ∧ x < 256 := by
  simp only [Lit.wf, show IntKind.u8.min = 0 from rfl, show IntKind.u8.max = 255 from rfl, Bool.and_eq_true, decide_eq_true_eq] at h
  omega
theorem wf_i64 {x : Int} (h : (Lit.int .i64 x).wf = true) : -9223372036854775808 ≤ x ∧ x ≤ 9223372036854775807 := by
  simp only [Lit.wf, show IntKind.i64.min = -9223372036854775808 from rfl, show IntKind.i64.max = 9223372036854775807 from rfl, Bool.and_eq_true, decide_eq_true_eq] at h
  omega
theorem wf_u64 {x : Int} (h : (Lit.int .u64 x).wf = true) : 0 ≤ x ∧ x < 18446744073709551616 := by
  simp only [Lit.wf, show IntKind.u64.min = 0 from rfl, show IntKind.u64.max = 18446744073709551615 from rfl, Bool.and_eq_true, decide_eq_true_eq] at h
  omega
end Go.Proofs.Ytnkcbkfccbfjpaa.Bu
