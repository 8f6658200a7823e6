/- Contracts and plain facts (texts of mine, and printed ones, made one; what nothing leads to is left out). -/
import Derived.Test.YtnkcbkfccbfjpaaRows
import Derived.Deep.Matrix
import Derived.Deep.Strs
import Derived.Test.YtnkcbkfccbfjpaaQjf
/- Volumes, plain: what Join makes of the volumes of a cut. -/
namespace Go.Proofs.Ytnkcbkfccbfjpaa.Z
open Go.RowKit Go.Proofs.Ytnkcbkfccbfjpaa.XxhW Go.Proofs.Ytnkcbkfccbfjpaa.QVolumesCuts Go.Proofs.YtnkcbkfccbfjpaaW.PrintWords Go.Proofs.YtnkcbkfccbfjpaaW.PrintLast Go.Proofs.YtnkcbkfccbfjpaaW.PrintMore
set_option linter.unusedVariables false
set_option linter.unusedSimpArgs false
theorem agree_iff' {v0 v : Vol} : agree v0 v = true ↔ v.set = v0.set ∧ v.cnt = v0.cnt ∧ v.whole = v0.whole ∧ stepV v = stepV v0 := by
  unfold agree
  simp only [Bool.and_eq_true, beq_iff_eq]
  exact ⟨fun h => ⟨h.1.1.1, h.1.1.2, h.1.2, h.2⟩, fun h => ⟨⟨⟨h.1, h.2.1⟩, h.2.2.1⟩, h.2.2.2⟩⟩
def partK (l : List Int) (s n k : Nat) : List Int := if k < n then piece l s k else overL l s n
/-- What is held of the volumes of a cut. -/
structure CutOk (l : List Int) (set : Int) (sp : Bool) (s n : Nat) (R : List (List Int)) : Prop where
  byt : isByte l = true
  len : l.length ≤ 4194304
  s1 : 1 ≤ s
  n1 : 1 ≤ n ∧ n ≤ 1000
  all : l.length ≤ n * s
  few : 2 ≤ n → (n - 1) * s < l.length
  cnt : R.length = if sp = true then n + 1 else n
  el : ∀ k, k < R.length → Good (R.getD k []) ∧ (volOf (R.getD k [])).set = set ∧ (volOf (R.getD k [])).num = (k : Int) ∧ (volOf (R.getD k [])).cnt = (n : Int) ∧ (volOf (R.getD k [])).whole = (l.length : Int) ∧ (volOf (R.getD k [])).b = partK l s n k ∧ stepV (volOf (R.getD k [])) = (if n = 1 then 0 else (s : Int))
theorem vol_of (set : Int) (num cnt whole at_ size : Nat) (sp : Bool) (b : List Int) (h0 : W64u set) (h1 : num ≤ 1000) (h2 : cnt ≤ 1000) (h4 : whole ≤ 4194304) (h5 : at_ ≤ 4194304) (h6 : size ≤ 4194304) :
    volOf (volP set (num : Int) (cnt : Int) (if sp = true then 1 else 0) (whole : Int) (at_ : Int) (size : Int) b) = ⟨set, num, cnt, sp, whole, at_, size, b⟩ := by
  obtain ⟨fl, hfl⟩ : ∃ fl : Int, fl = (if sp = true then 1 else 0) := ⟨_, rfl⟩
  have hf : 0 ≤ fl ∧ fl ≤ 1 := by rw [hfl]; split <;> decide
  have hsp : (fl == 1) = sp := by rw [hfl]; cases sp <;> decide
  rw [← hfl]
  obtain ⟨a0, a1, a2, a3, a4, a5, a6, a7, a8, a9, a10, a11⟩ := vol_fields set (num : Int) (cnt : Int) fl (whole : Int) (at_ : Int) (size : Int) b h0 (by omega) (by omega) (by omega) (nat64 _ (by omega)) (nat64 _ (by omega)) (nat64 _ (by omega))
  unfold volOf
  rw [a1, a2, a3, a4, a5, a6, a7, a11, hsp, XxhW.wrap_small _ (by omega), XxhW.wrap_small _ (by omega), XxhW.wrap_small _ (by omega)]
theorem cut_ok (l : List Int) (hb : isByte l = true) (S : Nat) (hS : 1 ≤ S) (hS2 : S ≤ 9223372036854775743) (hl : l.length ≤ 4194304) (hn : countOf l S ≤ 1000) (set : Int) (hset : W64u set) (sp : Bool) : CutOk l set sp (stepOf l S) (countOf l S) (cutP l set sp (stepOf l S) (countOf l S)) := by
  have hgood := cut_good l hb S hS hS2 hl hn set hset sp
  obtain ⟨_, _, _, f4, f5, f6, f7⟩ := count_facts l S hS hS2 hl
  obtain ⟨c1, c2, c3⟩ := cnt_facts l.length (stepOf l S) (countOf l S) f5 rfl
  generalize stepOf l S = s at *
  generalize countOf l S = n at *
  have hcnt : (cutP l set sp s n).length = if sp = true then n + 1 else n := by
    unfold cutP
    rw [List.length_append, outL_len]
    cases sp <;> rfl
  refine ⟨hb, hl, f5, ⟨f7, hn⟩, c1, c2, hcnt, fun k hk => ?_⟩
  have hmem : (cutP l set sp s n).getD k [] ∈ cutP l set sp s n := by rw [List.getD_eq_getElem?_getD, List.getElem?_eq_getElem hk, Option.getD_some]; exact List.getElem_mem _
  have hg := hgood _ hmem
  refine ⟨hg, ?_⟩
  have hv : volOf ((cutP l set sp s n).getD k []) = ⟨set, (k : Int), (n : Int), decide (k = n), (l.length : Int), ((if k < n then k * s else 0 : Nat) : Int), ((partK l s n k).length : Int), partK l s n k⟩ := by
    by_cases hkn : k < n
    · have hp := piece_len l s k
      have h4 := f4 k hkn
      have hx : (cutP l set sp s n).getD k [] = volP set (k : Int) (n : Int) 0 (l.length : Int) ((k * s : Nat) : Int) ((piece l s k).length : Int) (piece l s k) := by
        unfold cutP
        rw [List.getD_eq_getElem?_getD, List.getElem?_append_left (by rw [outL_len]; exact hkn)]
        unfold outL
        rw [List.getElem?_map, List.getElem?_range hkn]
        rfl
      have := vol_of set k n l.length (k * s) (piece l s k).length false (piece l s k) hset (by omega) hn hl (by omega) (by omega)
      rw [if_neg (by decide)] at this
      rw [hx, this]
      unfold partK
      rw [if_pos hkn, if_pos hkn, decide_eq_false (by omega)]
    · have hsp : sp = true := by
        cases sp with
        | true => rfl
        | false => rw [hcnt, if_neg (by decide)] at hk; exact absurd hk hkn
      subst hsp
      have hkn2 : k = n := by rw [hcnt, if_pos rfl] at hk; omega
      subst hkn2
      have ho := overL_len l s k
      have hx : (cutP l set true s k).getD k [] = volP set (k : Int) (k : Int) 1 (l.length : Int) 0 ((overL l s k).length : Int) (overL l s k) := by
        unfold cutP
        rw [List.getD_eq_getElem?_getD, List.getElem?_append_right (by rw [outL_len]; exact Nat.le_refl _), outL_len, Nat.sub_self]
        rfl
      have := vol_of set k k l.length 0 (overL l s k).length true (overL l s k) hset hn hn hl (by omega) (by omega)
      rw [if_pos rfl] at this
      rw [hx]
      unfold partK
      rw [if_neg (Nat.lt_irrefl k), if_neg (Nat.lt_irrefl k), decide_eq_true rfl]
      exact this
  have hok := getE_ok hg.getE
  rw [hv] at hok ⊢
  refine ⟨rfl, rfl, rfl, rfl, rfl, ?_⟩
  generalize stepV _ = t at hok ⊢
  by_cases e : n = 1
  · rw [if_pos e]
    exact (hok.one (by dsimp only; omega)).1
  · rw [if_neg e]
    obtain ⟨m1, m2, m3, m4, m5, m6, m7⟩ := hok.more (by dsimp only; omega)
    dsimp only at m1 m2 m3 m4 m5 m6 m7
    have hfew := c2 (by omega)
    have hsl : s < l.length := by have : 1 * s ≤ (n - 1) * s := Nat.mul_le_mul_right _ (by omega); omega
    by_cases hkn : k < n
    · have hp := piece_len l s k
      rw [if_pos hkn] at m5 m6 m7
      unfold partK at m5 m6 m7
      rw [if_pos hkn] at m5 m6 m7
      by_cases hk1 : k = n - 1
      · have h8 := (m6 (by omega)).2
        have hk0 : 0 < (k : Int) := by omega
        rw [Int.natCast_mul, Int.mul_comm] at h8
        exact (Int.eq_of_mul_eq_mul_right (by omega) h8).symm
      · have h8 := (m7 (by omega)).1
        have : k * s + s ≤ (n - 1) * s := by
          have := Nat.mul_le_mul_right s (show k + 1 ≤ n - 1 by omega)
          rwa [Nat.add_mul, Nat.one_mul] at this
        omega
    · have hkn2 : k = n := by
        cases sp with
        | true => rw [hcnt, if_pos rfl] at hk; omega
        | false => rw [hcnt, if_neg (by decide)] at hk; omega
      have h8 := (m5 (by omega)).1
      unfold partK at h8
      rw [if_neg hkn, overL_len] at h8
      omega
theorem fillAll_parts {v0 : Vol} {part : Nat → List Int} : ∀ (l : List Vol) (P : List (Option (List Int))), (∀ v ∈ l, agree v0 v = true ∧ 0 ≤ v.num ∧ v.num.toNat < P.length ∧ v.b = part v.num.toNat) → (∀ k, slot P k = none ∨ slot P k = some (part k)) →
    ∃ P', fillAll v0 l P = some P' ∧ P'.length = P.length ∧ ∀ k, (slot P' k = some (part k) ∧ ((∃ v ∈ l, v.num = (k : Int)) ∨ slot P k ≠ none)) ∨ (slot P' k = none ∧ slot P k = none ∧ ∀ v ∈ l, v.num ≠ (k : Int))
  | [], P, _, h => ⟨P, rfl, rfl, fun k => by
    rcases h k with e | e
    · exact .inr ⟨e, e, fun v hv => absurd hv (by simp)⟩
    · exact .inl ⟨e, .inr (by rw [e]; simp)⟩⟩
  | v :: l, P, hv, h => by
    obtain ⟨a1, a2, a3, a4⟩ := hv v (by simp)
    have hc : agree v0 v = true ∧ (slot P v.num.toNat = none ∨ slot P v.num.toNat = some v.b) := ⟨a1, by rw [a4]; exact h _⟩
    have hset : ∀ k, slot (P.set v.num.toNat (some v.b)) k = if k = v.num.toNat then some (part k) else slot P k := fun k => by
      rw [slot_set _ _ _ _ a3]
      by_cases e : k = v.num.toNat
      · rw [if_pos e, if_pos e, a4, e]
      · rw [if_neg e, if_neg e]
    obtain ⟨P', g1, g2, g3⟩ := fillAll_parts l (P.set v.num.toNat (some v.b)) (fun u hu => by rw [List.length_set]; exact hv u (by simp [hu])) (fun k => by
      rw [hset]
      by_cases e : k = v.num.toNat
      · rw [if_pos e]; exact .inr rfl
      · rw [if_neg e]; exact h k)
    refine ⟨P', by rw [fillAll, if_pos hc]; exact g1, by rw [g2, List.length_set], fun k => ?_⟩
    rcases g3 k with ⟨h1, h2⟩ | ⟨h1, h2, h3⟩
    · refine .inl ⟨h1, ?_⟩
      rcases h2 with ⟨u, hu, e⟩ | h2
      · exact .inl ⟨u, by simp [hu], e⟩
      · rw [hset] at h2
        by_cases e : k = v.num.toNat
        · exact .inl ⟨v, by simp, by omega⟩
        · rw [if_neg e] at h2; exact .inr h2
    · rw [hset] at h2
      by_cases e : k = v.num.toNat
      · rw [if_pos e] at h2; exact absurd h2 (by simp)
      · rw [if_neg e] at h2
        refine .inr ⟨h1, h2, fun u hu => ?_⟩
        rcases List.mem_cons.1 hu with rfl | hu
        · omega
        · exact h3 u hu
theorem slot_rep (n k : Nat) : slot (List.replicate n none) k = none := by
  unfold slot
  rw [List.getD_eq_getElem?_getD, List.getElem?_replicate]
  split <;> rfl
theorem gather_set {l : List Int} {set : Int} {sp : Bool} {s n : Nat} {R : List (List Int)} (h : CutOk l set sp s n R) (M : List (List Int)) (hM : ∀ b ∈ M, ∃ k, k < R.length ∧ b = R.getD k []) (hne : M ≠ []) :
    ∃ v0 P, gatherR getE volOf M = (0, v0, P) ∧ v0.cnt = (n : Int) ∧ v0.whole = (l.length : Int) ∧ stepV v0 = (if n = 1 then 0 else (s : Int)) ∧ P.length = n + 1 ∧
      ∀ k, (slot P k = some (partK l s n k) ∧ k < R.length ∧ R.getD k [] ∈ M) ∨ (slot P k = none ∧ ¬ (k < R.length ∧ R.getD k [] ∈ M)) := by
  have hE : firstE getE M = 0 := firstE_zero getE M (fun b hb => by
    obtain ⟨k, hk, rfl⟩ := hM b hb
    exact (h.el k hk).1.getE)
  cases M with
  | nil => exact absurd rfl hne
  | cons b0 M =>
    obtain ⟨k0, hk0, e0⟩ := hM b0 (by simp)
    obtain ⟨_, z1, z2, z3, z4, z5, z6⟩ := h.el k0 hk0
    rw [← e0] at z1 z2 z3 z4 z5 z6
    have hRn : R.length ≤ n + 1 := by rw [h.cnt]; split <;> omega
    obtain ⟨P, g1, g2, g3⟩ := fillAll_parts (v0 := volOf b0) (part := partK l s n) ((b0 :: M).map volOf) (List.replicate ((volOf b0).cnt.toNat + 1) none) (fun v hv => by
      obtain ⟨b, hb, rfl⟩ := List.mem_map.1 hv
      obtain ⟨k, hk, rfl⟩ := hM b hb
      obtain ⟨_, y1, y2, y3, y4, y5, y6⟩ := h.el k hk
      refine ⟨agree_iff'.2 ⟨by rw [y1, z1], by rw [y3, z3], by rw [y4, z4], by rw [y6, z6]⟩, by omega, by rw [List.length_replicate]; omega, ?_⟩
      rw [y5, y2]; rfl) (fun k => .inl (slot_rep _ _))
    refine ⟨volOf b0, P, ?_, z3, z4, z6, by rw [g2, List.length_replicate]; omega, fun k => ?_⟩
    · unfold gatherR
      rw [if_pos hE, List.map_cons]
      rw [List.map_cons] at g1
      dsimp only
      rw [g1]
    · rcases g3 k with ⟨q1, q2⟩ | ⟨q1, _, q2⟩
      · refine .inl ⟨q1, ?_⟩
        rcases q2 with ⟨v, hv, e⟩ | q2
        · obtain ⟨b, hb, rfl⟩ := List.mem_map.1 hv
          obtain ⟨k', hk', rfl⟩ := hM b hb
          have := (h.el k' hk').2.2.1
          have : k' = k := by omega
          subst this
          exact ⟨hk', hb⟩
        · exact absurd (slot_rep _ _) q2
      · refine .inr ⟨q1, fun ⟨hk, hb⟩ => ?_⟩
        exact q2 _ (List.mem_map.2 ⟨_, hb, rfl⟩) (h.el k hk).2.2.1
end Go.Proofs.Ytnkcbkfccbfjpaa.Z
/- Volumes, plain: joined they are the bytes; with the spare one, without any one too; without two never. -/
namespace Go.Proofs.Ytnkcbkfccbfjpaa.Z
open Go.RowKit Go.Proofs.Ytnkcbkfccbfjpaa.XxhW Go.Proofs.Ytnkcbkfccbfjpaa.QVolumesCuts Go.Proofs.YtnkcbkfccbfjpaaW.PrintWords Go.Proofs.YtnkcbkfccbfjpaaW.PrintLast Go.Proofs.YtnkcbkfccbfjpaaW.PrintMore
set_option linter.unusedVariables false
set_option linter.unusedSimpArgs false
def nb (l : List Int) (j : Nat) : Nat := (l.getD j 0).toNat
theorem xor8_nat (a b : Int) (ha : 0 ≤ a ∧ a < 256) (hb : 0 ≤ b ∧ b < 256) : Go.bits .xor .u8 a b = ((a.toNat ^^^ b.toNat : Nat) : Int) := by
  obtain ⟨x, rfl⟩ : ∃ x : Nat, a = (x : Int) := ⟨a.toNat, by omega⟩
  obtain ⟨y, rfl⟩ : ∃ y : Nat, b = (y : Int) := ⟨b.toNat, by omega⟩
  exact Go.u8_xor_nat x y (by omega) (by omega)
theorem nb_xorG (b : List Int) (hb : isByte b = true) : ∀ (m i : Nat) (o : List Int), isByte o = true → i + m ≤ o.length → ∀ j, nb (xorG m i o b) j = if i ≤ j ∧ j < i + m then nb o j ^^^ nb b j else nb o j
  | 0, i, o, _, _, j => by rw [xorG, if_neg (by omega)]
  | m + 1, i, o, ho, hl, j => by
    have hx := xor8_in (o.getD i 0) (b.getD i 0)
    rw [xorG, nb_xorG b hb m (i + 1) _ (isByte_set ho i _ hx) (by rw [List.length_set]; omega)]
    have h1 : nb (o.set i (Go.bits .xor .u8 (o.getD i 0) (b.getD i 0))) j = if j = i then nb o i ^^^ nb b i else nb o j := by
      unfold nb
      rw [List.getD_eq_getElem?_getD, List.getElem?_set]
      by_cases e : i = j
      · subst e
        rw [if_pos rfl, if_pos (by omega), if_pos rfl, Option.getD_some, xor8_nat _ _ (isByte_get ho i) (isByte_get hb i)]
        rfl
      · rw [if_neg e, if_neg (fun x => e x.symm), List.getD_eq_getElem?_getD]
    rw [h1]
    by_cases e : j = i
    · subst e
      rw [if_neg (by omega), if_pos rfl, if_pos (by omega)]
    · rw [if_neg e]
      by_cases q : i + 1 ≤ j ∧ j < i + 1 + m
      · rw [if_pos q, if_pos (by omega)]
      · rw [if_neg q, if_neg (by omega)]
theorem nb_out (l : List Int) (j : Nat) (h : l.length ≤ j) : nb l j = 0 := by
  unfold nb
  rw [List.getD_eq_getElem?_getD, List.getElem?_eq_none h]
  rfl
theorem nb_xorR (o b : List Int) (ho : isByte o = true) (hb : isByte b = true) (hl : b.length ≤ o.length) (j : Nat) : nb (xorR o b) j = nb o j ^^^ nb b j := by
  unfold xorR
  rw [nb_xorG b hb b.length 0 o ho (by omega)]
  by_cases e : j < b.length
  · rw [if_pos (by omega)]
  · rw [if_neg (by omega), nb_out b j (by omega), Nat.xor_zero]
theorem ext_nb {a b : List Int} (ha : isByte a = true) (hb : isByte b = true) (hl : a.length = b.length) (h : ∀ j, j < a.length → nb a j = nb b j) : a = b := by
  apply List.ext_getElem hl
  intro j h1 h2
  have e := h j h1
  have q1 := isByte_get ha j
  have q2 := isByte_get hb j
  unfold nb at e
  rw [List.getD_eq_getElem?_getD, List.getElem?_eq_getElem h1, Option.getD_some] at e q1
  rw [List.getD_eq_getElem?_getD, List.getElem?_eq_getElem h2, Option.getD_some] at e q2
  omega
theorem isByte_xorR (o b : List Int) (ho : isByte o = true) : isByte (xorR o b) = true := isByte_xorG _ _ _ _ ho
theorem piece_byte {l : List Int} (hb : isByte l = true) (s k : Nat) : isByte (piece l s k) = true := by
  rw [isByte_iff] at hb ⊢
  intro q hq
  exact hb q (List.mem_of_mem_take (List.mem_of_mem_drop hq))
theorem over_byte (l : List Int) (s i : Nat) : isByte (overL l s i) = true := isByte_fold _ _ (by
  rw [isByte_iff]
  intro q hq
  rw [List.mem_replicate] at hq
  rw [hq.2]
  decide)
/-- The exclusive or of all that stands at a place. -/
def xs (l : List Int) (s j : Nat) : Nat → Nat
  | 0 => 0
  | i + 1 => xs l s j i ^^^ nb (piece l s i) j
def ys (l : List Int) (s j g : Nat) : Nat → Nat
  | 0 => 0
  | i + 1 => if i = g then ys l s j g i else ys l s j g i ^^^ nb (piece l s i) j
theorem piece_le (l : List Int) (s i : Nat) : (piece l s i).length ≤ min s l.length := by rw [piece_len]; omega
theorem nb_over (l : List Int) (hb : isByte l = true) (s j : Nat) : ∀ i, nb (overL l s i) j = xs l s j i
  | 0 => by
    unfold nb overL partsL
    rw [List.range_zero, List.map_nil, List.foldl_nil, List.getD_eq_getElem?_getD, List.getElem?_replicate]
    split <;> rfl
  | i + 1 => by rw [overL_succ, nb_xorR _ _ (over_byte l s i) (piece_byte hb s i) (by rw [overL_len]; exact piece_le l s i), nb_over l hb s j i]; rfl
theorem xs_ys (l : List Int) (s j g : Nat) : ∀ n, xs l s j n = ys l s j g n ^^^ (if g < n then nb (piece l s g) j else 0)
  | 0 => by rw [if_neg (Nat.not_lt_zero _), Nat.xor_zero, xs, ys]
  | i + 1 => by
    rw [xs, ys, xs_ys l s j g i]
    by_cases e : i = g
    · subst e
      rw [if_pos rfl, if_neg (Nat.lt_irrefl _), if_pos (Nat.lt_succ_self _), Nat.xor_zero]
    · rw [if_neg e]
      by_cases q : g < i
      · rw [if_pos q, if_pos (by omega), Nat.xor_assoc, Nat.xor_assoc, Nat.xor_comm (nb (piece l s g) j)]
      · rw [if_neg q, if_neg (by omega), Nat.xor_zero, Nat.xor_zero]
theorem nb_all {l : List Int} (hb : isByte l = true) {s j g : Nat} {P : List (Option (List Int))} {b : List Int} (hbb : isByte b = true) (hbl : b.length = min s l.length) : ∀ i, (∀ k, k < i → slot P k = if k = g then none else some (piece l s k)) →
    nb (xorAll P b i) j = nb b j ^^^ ys l s j g i ∧ isByte (xorAll P b i) = true
  | 0, _ => ⟨by rw [xorAll, ys, Nat.xor_zero], hbb⟩
  | i + 1, h => by
    obtain ⟨h1, h2⟩ := nb_all hb (j := j) (g := g) (P := P) hbb hbl i (fun k hk => h k (by omega))
    rw [xorAll, h i (by omega), ys]
    by_cases e : i = g
    · rw [if_pos e, if_pos e]
      exact ⟨h1, h2⟩
    · rw [if_neg e, if_neg e]
      refine ⟨?_, isByte_xorR _ _ h2⟩
      dsimp only
      rw [nb_xorR _ _ h2 (piece_byte hb s i) (by rw [xorAll_len, hbl]; exact piece_le l s i), h1, Nat.xor_assoc]
/-- What is missing is the exclusive or of the others. -/
theorem mend_piece {l : List Int} (hb : isByte l = true) {s n g : Nat} (hg : g < n) {P : List (Option (List Int))} (h : ∀ k, k < n → slot P k = if k = g then none else some (piece l s k)) (d : Nat) (hd : d = (piece l s g).length) :
    (xorAll P (overL l s n) n).take d = piece l s g := by
  have hol := overL_len l s n
  have hle := piece_le l s g
  have key : ∀ j, nb (xorAll P (overL l s n) n) j = nb (piece l s g) j := fun j => by
    rw [(nb_all hb (j := j) (g := g) (over_byte l s n) hol n h).1, nb_over l hb s j n, xs_ys l s j g n, if_pos hg, Nat.xor_comm (ys l s j g n), Nat.xor_assoc, Nat.xor_self, Nat.xor_zero]
  have hby := (nb_all hb (j := 0) (g := g) (over_byte l s n) hol n h).2
  have hxl := xorAll_len P (overL l s n) n
  have htl : ((xorAll P (overL l s n) n).take d).length = d := by rw [List.length_take, hxl, hol]; omega
  refine ext_nb (by
    rw [isByte_iff] at hby ⊢
    exact fun q hq => hby q (List.mem_of_mem_take hq)) (piece_byte hb s g) (by rw [htl, hd]) (fun j hj => ?_)
  rw [← key j]
  unfold nb
  rw [List.getD_eq_getElem?_getD, List.getElem?_take, if_pos (by omega), List.getD_eq_getElem?_getD]
theorem cat_pieces (l : List Int) (s : Nat) (P : List (Option (List Int))) : ∀ i, (∀ k, k < i → slot P k = some (piece l s k)) → (∀ k, k < i → k * s ≤ l.length) → cat P i = l.take (min (i * s) l.length)
  | 0, _, _ => by simp [cat]
  | i + 1, h, hk => by
    rw [cat, h i (by omega), cat_pieces l s P i (fun k q => h k (by omega)) (fun k q => hk k (by omega)), Option.getD_some]
    have h1 := hk i (by omega)
    unfold piece
    rw [Nat.min_eq_left h1, show (i + 1) * s = i * s + s by rw [Nat.add_mul, Nat.one_mul]]
    obtain ⟨e, he⟩ : ∃ e, e = min (i * s + s) l.length := ⟨_, rfl⟩
    rw [← he]
    have h2 : i * s ≤ e := by omega
    have : l.take (i * s) = (l.take e).take (i * s) := by rw [List.take_take, Nat.min_eq_left h2]
    rw [this, List.take_append_drop]
theorem goneP_none (P : List (Option (List Int))) : ∀ i, (∀ k, k < i → slot P k ≠ none) → goneP P i = []
  | 0, _ => rfl
  | i + 1, h => by rw [goneP, goneP_none P i (fun k hk => h k (by omega)), if_neg (h i (by omega))]; rfl
theorem goneP_single (P : List (Option (List Int))) (g : Nat) : ∀ i, (∀ k, k < i → (slot P k = none ↔ k = g)) → goneP P i = if g < i then [(g : Int)] else []
  | 0, _ => rfl
  | i + 1, h => by
    rw [goneP, goneP_single P g i (fun k hk => h k (by omega))]
    have hi := h i (by omega)
    by_cases e : i = g
    · subst e
      rw [if_neg (Nat.lt_irrefl _), if_pos (hi.2 rfl), if_pos (Nat.lt_succ_self _)]; rfl
    · rw [if_neg (fun x => e (hi.1 x)), List.append_nil]
      by_cases q : g < i
      · rw [if_pos q, if_pos (by omega)]
      · rw [if_neg q, if_neg (by omega)]
section
variable {l : List Int} {set : Int} {sp : Bool} {s n : Nat} {R : List (List Int)}
theorem CutOk.pos (h : CutOk l set sp s n R) : ∀ k, k < n → k * s ≤ l.length := fun k hk => by
  by_cases e : n = 1
  · have : k = 0 := by omega
    subst this
    omega
  · have := h.few (by have := h.n1; omega)
    have : k * s ≤ (n - 1) * s := Nat.mul_le_mul_right _ (by omega)
    omega
theorem join_all (h : CutOk l set sp s n R) (M : List (List Int)) (hM : ∀ b ∈ M, ∃ k, k < R.length ∧ b = R.getD k []) (hne : M ≠ []) (hall : ∀ k, k < n → R.getD k [] ∈ M) : joinR M = (l, 0) := by
  have hk := CutOk.pos h
  have hRn : n ≤ R.length := by rw [h.cnt]; split <;> omega
  obtain ⟨v0, P, g1, g2, g3, g4, g5, g6⟩ := gather_set h M hM hne
  have hs : ∀ k, k < n → slot P k = some (piece l s k) := fun k hkn => by
    rcases g6 k with ⟨q, _⟩ | ⟨_, q⟩
    · rw [q]; unfold partK; rw [if_pos hkn]
    · exact absurd ⟨by omega, hall k hkn⟩ q
  have hcn : v0.cnt.toNat = n := by omega
  unfold joinR
  rw [g1]
  dsimp only
  rw [if_pos rfl]
  unfold joinW
  rw [hcn, goneP_none P n (fun k hkn => by rw [hs k hkn]; simp), cat_pieces l s P n hs hk, Nat.min_eq_right h.all, List.take_length]
theorem join_one (h : CutOk l set sp s n R) (M : List (List Int)) (hM : ∀ b ∈ M, ∃ k, k < R.length ∧ b = R.getD k []) (hne : M ≠ []) (g : Nat) (hg : g < n) (hsp : sp = true) (hall : ∀ k, k ≤ n → k ≠ g → R.getD k [] ∈ M) (hno : R.getD g [] ∉ M) : joinR M = (l, 0) := by
  have hk := CutOk.pos h
  subst hsp
  have hRn : R.length = n + 1 := by rw [h.cnt, if_pos rfl]
  obtain ⟨v0, P, g1, g2, g3, g4, g5, g6⟩ := gather_set h M hM hne
  have hs : ∀ k, k < n → slot P k = if k = g then none else some (piece l s k) := fun k hkn => by
    by_cases e : k = g
    · subst e
      rw [if_pos rfl]
      rcases g6 k with ⟨_, _, q⟩ | ⟨q, _⟩
      · exact absurd q hno
      · exact q
    · rw [if_neg e]
      rcases g6 k with ⟨q, _⟩ | ⟨_, q⟩
      · rw [q]; unfold partK; rw [if_pos hkn]
      · exact absurd ⟨by omega, hall k (by omega) e⟩ q
  have hsn : slot P n = some (overL l s n) := by
    rcases g6 n with ⟨q, _⟩ | ⟨_, q⟩
    · rw [q]; unfold partK; rw [if_neg (Nat.lt_irrefl n)]
    · exact absurd ⟨by omega, hall n (by omega) (by omega)⟩ q
  have hcn : v0.cnt.toNat = n := by omega
  have hd : ((placeP v0 g).2 - (placeP v0 g).1).toNat = (piece l s g).length := by
    rw [piece_len]
    unfold placeP
    rw [g2, g3, g4]
    by_cases e : n = 1
    · have e2 : g = 0 := by omega
      subst e2
      have hal := h.all
      rw [e, Nat.one_mul] at hal
      rw [if_pos (by omega)]
      dsimp only
      omega
    · rw [if_neg (by omega), if_neg e]
      have hgs := hk g hg
      have e3 : (g : Int) * (s : Int) = ((g * s : Nat) : Int) := by rw [Int.natCast_mul]
      rw [e3]
      dsimp only
      generalize g * s = x at hgs ⊢
      split <;> omega
  unfold joinR
  rw [g1]
  dsimp only
  rw [if_pos rfl]
  unfold joinW mended
  rw [hcn, goneP_single P g n (fun k hkn => by
    rw [hs k hkn]
    by_cases e : k = g
    · rw [if_pos e]; exact ⟨fun _ => e, fun _ => rfl⟩
    · rw [if_neg e]; exact ⟨fun x => absurd x (by simp), fun x => absurd x e⟩), if_pos hg]
  dsimp only
  rw [hsn]
  dsimp only
  rw [Int.toNat_natCast, hd, mend_piece h.byt hg hs _ rfl, cat_pieces l s _ n (fun k hkn => by
    rw [slot_set _ _ _ _ (by omega)]
    by_cases e : k = g
    · rw [if_pos e, e]
    · rw [if_neg e, hs k hkn, if_neg e]) hk, Nat.min_eq_right h.all, List.take_length]
theorem join_gone (h : CutOk l set sp s n R) (M : List (List Int)) (hM : ∀ b ∈ M, ∃ k, k < R.length ∧ b = R.getD k []) (hne : M ≠ []) (hb : (∃ g1 g2, g1 < n ∧ g2 < n ∧ g1 ≠ g2 ∧ R.getD g1 [] ∉ M ∧ R.getD g2 [] ∉ M) ∨ (∃ g, g < n ∧ R.getD g [] ∉ M ∧ ¬ (n < R.length ∧ R.getD n [] ∈ M))) : joinR M = ([], 272) := by
  obtain ⟨v0, P, g1, g2, g3, g4, g5, g6⟩ := gather_set h M hM hne
  have hcn : v0.cnt.toNat = n := by omega
  have hno : ∀ k, R.getD k [] ∉ M → slot P k = none := fun k hk => by
    rcases g6 k with ⟨_, _, q⟩ | ⟨q, _⟩
    · exact absurd q hk
    · exact q
  unfold joinR
  rw [g1]
  dsimp only
  rw [if_pos rfl]
  unfold joinW
  rw [hcn]
  rcases hb with ⟨a, b, ha, hb, hab, h1, h2⟩ | ⟨g, hg, h1, h2⟩
  · have m1 := mem_goneP P n a ha (hno a h1)
    have m2 := mem_goneP P n b hb (hno b h2)
    generalize goneP P n = G at m1 m2
    match G, m1, m2 with
    | [x], m1, m2 =>
      rw [List.mem_singleton] at m1 m2
      omega
    | _ :: _ :: _, _, _ => rfl
  · have m1 := mem_goneP P n g hg (hno g h1)
    have hsn : slot P n = none := by
      rcases g6 n with ⟨_, q⟩ | ⟨q, _⟩
      · exact absurd q h2
      · exact q
    generalize goneP P n = G at m1
    match G, m1 with
    | [x], _ => dsimp only; rw [hsn]
    | _ :: _ :: _, _ => rfl
end
theorem join_empty : joinR [] = ([], 272) := rfl
end Go.Proofs.Ytnkcbkfccbfjpaa.Z
/- VolumesJoined, plain: the printed function answers true. -/

namespace Go.Proofs.Ytnkcbkfccbfjpaa.Z
open Go.RowKit Go.Proofs.Ytnkcbkfccbfjpaa.XxhW Go.Proofs.Ytnkcbkfccbfjpaa.QVolumesCuts Go.Proofs.Ytnkcbkfccbfjpaa.SVolumesJoined Go.Proofs.YtnkcbkfccbfjpaaW.PrintWords Go.Proofs.YtnkcbkfccbfjpaaW.PrintLast Go.Proofs.YtnkcbkfccbfjpaaW.PrintMore
set_option linter.unusedVariables false
set_option linter.unusedSimpArgs false
theorem same_l0 (b : List Int) (hl : b.length ≤ 140737488355327) : ∀ (j k i : Nat), i + j = b.length → j < k → satchellaw27_same.l0 k b b (i : Int) = some true := by
  intro j
  induction j with
  | zero =>
    intro k i hi hk
    obtain ⟨k, rfl⟩ : ∃ q, k = q + 1 := ⟨k - 1, by omega⟩
    rw [satchellaw27_same.l0, if_neg (by omega)]
  | succ j ih =>
    intro k i hi hk
    obtain ⟨k, rfl⟩ : ∃ q, k = q + 1 := ⟨k - 1, by omega⟩
    have w1 : wrap64 ((i : Int) + 1) = ((i + 1 : Nat) : Int) := by rw [IntWalk.wrap64_in _ (by omega)]; omega
    rw [satchellaw27_same.l0, w1]
    clear w1
    rw [if_pos (by omega), if_pos (by omega), if_pos (by omega), if_pos rfl]
    exact ih k (i + 1) (by omega) (by omega)
theorem take_succ_getD {α : Type} (L : List α) (d : α) (i : Nat) (h : i < L.length) : L.take (i + 1) = L.take i ++ [L.getD i d] := by
  rw [List.take_succ_eq_append_getElem h, List.getD_eq_getElem?_getD, List.getElem?_eq_getElem h]; rfl
theorem copies_l0 (L : List (List Int)) (hL : ∀ b ∈ L, b.length ≤ 100000000) (hn : L.length ≤ 1000000000) : ∀ (j k i : Nat), i + j = L.length → j < k → satchellaw27_copies.l0 k L (L.take i) (i : Int) = some L := by
  intro j
  induction j with
  | zero =>
    intro k i hi hk
    obtain ⟨k, rfl⟩ : ∃ q, k = q + 1 := ⟨k - 1, by omega⟩
    rw [satchellaw27_copies.l0, if_neg (by omega), List.take_of_length_le (by omega)]
  | succ j ih =>
    intro k i hi hk
    obtain ⟨k, rfl⟩ : ∃ q, k = q + 1 := ⟨k - 1, by omega⟩
    have hb := hL (L.getD i []) (by rw [List.getD_eq_getElem?_getD, List.getElem?_eq_getElem (show i < L.length by omega)]; exact List.getElem_mem _)
    rw [satchellaw27_copies.l0, if_pos (by omega), Option.bind_some, if_pos (by omega), rdL_at, if_pos (by rw [List.length_nil]; omega), if_pos (by rw [List.length_take]; omega), List.nil_append, XxhW.wrap_succ _ (by omega), ← take_succ_getD L [] i (by omega)]
    exact ih k (i + 1) (by omega) (by omega)
theorem copies_f (k : Nat) (L : List (List Int)) (hL : ∀ b ∈ L, b.length ≤ 100000000) (hn : L.length ≤ 1000000000) (hk : L.length < k) : satchellaw27_copies.f k L = some L := copies_l0 L hL hn L.length k 0 (by omega) hk
theorem same_ok (k : Nat) (b : List Int) (hl : b.length ≤ 140737488355327) (hk : b.length < k) : satchellaw27_same.f k b b = some true := by
  unfold satchellaw27_same.f
  rw [if_pos rfl]
  exact same_l0 b hl b.length k 0 (by omega) hk
/-- A list without one. -/
def rm (L : List (List Int)) (q : Nat) : List (List Int) := L.take q ++ L.drop (q + 1)
theorem rm_len (L : List (List Int)) (q : Nat) (h : q < L.length) : (rm L q).length = L.length - 1 := by
  unfold rm
  rw [List.length_append, List.length_take, List.length_drop]
  omega
theorem rm_get (L : List (List Int)) (q : Nat) (h : q < L.length) (t : Nat) : (rm L q).getD t [] = L.getD (if t < q then t else t + 1) [] := by
  unfold rm
  rw [List.getD_eq_getElem?_getD, List.getD_eq_getElem?_getD]
  by_cases e : t < q
  · rw [if_pos e, List.getElem?_append_left (by rw [List.length_take]; omega), List.getElem?_take, if_pos e]
  · rw [if_neg e, List.getElem?_append_right (by rw [List.length_take]; omega), List.getElem?_drop, List.length_take, show q + 1 + (t - min q L.length) = t + 1 by omega]
theorem getD_mem (L : List (List Int)) (k : Nat) (h : k < L.length) : L.getD k [] ∈ L := by rw [List.getD_eq_getElem?_getD, List.getElem?_eq_getElem h, Option.getD_some]; exact List.getElem_mem _
theorem mem_getD (L : List (List Int)) (b : List Int) (h : b ∈ L) : ∃ k, k < L.length ∧ b = L.getD k [] := by
  obtain ⟨k, hk, e⟩ := List.getElem_of_mem h
  exact ⟨k, hk, by rw [List.getD_eq_getElem?_getD, List.getElem?_eq_getElem hk]; exact e.symm⟩
theorem rm_mem (L : List (List Int)) (q : Nat) (h : q < L.length) (b : List Int) : b ∈ rm L q ↔ ∃ k, k < L.length ∧ k ≠ q ∧ b = L.getD k [] := by
  constructor
  · intro hb
    obtain ⟨t, ht, e⟩ := mem_getD _ b hb
    rw [rm_len L q h] at ht
    rw [rm_get L q h] at e
    refine ⟨_, ?_, ?_, e⟩
    · split <;> omega
    · split <;> omega
  · rintro ⟨k, hk, hne, rfl⟩
    by_cases e : k < q
    · have := rm_get L q h k
      rw [if_pos e] at this
      rw [← this]
      exact getD_mem _ _ (by rw [rm_len L q h]; omega)
    · have := rm_get L q h (k - 1)
      rw [if_neg (by omega), show k - 1 + 1 = k by omega] at this
      rw [← this]
      exact getD_mem _ _ (by rw [rm_len L q h]; omega)
section
variable {l : List Int} {set : Int} {sp : Bool} {s n : Nat} {R : List (List Int)}
theorem CutOk.inj (h : CutOk l set sp s n R) {a b : Nat} (ha : a < R.length) (hb : b < R.length) (e : R.getD a [] = R.getD b []) : a = b := by
  have h1 := (h.el a ha).2.2.1
  have h2 := (h.el b hb).2.2.1
  rw [e] at h1
  omega
theorem CutOk.most (h : CutOk l set sp s n R) {b : List Int} (hb : b ∈ R) : b.length ≤ 100000000 ∧ isByte b = true := by
  obtain ⟨k, hk, rfl⟩ := mem_getD R b hb
  exact ⟨(h.el k hk).1.most, (h.el k hk).1.byt⟩
theorem CutOk.join (h : CutOk l set sp s n R) {M : List (List Int)} (hM : ∀ b ∈ M, b ∈ R) (hl : M.length ≤ 1000000000) : volumes_Join.f M = some (joinR M) := by
  unfold volumes_Join.f
  rw [if_pos ⟨(lawful_iff M).2 ⟨fun b hb => ⟨(h.most (hM b hb)).2, (h.most (hM b hb)).1⟩, hl⟩, by
    by_cases e : M = []
    · exact .inr e
    · obtain ⟨v0, P, g, _⟩ := gather_set h M (fun b hb => mem_getD R b (hM b hb)) e
      exact .inl (by rw [g])⟩]
theorem CutOk.rn (h : CutOk l set sp s n R) : n ≤ R.length ∧ R.length ≤ n + 1 := by rw [h.cnt]; constructor <;> split <;> omega
/-- Without one. -/
theorem joined_rest (h : CutOk l set sp s n R) (q : Nat) (hq : q < R.length) : joinR (rm R q) = if sp = true then (l, 0) else ([], 272) := by
  have hrn := h.rn
  have hsub : ∀ b ∈ rm R q, ∃ k, k < R.length ∧ b = R.getD k [] := fun b hb => by
    obtain ⟨k, h1, _, h3⟩ := (rm_mem R q hq b).1 hb
    exact ⟨k, h1, h3⟩
  have hno : R.getD q [] ∉ rm R q := fun hb => by
    obtain ⟨k, h1, h2, h3⟩ := (rm_mem R q hq _).1 hb
    exact h2 (h.inj hq h1 h3).symm
  have hlen := rm_len R q hq
  have hn1 := h.n1
  have hc := h.cnt
  by_cases e : sp = true
  · rw [if_pos e] at hc ⊢
    have hne : rm R q ≠ [] := fun x => by rw [x] at hlen; simp at hlen; omega
    have hall : ∀ k, k < R.length → k ≠ q → R.getD k [] ∈ rm R q := fun k hk hkq => (rm_mem R q hq _).2 ⟨k, hk, hkq, rfl⟩
    by_cases e2 : q < n
    · exact join_one h _ hsub hne q e2 e (fun k hk hkq => hall k (by omega) hkq) hno
    · exact join_all h _ hsub hne (fun k hk => hall k (by omega) (by omega))
  · rw [if_neg e] at hc ⊢
    by_cases hne : rm R q = []
    · rw [hne]; exact join_empty
    · exact join_gone h _ hsub hne (.inr ⟨q, by omega, hno, fun x => by omega⟩)
/-- Without two. -/
theorem joined_two (h : CutOk l set sp s n R) (q t : Nat) (hq : q < R.length) (ht : t < (rm R q).length) (hsp : sp = true) (h2 : 2 ≤ (rm R q).length) : joinR (rm (rm R q) t) = ([], 272) := by
  have hrn := h.rn
  have hc := h.cnt
  rw [if_pos hsp] at hc
  have hlen := rm_len R q hq
  have hlen2 := rm_len (rm R q) t ht
  obtain ⟨k2, hk2⟩ : ∃ k2, k2 = if t < q then t else t + 1 := ⟨_, rfl⟩
  have hk2q : k2 ≠ q ∧ k2 < R.length := by rw [hk2]; split <;> omega
  have hmem : ∀ b ∈ rm (rm R q) t, ∃ k, k < R.length ∧ k ≠ q ∧ k ≠ k2 ∧ b = R.getD k [] := fun b hb => by
    obtain ⟨u, h3, h4, h5⟩ := (rm_mem _ t ht b).1 hb
    rw [rm_get R q hq] at h5
    refine ⟨_, ?_, ?_, ?_, h5⟩
    · split <;> omega
    · split <;> omega
    · rw [hk2]; split <;> split <;> omega
  have hsub : ∀ b ∈ rm (rm R q) t, ∃ k, k < R.length ∧ b = R.getD k [] := fun b hb => by
    obtain ⟨k, h3, _, _, h4⟩ := hmem b hb
    exact ⟨k, h3, h4⟩
  have hne : rm (rm R q) t ≠ [] := fun x => by rw [x] at hlen2; simp at hlen2; omega
  have n1 : R.getD q [] ∉ rm (rm R q) t := fun hb => by
    obtain ⟨k, h3, h4, h5, h6⟩ := hmem _ hb
    exact h4 (h.inj hq h3 h6).symm
  have n2 : R.getD k2 [] ∉ rm (rm R q) t := fun hb => by
    obtain ⟨k, h3, h4, h5, h6⟩ := hmem _ hb
    exact h5 (h.inj hk2q.2 h3 h6).symm
  refine join_gone h _ hsub hne ?_
  by_cases e1 : q < n
  · by_cases e2 : k2 < n
    · exact .inl ⟨q, k2, e1, e2, fun x => hk2q.1 x.symm, n1, n2⟩
    · have : k2 = n := by omega
      rw [this] at n2
      exact .inr ⟨q, e1, n1, fun x => n2 x.2⟩
  · have : q = n := by omega
    have n3 : R.getD n [] ∉ rm (rm R q) t := by rw [← this]; exact n1
    exact .inr ⟨k2, by omega, n2, fun x => n3 x.2⟩
theorem j4_ok (h : CutOk l set sp s n R) (k : Nat) (hk : 3000 ≤ k) (q : Nat) (hq : q < R.length) (hsp : sp = true) (h2 : 2 ≤ (rm R q).length) : satchellaw27_VolumesJoined.j4 k (q : Int) (rm R q) false = some true := by
  obtain ⟨k, rfl⟩ : ∃ x, k = x + 1 := ⟨k - 1, by omega⟩
  have hrn := h.rn
  have hn1 := h.n1
  have hlen := rm_len R q hq
  have hr : ∀ b ∈ rm R q, b ∈ R := fun b hb => by
    obtain ⟨x, h3, _, rfl⟩ := (rm_mem R q hq b).1 hb
    exact getD_mem R x h3
  obtain ⟨t, ht, et⟩ : ∃ t : Nat, t < (rm R q).length ∧ Int.tmod (q : Int) ((rm R q).length : Int) = (t : Int) := ⟨q % (rm R q).length, Nat.mod_lt _ (by omega), by rw [Int.tmod_eq_emod_of_nonneg (by omega)]; rfl⟩
  have hj := joined_two h q t hq ht hsp h2
  have hl2 := rm_len (rm R q) t ht
  have hr2 : ∀ b ∈ rm (rm R q) t, b ∈ R := fun b hb => by
    obtain ⟨x, h3, _, rfl⟩ := (rm_mem _ t ht b).1 hb
    exact hr _ (getD_mem _ x h3)
  generalize hM : rm R q = M at *
  rw [satchellaw27_VolumesJoined.j4, if_neg (by decide), if_neg (by omega), et, if_pos (by omega), if_pos (by omega), Int.toNat_natCast, copies_f k (M.take t) (fun b hb => (h.most (hr b (List.mem_of_mem_take hb))).1) (by rw [List.length_take]; omega) (by rw [List.length_take]; omega), Option.bind_some,
    XxhW.wrap_succ _ (by omega), if_pos (by omega), if_pos (by omega), Int.toNat_natCast, copies_f k (M.drop (t + 1)) (fun b hb => (h.most (hr b (List.mem_of_mem_drop hb))).1) (by rw [List.length_drop]; omega) (by rw [List.length_drop]; omega), Option.bind_some, if_pos (by rw [List.length_take, List.length_drop]; omega)]
  have hj2 := h.join hr2 (by omega)
  unfold rm at hj2 hj
  rw [hj2, Option.bind_some, hj]
  rfl
theorem j2_ok (h : CutOk l set sp s n R) (k : Nat) (hk : 200000000 ≤ k) (most : Int) (q : Nat) (hq : q < R.length) (hll : l.length ≤ 4194304) : satchellaw27_VolumesJoined.j2 k R (q : Int) l most set sp = some true := by
  obtain ⟨k, rfl⟩ : ∃ x, k = x + 2 := ⟨k - 2, by omega⟩
  have hrn := h.rn
  have hn1 := h.n1
  have hlen := rm_len R q hq
  have hr : ∀ b ∈ rm R q, b ∈ R := fun b hb => by
    obtain ⟨x, h3, _, rfl⟩ := (rm_mem R q hq b).1 hb
    exact getD_mem R x h3
  have hj := joined_rest h q hq
  have hjj := h.join hr (by omega)
  have j3 : satchellaw27_VolumesJoined.j3 (k + 1) (q : Int) (rm R q) false l most set sp = some true := by
    obtain ⟨k, rfl⟩ : ∃ x, k = x + 1 := ⟨k - 1, by omega⟩
    have j4t : ∀ y, satchellaw27_VolumesJoined.j4 (k + 1) (q : Int) y true = some true := fun y => by rw [satchellaw27_VolumesJoined.j4, if_pos rfl]
    rw [satchellaw27_VolumesJoined.j3, if_neg (by decide)]
    by_cases e : ((rm R q).length : Int) < 2
    · rw [if_pos e]; exact j4t _
    · rw [if_neg e]
      by_cases e2 : sp = true
      · rw [e2]
        exact j4_ok h (k + 1) (by omega) q hq e2 (by omega)
      · have : sp = false := by simpa using e2
        rw [this]
        exact j4t _
  rw [satchellaw27_VolumesJoined.j2, if_pos (by omega), if_pos (by omega), Int.toNat_natCast, copies_f (k + 1) (R.take q) (fun b hb => (h.most (List.mem_of_mem_take hb)).1) (by rw [List.length_take]; omega) (by rw [List.length_take]; omega), Option.bind_some,
    XxhW.wrap_succ _ (by omega), if_pos (by omega), if_pos (by omega), Int.toNat_natCast, copies_f (k + 1) (R.drop (q + 1)) (fun b hb => (h.most (List.mem_of_mem_drop hb)).1) (by rw [List.length_drop]; omega) (by rw [List.length_drop]; omega), Option.bind_some, if_pos (by rw [List.length_take, List.length_drop]; omega), Option.bind_some]
  unfold rm at hj hjj j3
  rw [hjj, Option.bind_some, hj]
  by_cases e : sp = true
  · rw [if_pos e, if_pos e, if_pos rfl]
    dsimp only
    rw [same_ok (k + 1) l (by omega) (by omega), Option.bind_some, if_pos rfl]
    exact j3
  · rw [if_neg e, if_neg e]
    exact j3
theorem jl0_ok (h : CutOk l set sp s n R) (order : List Int) (gone most : Int) (ho : order.length ≤ 1048576) (hll : l.length ≤ 4194304) : ∀ (j k i : Nat) (M : List (List Int)), i + j = order.length → j + 300000000 ≤ k → (∀ b ∈ M, b ∈ R) → (∀ b ∈ R, b ∈ M) → M.length = R.length + i →
    satchellaw27_VolumesJoined.l0 k order gone R M (i : Int) l most set sp = some true := by
  intro j
  have hrn := h.rn
  have hn1 := h.n1
  induction j with
  | zero =>
    intro k i M hi hk h1 h2 h3
    obtain ⟨k, rfl⟩ : ∃ x, k = x + 2 := ⟨k - 2, by omega⟩
    have hja := join_all h M (fun b hb => mem_getD R b (h1 b hb)) (fun e => by rw [e] at h3; simp at h3; omega) (fun x hx => h2 _ (getD_mem R x (by omega)))
    rw [satchellaw27_VolumesJoined.l0, if_neg (by omega), h.join h1 (by omega), Option.bind_some, hja, if_pos rfl]
    dsimp only
    rw [same_ok (k + 1) l (by omega) (by omega), Option.bind_some, satchellaw27_VolumesJoined.j1, if_neg (by decide), if_neg (by omega)]
    obtain ⟨q, hq, eq⟩ := norm_mod gone R.length (by omega) (by omega)
    by_cases e : Int.tmod gone (R.length : Int) < 0
    · rw [if_pos e] at eq ⊢
      rw [eq]
      exact j2_ok h k (by omega) most q hq hll
    · rw [if_neg e] at eq ⊢
      rw [eq]
      exact j2_ok h k (by omega) most q hq hll
  | succ j ih =>
    intro k i M hi hk h1 h2 h3
    obtain ⟨k, rfl⟩ : ∃ x, k = x + 1 := ⟨k - 1, by omega⟩
    obtain ⟨q, hq, eq⟩ := norm_mod (rd order (i : Int)) R.length (by omega) (by omega)
    have hb := getD_mem R q hq
    have hbl := (h.most hb).1
    have hnext := ih k (i + 1) (R.getD q [] :: M) (by omega) (by omega) (fun b hb2 => by
      rcases List.mem_cons.1 hb2 with rfl | hb2
      · exact hb
      · exact h1 b hb2) (fun b hb2 => List.mem_cons_of_mem _ (h2 b hb2)) (by rw [List.length_cons]; omega)
    rw [satchellaw27_VolumesJoined.l0, if_pos (by omega), if_pos (by omega), if_neg (by omega)]
    by_cases e : Int.tmod (rd order (i : Int)) (R.length : Int) < 0
    · rw [if_pos e] at eq ⊢
      rw [eq, Option.bind_some, if_pos (by omega), if_pos (by omega), rdL_at, if_pos (by rw [List.length_nil]; omega), Option.bind_some, if_pos (by rw [List.length_singleton]; omega), List.nil_append, XxhW.wrap_succ _ (by omega)]
      exact hnext
    · rw [if_neg e] at eq ⊢
      rw [eq, Option.bind_some, if_pos (by omega), if_pos (by omega), rdL_at, if_pos (by rw [List.length_nil]; omega), Option.bind_some, if_pos (by rw [List.length_singleton]; omega), List.nil_append, XxhW.wrap_succ _ (by omega)]
      exact hnext
end
theorem joined_f (K : Nat) (hK : 6500000000 ≤ K) (l : List Int) (hb : isByte l = true) (hl : l.length ≤ 4194304) (most set : Int) (sp : Bool) (order : List Int) (ho : order.length ≤ 1048576) (gone : Int) (hset : W64u set) (hm : most ≤ 9223372036854775807) (hm0 : -9223372036854775808 ≤ most) :
    satchellaw27_VolumesJoined.f (K + 1) l most set sp order gone = some true := by
  have hc1 := cut_f1 K hK l most set sp hset hm hm0
  unfold satchellaw27_VolumesJoined.f
  rw [Option.bind_some, if_pos (by rw [List.length_nil]; omega), List.nil_append, hc1, Option.bind_some]
  by_cases c1 : most ≤ 64
  · have e : cutR l most set sp = ([], 1) := by unfold cutR; rw [if_pos c1]
    have e2 : Z.satchelref27_Cut.f (K + 1) l most set sp = some ([], 1) := by unfold Z.satchelref27_Cut.f; rw [if_pos (by omega)]
    rw [e, if_neg (by decide), e2, Option.bind_some, if_pos rfl]
    rfl
  by_cases c3 : countOf l (most - 64).toNat > 1000
  · have e : cutR l most set sp = ([], 2) := by unfold cutR; rw [if_neg c1, if_neg (by omega), if_pos c3]
    have e2 : Z.satchelref27_Cut.f (K + 1) l most set sp = some ([], 2) := by
      obtain ⟨_, f2, _⟩ := count_facts l (most - 64).toNat (by omega) (by omega) hl
      unfold Z.satchelref27_Cut.f
      rw [if_neg (by omega), if_neg (by omega), show wrap64 (most - 64) = (((most - 64).toNat : Nat) : Int) by rw [IntWalk.wrap64_in _ (by omega)]; omega, f2, Option.bind_some, if_pos (by omega)]
    rw [e, if_neg (by decide), e2, Option.bind_some, if_pos rfl]
    rfl
  have e : cutR l most set sp = (cutP l set sp (stepOf l (most - 64).toNat) (countOf l (most - 64).toNat), 0) := by unfold cutR; rw [if_neg c1, if_neg (by omega), if_neg c3]
  rw [e, if_pos rfl]
  have hok := cut_ok l hb (most - 64).toNat (by omega) (by omega) hl (by omega) set hset sp
  dsimp only
  generalize cutP l set sp (stepOf l (most - 64).toNat) (countOf l (most - 64).toNat) = R at hok ⊢
  have hrn := hok.rn
  have hn1 := hok.n1
  rw [if_neg (by omega), copies_f (K + 1) R (fun b hb => (hok.most hb).1) (by omega) (by omega), Option.bind_some]
  exact jl0_ok hok order gone most ho hl order.length (K + 1) 0 R (by omega) (by omega) (fun b h => h) (fun b h => h) rfl
end Go.Proofs.Ytnkcbkfccbfjpaa.Z
/- What the bound on bulk gives, and arguments opened by their shape: bytes, lists of bytes, lists of truths. Plain facts for the laws' last texts. -/
namespace Go.Proofs.Ytnkcbkfccbfjpaa.Bu
open Go.ChangeShapes Go.WideShapes Go.Deep
set_option linter.unusedVariables false
theorem one_le {H : Type} (d : DataW H) : 1 ≤ Rows.uptoBulk d := by
  cases d with
  | lit l => cases l <;> simp [Rows.uptoBulk]
  | nil => simp [Rows.uptoBulk]
  | ptr d => simp [Rows.uptoBulk]
  | slice elems spare => simp [Rows.uptoBulk]
  | agg parts => simp [Rows.uptoBulk]
  | iface t d => simp [Rows.uptoBulk]
  | map entries => simp [Rows.uptoBulk]
  | held h => simp [Rows.uptoBulk]
theorem part_le {H : Type} {d : DataW H} {l : List (DataW H)} (h : d ∈ l) : Rows.uptoBulk d ≤ Rows.uptoBulkAll l := by
  induction l with
  | nil => cases h
  | cons x r ih =>
    simp only [Rows.uptoBulkAll]
    cases List.mem_cons.1 h with
    | inl e => subst e; omega
    | inr e => have := ih e; omega
theorem len_le {H : Type} (l : List (DataW H)) : l.length ≤ Rows.uptoBulkAll l := by
  induction l with
  | nil => simp [Rows.uptoBulkAll]
  | cons x r ih => have := one_le x; simp only [Rows.uptoBulkAll, List.length_cons]; omega
theorem small {H : Type} {l : List (DataW H)} (h : Rows.uptoSmall H l = true) : Rows.uptoBulkAll l ≤ 1048576 := of_decide_eq_true h
section
variable {H : Type} {enc : TypeId × Value → H} {P : Program} {w : World} {base : Nat} {held : Bool}
/-- A list of numbers of one cell, as it lies. -/
theorem open_nums {t e : TypeId} {k : IntKind} {A : Option Addr} {len cap : Nat} {d : DataW H} {ps : List MemPlace} (ht : P.underlying t = some (.slice e)) (he : P.underlying e = some (.int k)) (hc : P.cellsOf e = 1)
    (h : DataW.Trod enc P w base (fun _ => true) held t (.slice A len cap) d ps) :
    ∃ zs : List Int, zs.length = len ∧ len ≤ cap ∧ cap ≤ maxLen ∧ len ≤ Rows.uptoBulk d ∧ (A = none → cap = 0) ∧ (∀ n ∈ zs, (Lit.int k n).wf = true) ∧ ∀ a, A = some a → ∀ i, i < len → w.cell? (a.add i) = some (.int k (zs.getD i 0)) := by
  obtain ⟨fuel, hf⟩ := h
  rcases open_ints ht he hc hf with ⟨hcs, hx⟩ | ⟨x, l, c, zs, hcs, _, hl, hm, hz, hx, hcell, hwz⟩
  · simp [Value.cells] at hcs
    obtain ⟨rfl, rfl, rfl⟩ := hcs
    exact ⟨[], rfl, Nat.le_refl _, Nat.zero_le _, Nat.zero_le _, fun _ => rfl, by simp, fun _ _ i hi => absurd hi (Nat.not_lt_zero _)⟩
  · simp [Value.cells] at hcs
    obtain ⟨rfl, rfl, rfl⟩ := hcs
    simp only [Prod.mk.injEq] at hx
    obtain ⟨rfl, _⟩ := hx
    have hz' : zs.length = cap := by simpa using hz
    refine ⟨zs.take len, by rw [List.length_take]; omega, hl, hm, ?_, (fun h => by cases h), fun n hn => hwz n (List.mem_of_mem_take hn), fun a ha i hi => ?_⟩
    · have h := len_le (H := H) (lits k (zs.take len))
      have e : (lits (H := H) k (zs.take len)).length = len := by simp [lits]; omega
      simp only [Rows.uptoBulk]
      omega
    · cases ha
      rw [hcell i (by omega), List.getD_eq_getElem?_getD, List.getD_eq_getElem?_getD, List.getElem?_take, if_pos hi]
end
end Go.Proofs.Ytnkcbkfccbfjpaa.Bu
/- A slice argument's shape; ranges of whole numbers. -/
namespace Go.Proofs.Ytnkcbkfccbfjpaa.Bu
open Go.ChangeShapes Go.WideShapes Go.Deep
set_option linter.unusedVariables false
set_option linter.unusedSimpArgs false
theorem slice_shape {H : Type} {enc : TypeId × Value → H} {P : Program} {w : World} {base : Nat} {held : Bool} {t e : TypeId} {n : Nat} {v : Value} {y : DataW H × List MemPlace} (ht : P.underlying t = some (.slice e)) (h : DataW.trod enc P w base (fun _ => true) held n t [v] = some y) : ∃ A l c, v = .slice A l c := by
  rcases open_slice ht h with ⟨hcs, hx⟩ | ⟨a, l, c, m, n, D, Pl, hcs, _⟩
  · simp only [List.cons.injEq, and_true] at hcs
    exact ⟨_, _, _, hcs⟩
  · simp only [List.cons.injEq, and_true] at hcs
    exact ⟨_, _, _, hcs⟩
theorem wf_u8 {x : Int} (h : (Lit.int .u8 x).wf = true) : 0 ≤ x ∧ x < 256 := by
  simp only [Lit.wf, show IntKind.u8.min = 0 from rfl, show IntKind.u8.max = 255 from rfl, Bool.and_eq_true, decide_eq_true_eq] at h
  omega
theorem wf_i64 {x : Int} (h : (Lit.int .i64 x).wf = true) : -9223372036854775808 ≤ x ∧ x ≤ 9223372036854775807 := by
  simp only [Lit.wf, show IntKind.i64.min = -9223372036854775808 from rfl, show IntKind.i64.max = 9223372036854775807 from rfl, Bool.and_eq_true, decide_eq_true_eq] at h
  omega
theorem wf_u64 {x : Int} (h : (Lit.int .u64 x).wf = true) : 0 ≤ x ∧ x < 18446744073709551616 := by
  simp only [Lit.wf, show IntKind.u64.min = 0 from rfl, show IntKind.u64.max = 18446744073709551615 from rfl, Bool.and_eq_true, decide_eq_true_eq] at h
  omega
end Go.Proofs.Ytnkcbkfccbfjpaa.Bu
