/- SizesRanges, plain: the document's functions over ranges are those over lists. -/
import Derived.Test.YtanbicpkdkcpbaaGt
import Derived.Test.YtanbicpkdkcpbaaGf
namespace Go.Proofs.Ytanbicpkdkcpbaa.Rng
open Go.RowKit Go.Proofs.Ytanbicpkdkcpbaa.RSizesRanges Go.Proofs.YtanbicpkdkcpbaaW.PrintWords Go.Proofs.YtanbicpkdkcpbaaW.PrintLast Go.Proofs.YtanbicpkdkcpbaaW.PrintMore
set_option linter.unusedVariables false
set_option linter.unusedSimpArgs false
theorem less_f (a b : Int) : satchelref01_less.f a b = some (min a b) := by unfold satchelref01_less.f; split <;> congr 1 <;> omega
theorem more_f (a b : Int) : satchelref01_more.f a b = some (max a b) := by unfold satchelref01_more.f; split <;> congr 1 <;> omega
theorem rcan_f (a b : Int) : satchelref01_Can.f a b = some (canB a b) := by
  have h := can_f a b
  unfold sizes_can.f at h
  unfold satchelref01_Can.f
  exact h
/-- What Without makes. -/
def outG (L : List S67) (a b : Int) : List S67 := if a ≥ b then L.flatMap (fun y => keepR y.f0 y.f1) else cutG L a b
theorem outG_cons (y : S67) (L : List S67) (a b : Int) : outG (y :: L) a b = (if a ≥ b then keepR y.f0 y.f1 else keepR y.f0 (min y.f1 a) ++ keepR (max y.f0 b) y.f1) ++ outG L a b := by
  unfold outG
  by_cases c : a ≥ b
  · rw [if_pos c, if_pos c, if_pos c, List.flatMap_cons]
  · rw [if_neg c, if_neg c, if_neg c, cutG, List.append_assoc]
theorem out_j1 (L : List S67) (k i : Nat) (hi : i < 1000000) (out : List S67) (ho : out.length ≤ 100000000) (a b p0 p1 q0 q1 : Int) :
    satchelref01_Without.j1 (k + 1) L out (i : Int) a b p0 p1 q0 q1 = satchelref01_Without.l0 k L (out ++ (keepR p0 p1 ++ keepR q0 q1)) ((i + 1 : Nat) : Int) a b := by
  rw [satchelref01_Without.j1, wsucc _ (by omega)]
  unfold keepR
  by_cases c1 : p0 < p1
  · rw [if_pos c1, if_pos c1, if_pos (by omega), Option.bind_some]
    by_cases c2 : q0 < q1
    · rw [if_pos c2, if_pos c2, if_pos (by rw [List.length_append]; simp only [List.length_cons, List.length_nil]; omega), List.append_assoc]
    · rw [if_neg c2, if_neg c2, List.append_nil]
  · rw [if_neg c1, if_neg c1]
    by_cases c2 : q0 < q1
    · rw [if_pos c2, if_pos c2, if_pos (by omega), List.nil_append]
    · rw [if_neg c2, if_neg c2, List.append_nil, List.append_nil]
theorem out_l0 (L : List S67) (hL : L.length < 1000000) (a b : Int) : ∀ (j k i : Nat) (out : List S67), i + j = L.length → 2 * j < k → out.length ≤ 2 * i →
    satchelref01_Without.l0 k L out (i : Int) a b = some (out ++ outG (L.drop i) a b) := by
  intro j
  induction j with
  | zero =>
    intro k i out hi hk ho
    obtain ⟨k, rfl⟩ : ∃ q, k = q + 1 := ⟨k - 1, by omega⟩
    rw [satchelref01_Without.l0, if_neg (by omega), List.drop_eq_nil_of_le (by omega)]
    have : outG [] a b = [] := by unfold outG; split <;> rfl
    rw [this, List.append_nil]
  | succ j ih =>
    intro k i out hi hk ho
    obtain ⟨k, rfl⟩ : ∃ q, k = (q + 1) + 1 := ⟨k - 2, by omega⟩
    rw [satchelref01_Without.l0, if_pos (by omega), if_pos (by omega), less_f, Option.bind_some, more_f, Option.bind_some, drop_rd L i (by omega), outG_cons]
    generalize rd_T67 L (i : Int) = y
    by_cases c : a ≥ b
    · have k1 := keep_len y.f0 y.f1
      have e : keepR 0 0 = [] := rfl
      rw [if_pos c, if_pos c, out_j1 L k i (by omega) out (by omega), e, List.append_nil, ih k (i + 1) _ (by omega) (by omega) (by rw [List.length_append]; omega), List.append_assoc]
    · have k1 := keep_len y.f0 (min y.f1 a)
      have k2 := keep_len (max y.f0 b) y.f1
      rw [if_neg c, if_neg c, out_j1 L k i (by omega) out (by omega), ih k (i + 1) _ (by omega) (by omega) (by rw [List.length_append, List.length_append]; omega), List.append_assoc, List.append_assoc]
theorem out_f (k : Nat) (L : List S67) (hL : L.length < 1000000) (hk : 2 * L.length < k) (a b : Int) : satchelref01_Without.f k L a b = some (outG L a b) := by
  have h := out_l0 L hL a b L.length k 0 [] (by omega) hk (by simp)
  rw [List.drop_zero, List.nil_append] at h
  exact h
theorem outG_same {lo : Int} : ∀ {L : List S67}, Canon lo L → L.flatMap (fun y => keepR y.f0 y.f1) = L
  | [], _ => rfl
  | y :: l, ⟨h1, h2, h3⟩ => by
    rw [List.flatMap_cons, outG_same h3]
    unfold keepR
    rw [if_pos h2]
    rfl
/-! ### Cut -/
theorem rcut_f (k : Nat) (L : List S67) (h : Fine L 65536) (hk : 2 * L.length < k) (a b : Int) : satchelref01_Cut.f k L a b = some (cutR L a b) := by
  have hl := h.len
  unfold satchelref01_Cut.f cutR
  rw [rcan_f, Option.bind_some]
  by_cases c : canB a b = true
  · have hc := (canB_iff a b).1 c
    rw [if_pos c, if_pos c, out_f k L (by omega) hk, Option.bind_some]
    by_cases e : a = b
    · have e1 : outG L a b = L := by unfold outG; rw [if_pos (by omega), outG_same h.canon]
      rw [e1, if_pos e, if_neg (by omega)]
    · have e1 : outG L a b = cutG L a b := by unfold outG; rw [if_neg (by omega)]
      rw [e1, if_neg e]
      by_cases e2 : 65536 < (cutG L a b).length
      · rw [if_pos e2, if_pos (by omega)]
      · rw [if_neg e2, if_neg (by omega)]
  · rw [if_neg c, if_neg c]
/-! ### With -/
def insG (a b : Int) : List S67 → Bool → List S67
  | [], d => if d = true then [] else [⟨a, b⟩]
  | y :: l, d => if d = true then y :: insG a b l true else if y.f0 ≥ b then ⟨a, b⟩ :: y :: insG a b l true else y :: insG a b l false
def mg : S67 → List S67 → List S67
  | c, [] => [c]
  | c, y :: l => if c.f1 = y.f0 then mg ⟨c.f0, y.f1⟩ l else c :: mg y l
def mergeG : List S67 → List S67
  | [] => []
  | y :: l => mg y l
theorem ins_l0 (T : List S67) (hT : T.length ≤ 1000000) (a b : Int) : ∀ (j k i : Nat) (out : List S67) (d : Bool), i + j = T.length → out.length ≤ 2 * i + 1 →
    satchelref01_With.l0 (j + k + 1) out d T (i : Int) a b = satchelref01_With.j1 k (out ++ insG a b (T.drop i) d) := by
  intro j
  induction j with
  | zero =>
    intro k i out d hi ho
    rw [show 0 + k + 1 = k + 1 by omega, satchelref01_With.l0, if_neg (by omega), List.drop_eq_nil_of_le (by omega), insG]
    cases d with
    | true => rw [if_pos rfl, if_pos rfl, List.append_nil]
    | false => rw [if_neg (show ¬ (false = true) by decide), if_neg (show ¬ (false = true) by decide), if_pos (by omega)]
  | succ j ih =>
    intro k i out d hi ho
    rw [show j + 1 + k + 1 = (j + k + 1) + 1 by omega, satchelref01_With.l0, if_pos (by omega), drop_rd T i (by omega), insG, wsucc _ (by omega)]
    generalize rd_T67 T (i : Int) = y
    have ey : (⟨y.f0, y.f1⟩ : S67) = y := rfl
    cases d with
    | true =>
      rw [if_pos rfl, if_pos rfl, if_pos (by omega), if_pos (by omega), ey, ih k (i + 1) _ true (by omega) (by rw [List.length_append]; simp only [List.length_cons, List.length_nil]; omega), List.append_assoc]
      rfl
    | false =>
      rw [if_neg (show ¬ (false = true) by decide), if_neg (show ¬ (false = true) by decide), if_pos (by omega)]
      by_cases c : y.f0 ≥ b
      · rw [if_pos c, if_pos c, if_pos (by omega), Option.bind_some, if_pos (by rw [List.length_append]; simp only [List.length_cons, List.length_nil]; omega), ey, ih k (i + 1) _ true (by omega) (by rw [List.length_append, List.length_append]; simp only [List.length_cons, List.length_nil]; omega), List.append_assoc, List.append_assoc]
        rfl
      · rw [if_neg c, if_neg c, if_pos (by omega), ey, ih k (i + 1) _ false (by omega) (by rw [List.length_append]; simp only [List.length_cons, List.length_nil]; omega), List.append_assoc]
        rfl
theorem mg_l1 (R : List S67) (hR : R.length ≤ 10000000) : ∀ (j k i : Nat) (out : List S67) (c : S67), i + j = R.length → j < k → out.length ≤ i →
    satchelref01_With.l1 k R (out ++ [c]) (i : Int) = some (out ++ mg c (R.drop i)) := by
  intro j
  induction j with
  | zero =>
    intro k i out c hi hk ho
    obtain ⟨k, rfl⟩ : ∃ q, k = q + 1 := ⟨k - 1, by omega⟩
    rw [satchelref01_With.l1, if_neg (by omega), List.drop_eq_nil_of_le (by omega), mg]
  | succ j ih =>
    intro k i out c hi hk ho
    obtain ⟨k, rfl⟩ : ∃ q, k = q + 1 := ⟨k - 1, by omega⟩
    have hl : (out ++ [c]).length = out.length + 1 := by rw [List.length_append]; rfl
    have hw := Aside0.mk (show wrap64 (((out ++ [c]).length : Int) - 1) = ((out.length : Nat) : Int) by rw [hl, show (((out.length + 1 : Nat) : Int) - 1) = ((out.length : Nat) : Int) by omega]; exact IntWalk.wrap64_in _ (by omega))
    have hr : rd_T67 (out ++ [c]) ((out.length : Nat) : Int) = c := by
      unfold rd_T67
      rw [Int.toNat_natCast, List.getD_eq_getElem?_getD, List.getElem?_append_right (Nat.le_refl _), Nat.sub_self]
      rfl
    rw [satchelref01_With.l1, if_pos (by omega), if_pos (by omega), hw.out, if_pos (by omega), if_pos (by omega), if_pos (by omega), hr, drop_rd R i (by omega), mg, wsucc _ (by omega), Int.toNat_natCast]
    generalize rd_T67 R (i : Int) = y
    have ey : (⟨y.f0, y.f1⟩ : S67) = y := rfl
    by_cases e : c.f1 = y.f0
    · rw [if_pos e, if_pos e, List.set_append_right _ _ (Nat.le_refl _), Nat.sub_self]
      exact ih k (i + 1) out _ (by omega) (by omega) (by omega)
    · rw [if_neg e, if_neg e, if_pos (by omega), ey, ih k (i + 1) (out ++ [c]) y (by omega) (by omega) (by omega), List.append_assoc]
      rfl
theorem merge_j1 (R : List S67) (hR : R.length ≤ 10000000) (k : Nat) (hk : R.length < k) : satchelref01_With.j1 (k + 1) R = some (mergeG R) := by
  rw [satchelref01_With.j1]
  obtain ⟨k, rfl⟩ : ∃ q, k = q + 1 := ⟨k - 1, by omega⟩
  cases R with
  | nil =>
    rw [satchelref01_With.l1, if_neg (by simp)]
    rfl
  | cons y l =>
    rw [List.length_cons] at hk hR
    have r0 : rd_T67 (y :: l) 0 = y := rfl
    have w0 : wrap64 (0 + 1) = ((1 : Nat) : Int) := IntWalk.wrap64_in _ (by decide)
    rw [satchelref01_With.l1, if_pos (by rw [List.length_cons]; omega), if_neg (by simp), if_pos (by decide), if_pos (by simp), r0, w0]
    have h := mg_l1 (y :: l) (by rw [List.length_cons]; omega) l.length k 1 [] y (by rw [List.length_cons]; omega) (by omega) (by simp)
    rw [List.nil_append, List.nil_append] at h
    exact h
/-- Rising, not empty; they may touch. -/
def WCanon : Int → List S67 → Prop
  | _, [] => True
  | lo, y :: l => lo ≤ y.f0 ∧ y.f0 < y.f1 ∧ WCanon y.f1 l
theorem Canon.w : ∀ {lo : Int} {L : List S67}, Canon lo L → WCanon (lo + 1) L
  | _, [], _ => trivial
  | lo, y :: l, ⟨h1, h2, h3⟩ => ⟨by omega, h2, by
    have := Canon.w h3
    cases l with
    | nil => trivial
    | cons z l => exact ⟨by have := this.1; omega, this.2⟩⟩
theorem WCanon.weak {lo lo' : Int} (h : lo' ≤ lo) : ∀ {L : List S67}, WCanon lo L → WCanon lo' L
  | [], _ => trivial
  | y :: l, ⟨h1, h2, h3⟩ => ⟨by omega, h2, h3⟩
theorem insG_true (a b : Int) : ∀ l : List S67, insG a b l true = l
  | [] => rfl
  | y :: l => by rw [insG, if_pos rfl, insG_true a b l]
theorem insG_facts (a b : Int) (hab : a < b) : ∀ (T : List S67) (lo : Int), WCanon lo T → lo ≤ a → (∀ y ∈ T, y.f1 ≤ a ∨ b ≤ y.f0) → WCanon lo (insG a b T false) ∧ (∀ x, In x (insG a b T false) ↔ In x T ∨ (a ≤ x ∧ x < b)) ∧ (insG a b T false).length = T.length + 1
  | [], lo, _, h, _ => by
    rw [insG, if_neg (show ¬ (false = true) by decide)]
    exact ⟨⟨h, hab, trivial⟩, fun x => by rw [in_cons]; constructor <;> rintro (h | h) <;> first | exact .inr h | exact absurd h (in_nil x) | exact .inl h, rfl⟩
  | y :: l, lo, ⟨h1, h2, h3⟩, h, hd => by
    rw [insG, if_neg (show ¬ (false = true) by decide)]
    by_cases c : y.f0 ≥ b
    · rw [if_pos c, insG_true]
      refine ⟨⟨h, hab, c, h2, h3⟩, fun x => ?_, rfl⟩
      rw [in_cons, or_comm]
    · rw [if_neg c]
      have hy : y.f1 ≤ a := (hd y List.mem_cons_self).elim id (fun q => absurd q c)
      obtain ⟨i1, i2, i3⟩ := insG_facts a b hab l y.f1 h3 hy (fun z hz => hd z (List.mem_cons_of_mem _ hz))
      refine ⟨⟨h1, h2, i1⟩, fun x => ?_, by rw [List.length_cons, i3]; rfl⟩
      rw [in_cons, i2, in_cons, or_assoc]
theorem mg_facts : ∀ (l : List S67) (c : S67) (lo : Int), lo < c.f0 → c.f0 < c.f1 → WCanon c.f1 l → Canon lo (mg c l) ∧ ∀ x, In x (mg c l) ↔ (c.f0 ≤ x ∧ x < c.f1) ∨ In x l
  | [], c, lo, h1, h2, _ => ⟨⟨h1, h2, trivial⟩, fun x => in_cons x c []⟩
  | y :: l, c, lo, h1, h2, ⟨g1, g2, g3⟩ => by
    rw [mg]
    by_cases e : c.f1 = y.f0
    · rw [if_pos e]
      obtain ⟨i1, i2⟩ := mg_facts l ⟨c.f0, y.f1⟩ lo h1 (by show c.f0 < y.f1; omega) g3
      refine ⟨i1, fun x => ?_⟩
      rw [i2, in_cons]
      show (c.f0 ≤ x ∧ x < y.f1) ∨ _ ↔ _
      constructor
      · rintro (h | h)
        · by_cases q : x < c.f1
          · exact .inl ⟨h.1, q⟩
          · exact .inr (.inl (by omega))
        · exact .inr (.inr h)
      · rintro (h | h | h)
        · exact .inl (by omega)
        · exact .inl (by omega)
        · exact .inr h
    · rw [if_neg e]
      obtain ⟨i1, i2⟩ := mg_facts l y c.f1 (by omega) g2 g3
      refine ⟨⟨h1, h2, i1⟩, fun x => ?_⟩
      rw [in_cons, i2, in_cons]
theorem with_f (k : Nat) (L : List S67) (h : Fine L 65536) (hk : 10 * L.length + 100 < k) (a b : Int) (h0 : 0 ≤ a) (hab : a < b) : satchelref01_With.f k L a b = some (addG L false a b) := by
  have hl := h.len
  obtain ⟨c1, c2, c3⟩ := cutG_facts L (-1) a b h.canon hab
  obtain ⟨T, hT⟩ : ∃ T, T = cutG L a b := ⟨_, rfl⟩
  have hd : ∀ y ∈ T, y.f1 ≤ a ∨ b ≤ y.f0 := fun y hy => by
    have hm := Canon.mem c1 (by rw [← hT]; exact hy)
    by_cases q1 : y.f1 ≤ a
    · exact .inl q1
    · by_cases q2 : b ≤ y.f0
      · exact .inr q2
      · have := ((c2 (max a y.f0)).1 ⟨y, by rw [← hT]; exact hy, by omega, by omega⟩).2
        omega
  rw [← hT] at c1 c2 c3
  obtain ⟨i1, i2, i3⟩ := insG_facts a b hab T 0 c1.w h0 hd
  obtain ⟨a1, a2, _⟩ := addG_facts L (-1) a b h.canon (by omega) hab
  unfold satchelref01_With.f
  rw [if_neg (by omega), out_f k L (by omega) (by omega), Option.bind_some]
  have e : outG L a b = T := by unfold outG; rw [if_neg (by omega), hT]
  rw [e]
  obtain ⟨q, rfl⟩ : ∃ q, k = T.length + (q + 1) + 1 := ⟨k - T.length - 2, by omega⟩
  have h1 := ins_l0 T (by omega) a b T.length (q + 1) 0 [] false (by omega) (by simp)
  rw [List.drop_zero, List.nil_append] at h1
  show satchelref01_With.l0 _ _ _ _ ((0 : Nat) : Int) _ _ = _
  rw [h1, merge_j1 _ (by omega) q (by omega)]
  congr 1
  cases hI : insG a b T false with
  | nil => rw [hI] at i3; simp at i3
  | cons y l =>
    rw [hI] at i1 i2
    obtain ⟨m1, m2⟩ := mg_facts l y (-1) (by have := i1.1; omega) i1.2.1 i1.2.2
    refine Canon.ext m1 a1 fun x => ?_
    rw [a2]
    show In x (mg y l) ↔ _
    rw [m2, ← in_cons, i2, c2]
    constructor
    · rintro (p | p)
      · exact .inl p.1
      · exact .inr p
    · rintro (p | p)
      · by_cases q : a ≤ x ∧ x < b
        · exact .inr q
        · exact .inl ⟨p, q⟩
      · exact .inr p
/-! ### Gaps and Total -/
theorem rgaps_l0 (L : List S67) (hL : L.length ≤ 65536) : ∀ (j k i : Nat) (g : List S67) (lo lo2 : Int), i + j = L.length → 3 * L.length + 10 + j < k → g.length ≤ i + 1 → Canon lo g → Canon lo2 (L.drop i) →
    ∃ r, satchelref01_Gaps.l0 k L g (i : Int) = some r ∧ Canon lo r ∧ ∀ x, In x r ↔ In x g ∧ ¬ In x (L.drop i) := by
  intro j
  induction j with
  | zero =>
    intro k i g lo lo2 hi hk hg hc _
    obtain ⟨k, rfl⟩ : ∃ q, k = q + 1 := ⟨k - 1, by omega⟩
    rw [satchelref01_Gaps.l0, if_neg (by omega), List.drop_eq_nil_of_le (by omega)]
    exact ⟨g, rfl, hc, fun x => ⟨fun h => ⟨h, in_nil x⟩, fun h => h.1⟩⟩
  | succ j ih =>
    intro k i g lo lo2 hi hk hg hc hL2
    obtain ⟨k, rfl⟩ : ∃ q, k = q + 1 := ⟨k - 1, by omega⟩
    rw [drop_rd L i (by omega)] at hL2 ⊢
    rw [satchelref01_Gaps.l0, if_pos (by omega), if_pos (by omega), out_f k g (by omega) (by omega), Option.bind_some, wsucc _ (by omega)]
    generalize rd_T67 L (i : Int) = y at *
    obtain ⟨l1, l2, l3⟩ := hL2
    have e : outG g y.f0 y.f1 = cutG g y.f0 y.f1 := by unfold outG; rw [if_neg (by omega)]
    obtain ⟨c1, c2, c3⟩ := cutG_facts g lo y.f0 y.f1 hc l2
    rw [e]
    obtain ⟨r, h1, h2, h3⟩ := ih k (i + 1) (cutG g y.f0 y.f1) lo y.f1 (by omega) (by omega) (by omega) c1 l3
    refine ⟨r, h1, h2, fun x => ?_⟩
    rw [h3, c2, in_cons]
    constructor
    · rintro ⟨⟨p, q⟩, s⟩
      exact ⟨p, fun t => t.elim q s⟩
    · rintro ⟨p, q⟩
      exact ⟨⟨p, fun t => q (.inl t)⟩, fun t => q (.inr t)⟩
theorem rgaps_f (k : Nat) (L : List S67) (h : Fine L 65536) (hk : 10 * L.length + 100 < k) (a b : Int) : satchelref01_Gaps.f k L a b = some (gapsR L a b) := by
  have hl := h.len
  obtain ⟨k, rfl⟩ : ∃ q, k = q + 1 := ⟨k - 1, by omega⟩
  unfold satchelref01_Gaps.f gapsR
  rw [Option.bind_some, rcan_f, Option.bind_some]
  by_cases c : canB a b = true
  · have hc := (canB_iff a b).1 c
    rw [if_pos c, if_pos c]
    obtain ⟨g1, g2, _⟩ := gapsG_facts L (-1) a b h.canon
    by_cases e : a = b
    · rw [show (a == b) = true by rw [e]; simp, satchelref01_Gaps.j0, if_pos rfl]
      congr 1
      exact (g1.none fun x hx => by have := (g2 x).1 hx; omega).symm
    · rw [show (a == b) = false by rw [beq_eq_false_iff_ne]; exact e, satchelref01_Gaps.j0, if_neg (show ¬ (false = true) by decide), if_pos (by rw [List.length_nil]; decide), List.nil_append]
      obtain ⟨r, h1, h2, h3⟩ := rgaps_l0 L hl L.length k 0 [⟨a, b⟩] (a - 1) (-1) (by omega) (by omega) (by simp) ⟨by show a - 1 < a; omega, by show a < b; omega, trivial⟩ (by rw [List.drop_zero]; exact h.canon)
      rw [List.drop_zero] at h3
      refine h1.trans (congrArg some (Canon.ext h2 g1 fun x => ?_))
      rw [h3, g2, in_cons]
      show ((a ≤ x ∧ x < b) ∨ In x []) ∧ _ ↔ _
      constructor
      · rintro ⟨p | p, q⟩
        · exact ⟨p, q⟩
        · exact absurd p (in_nil x)
      · rintro ⟨p, q⟩
        exact ⟨.inl p, q⟩
  · rw [if_neg c, if_neg c, satchelref01_Gaps.j0, if_pos rfl]
theorem rtot_l0 (L : List S67) (hL : L.length ≤ 1000000) : ∀ (j k i : Nat), i + j = L.length → j < k → satchelref01_Total.l0 k L (wrap64 (totL (L.take i))) (i : Int) = some (wrap64 (totL L)) := by
  intro j
  induction j with
  | zero =>
    intro k i hi hk
    obtain ⟨k, rfl⟩ : ∃ q, k = q + 1 := ⟨k - 1, by omega⟩
    rw [satchelref01_Total.l0, if_neg (by omega), List.take_of_length_le (by omega)]
  | succ j ih =>
    intro k i hi hk
    obtain ⟨k, rfl⟩ : ∃ q, k = q + 1 := ⟨k - 1, by omega⟩
    rw [satchelref01_Total.l0, if_pos (by omega), if_pos (by omega), wsucc _ (by omega), tot_take L i (by omega) _ rfl]
    exact ih k (i + 1) (by omega) (by omega)
theorem rtot_f (k : Nat) (L : List S67) (hL : L.length ≤ 1000000) (hk : L.length < k) : satchelref01_Total.f k L = some (wrap64 (totL L)) := by
  have h := rtot_l0 L hL L.length k 0 (by omega) hk
  rw [List.take_zero, show wrap64 (totL []) = 0 from IntWalk.wrap64_in _ (by decide)] at h
  exact h
/-! ### sets that stay below 65536 -/
theorem addR_fine {L : List S67} (h : Fine L 65536) (a b : Int) : Fine (addR L a b).1 65536 := by
  unfold addR
  by_cases c : canB a b = true
  · have hc := (canB_iff a b).1 c
    rw [if_pos c]
    by_cases e : a = b
    · rw [if_pos e]; exact h
    · rw [if_neg e]
      by_cases e2 : 65536 < (addG L false a b).length
      · rw [if_pos e2]; exact h
      · rw [if_neg e2]
        exact ⟨(addG_facts L (-1) a b h.canon (by omega) (by omega)).1, by show (addG L false a b).length ≤ 65536; omega⟩
  · rw [if_neg c]; exact h
theorem cutR_fine {L : List S67} (h : Fine L 65536) (a b : Int) : Fine (cutR L a b).1 65536 := by
  unfold cutR
  by_cases c : canB a b = true
  · have hc := (canB_iff a b).1 c
    rw [if_pos c]
    by_cases e : a = b
    · rw [if_pos e]; exact h
    · rw [if_neg e]
      by_cases e2 : 65536 < (cutG L a b).length
      · rw [if_pos e2]; exact h
      · rw [if_neg e2]
        exact ⟨(cutG_facts L (-1) a b h.canon (by omega)).1, by show (cutG L a b).length ≤ 65536; omega⟩
  · rw [if_neg c]; exact h
end Go.Proofs.Ytanbicpkdkcpbaa.Rng
