/- Sets of ranges, plain: canonical lists, what is in them, Add, Cut, Gaps and Total over lists. -/
import Derived.Test.YtanbicpkdkcpbaaGa
namespace Go.Proofs.Ytanbicpkdkcpbaa.Rng
open Go.Proofs.Ytanbicpkdkcpbaa.RSizesRanges
set_option linter.unusedVariables false
set_option linter.unusedSimpArgs false
/-- Ranges that are not empty and do not touch, rising; all above lo. -/
def Canon : Int → List S67 → Prop
  | _, [] => True
  | lo, y :: l => lo < y.f0 ∧ y.f0 < y.f1 ∧ Canon y.f1 l
/-- A place is in a list of ranges. -/
def In (x : Int) (L : List S67) : Prop := ∃ y, y ∈ L ∧ y.f0 ≤ x ∧ x < y.f1
theorem in_nil (x : Int) : ¬ In x [] := fun ⟨_, h, _⟩ => by cases h
theorem in_cons (x : Int) (y : S67) (l : List S67) : In x (y :: l) ↔ (y.f0 ≤ x ∧ x < y.f1) ∨ In x l := by
  constructor
  · rintro ⟨z, hz, h⟩
    rcases List.mem_cons.1 hz with rfl | hz
    · exact .inl h
    · exact .inr ⟨z, hz, h⟩
  · rintro (h | ⟨z, hz, h⟩)
    · exact ⟨y, List.mem_cons_self, h⟩
    · exact ⟨z, List.mem_cons_of_mem _ hz, h⟩
theorem in_app (x : Int) (l m : List S67) : In x (l ++ m) ↔ In x l ∨ In x m := by
  constructor
  · rintro ⟨z, hz, h⟩
    rcases List.mem_append.1 hz with hz | hz
    · exact .inl ⟨z, hz, h⟩
    · exact .inr ⟨z, hz, h⟩
  · rintro (⟨z, hz, h⟩ | ⟨z, hz, h⟩)
    · exact ⟨z, List.mem_append.2 (.inl hz), h⟩
    · exact ⟨z, List.mem_append.2 (.inr hz), h⟩
theorem Canon.weak {lo lo' : Int} (h : lo' ≤ lo) : ∀ {L : List S67}, Canon lo L → Canon lo' L
  | [], _ => trivial
  | y :: l, ⟨h1, h2, h3⟩ => ⟨by omega, h2, h3⟩
theorem Canon.low : ∀ {lo : Int} {L : List S67} {x : Int}, Canon lo L → In x L → lo < x
  | lo, [], x, _, h => absurd h (in_nil x)
  | lo, y :: l, x, ⟨h1, h2, h3⟩, h => by
    rcases (in_cons x y l).1 h with h | h
    · omega
    · have := Canon.low h3 h; omega
theorem Canon.mem : ∀ {lo : Int} {L : List S67} {y : S67}, Canon lo L → y ∈ L → lo < y.f0 ∧ y.f0 < y.f1
  | lo, [], y, _, h => by cases h
  | lo, z :: l, y, ⟨h1, h2, h3⟩, h => by
    rcases List.mem_cons.1 h with rfl | h
    · exact ⟨h1, h2⟩
    · have := Canon.mem h3 h; omega
/-- A canonical list is told by its places. -/
theorem Canon.ext : ∀ {L M : List S67} {lo lo' : Int}, Canon lo L → Canon lo' M → (∀ x, In x L ↔ In x M) → L = M
  | [], [], _, _, _, _, _ => rfl
  | [], z :: m, _, _, _, ⟨_, h2, _⟩, h => absurd ((h z.f0).2 ((in_cons _ _ _).2 (.inl ⟨Int.le_refl _, h2⟩))) (in_nil _)
  | y :: l, [], _, _, ⟨_, h2, _⟩, _, h => absurd ((h y.f0).1 ((in_cons _ _ _).2 (.inl ⟨Int.le_refl _, h2⟩))) (in_nil _)
  | y :: l, z :: m, _, _, ⟨h1, h2, h3⟩, ⟨g1, g2, g3⟩, h => by
    have a1 : z.f0 ≤ y.f0 := by
      rcases (in_cons _ _ _).1 ((h y.f0).1 ((in_cons _ _ _).2 (.inl ⟨Int.le_refl _, h2⟩))) with q | q
      · omega
      · have := Canon.low g3 q; omega
    have a2 : y.f0 ≤ z.f0 := by
      rcases (in_cons _ _ _).1 ((h z.f0).2 ((in_cons _ _ _).2 (.inl ⟨Int.le_refl _, g2⟩))) with q | q
      · omega
      · have := Canon.low h3 q; omega
    have b1 : ¬ y.f1 < z.f1 := fun q => by
      rcases (in_cons _ _ _).1 ((h y.f1).2 ((in_cons _ _ _).2 (.inl ⟨by omega, q⟩))) with p | p
      · omega
      · have := Canon.low h3 p; omega
    have b2 : ¬ z.f1 < y.f1 := fun q => by
      rcases (in_cons _ _ _).1 ((h z.f1).1 ((in_cons _ _ _).2 (.inl ⟨by omega, q⟩))) with p | p
      · omega
      · have := Canon.low g3 p; omega
    have e0 : y.f0 = z.f0 := by omega
    have e1 : y.f1 = z.f1 := by omega
    have e : y = z := by
      cases y; cases z; simp only at e0 e1; subst e0 e1; rfl
    subst e
    rw [Canon.ext h3 g3 (fun x => ?_)]
    constructor
    · intro q
      have := Canon.low h3 q
      rcases (in_cons _ _ _).1 ((h x).1 ((in_cons _ _ _).2 (.inr q))) with p | p
      · omega
      · exact p
    · intro q
      have := Canon.low g3 q
      rcases (in_cons _ _ _).1 ((h x).2 ((in_cons _ _ _).2 (.inr q))) with p | p
      · omega
      · exact p
theorem Canon.none {lo : Int} {L : List S67} (h : Canon lo L) (he : ∀ x, ¬ In x L) : L = [] := Canon.ext (M := []) (lo' := 0) h trivial fun x => ⟨fun q => absurd q (he x), fun q => absurd q (in_nil x)⟩
/-! ### Add -/
def addG : List S67 → Bool → Int → Int → List S67
  | [], put, a, b => if put = true then [] else [⟨a, b⟩]
  | y :: l, put, a, b => if y.f1 < a then y :: addG l put a b else if y.f0 > b then (if put = true then y :: addG l put a b else ⟨a, b⟩ :: y :: addG l true a b) else addG l put (min a y.f0) (max b y.f1)
theorem addG_done {a b : Int} (hab : a < b) : ∀ {lo : Int} {L : List S67}, Canon lo L → b ≤ lo → addG L true a b = L
  | _, [], _, _ => rfl
  | lo, y :: l, ⟨h1, h2, h3⟩, h => by
    rw [addG, if_neg (by omega), if_pos (by omega), if_pos rfl, addG_done hab h3 (by omega)]
theorem addG_facts : ∀ (L : List S67) (lo a b : Int), Canon lo L → lo < a → a < b → Canon lo (addG L false a b) ∧ (∀ x, In x (addG L false a b) ↔ In x L ∨ (a ≤ x ∧ x < b)) ∧ (addG L false a b).length ≤ L.length + 1
  | [], lo, a, b, _, h1, h2 => by
    rw [addG, if_neg (by decide)]
    exact ⟨⟨h1, h2, trivial⟩, fun x => by rw [in_cons]; constructor <;> rintro (h | h) <;> first | exact .inr h | exact absurd h (in_nil x) | exact .inl h, by simp⟩
  | y :: l, lo, a, b, ⟨h1, h2, h3⟩, ha, hab => by
    rw [addG]
    by_cases c1 : y.f1 < a
    · obtain ⟨i1, i2, i3⟩ := addG_facts l y.f1 a b h3 c1 hab
      rw [if_pos c1]
      refine ⟨⟨h1, h2, i1⟩, fun x => ?_, by simpa using i3⟩
      rw [in_cons, i2, in_cons, or_assoc]
    · rw [if_neg c1]
      by_cases c2 : y.f0 > b
      · rw [if_pos c2, if_neg (by decide), addG_done hab h3 (by omega)]
        refine ⟨⟨ha, hab, by show b < y.f0; omega, h2, h3⟩, fun x => ?_, by simp⟩
        rw [in_cons, or_comm]
      · rw [if_neg c2]
        obtain ⟨i1, i2, i3⟩ := addG_facts l lo (min a y.f0) (max b y.f1) (h3.weak (by omega)) (by omega) (by omega)
        refine ⟨i1, fun x => ?_, by simp only [List.length_cons]; omega⟩
        rw [i2, in_cons]
        constructor
        · rintro (h | h)
          · exact .inl (.inr h)
          · by_cases q : y.f0 ≤ x ∧ x < y.f1
            · exact .inl (.inl q)
            · exact .inr (by omega)
        · rintro ((h | h) | h)
          · exact .inr (by omega)
          · exact .inl h
          · exact .inr (by omega)
/-! ### Cut -/
def keepR (a b : Int) : List S67 := if a < b then [⟨a, b⟩] else []
def cutG : List S67 → Int → Int → List S67
  | [], _, _ => []
  | y :: l, a, b => keepR y.f0 (min y.f1 a) ++ (keepR (max y.f0 b) y.f1 ++ cutG l a b)
theorem in_keep (x a b : Int) : In x (keepR a b) ↔ a ≤ x ∧ x < b := by
  unfold keepR
  by_cases c : a < b
  · rw [if_pos c, in_cons]
    constructor
    · rintro (h | h)
      · exact h
      · exact absurd h (in_nil x)
    · exact .inl
  · rw [if_neg c]
    constructor
    · intro h; exact absurd h (in_nil x)
    · omega
theorem canon_keep {lo a b : Int} {L : List S67} (h : lo < a) (h1 : Canon (if a < b then b else lo) L) : Canon lo (keepR a b ++ L) := by
  unfold keepR
  by_cases c : a < b
  · rw [if_pos c] at h1 ⊢
    exact ⟨h, c, h1⟩
  · rw [if_neg c] at h1 ⊢
    exact h1
theorem cutG_done {a b : Int} (hab : a ≤ b) : ∀ {lo : Int} {L : List S67}, Canon lo L → b ≤ lo → cutG L a b = L
  | _, [], _, _ => rfl
  | lo, y :: l, ⟨h1, h2, h3⟩, h => by
    rw [cutG, cutG_done hab h3 (by omega)]
    unfold keepR
    rw [if_neg (by omega), show max y.f0 b = y.f0 by omega, if_pos h2]
    rfl
theorem cutG_facts : ∀ (L : List S67) (lo a b : Int), Canon lo L → a < b → Canon lo (cutG L a b) ∧ (∀ x, In x (cutG L a b) ↔ In x L ∧ ¬ (a ≤ x ∧ x < b)) ∧ (cutG L a b).length ≤ L.length + 1
  | [], lo, a, b, _, _ => ⟨trivial, fun x => ⟨fun h => absurd h (in_nil x), fun h => absurd h.1 (in_nil x)⟩, by simp [cutG]⟩
  | y :: l, lo, a, b, ⟨h1, h2, h3⟩, hab => by
    obtain ⟨i1, i2, i3⟩ := cutG_facts l y.f1 a b h3 hab
    refine ⟨?_, fun x => ?_, ?_⟩
    · rw [cutG]
      refine canon_keep h1 (canon_keep ?_ ?_)
      · split <;> omega
      · have : Canon y.f1 (cutG l a b) := i1
        split
        · exact this
        · refine this.weak ?_
          split <;> omega
    · rw [cutG, in_app, in_app, in_keep, in_keep, i2, in_cons]
      constructor
      · rintro (h | h | h)
        · exact ⟨.inl (by omega), by omega⟩
        · exact ⟨.inl (by omega), by omega⟩
        · exact ⟨.inr h.1, h.2⟩
      · rintro ⟨h | h, g⟩
        · by_cases q : x < a
          · exact .inl (by omega)
          · exact .inr (.inl (by omega))
        · exact .inr (.inr ⟨h, g⟩)
    · rw [cutG, List.length_append, List.length_append, List.length_cons]
      have k1 : (keepR y.f0 (min y.f1 a)).length ≤ 1 := by unfold keepR; split <;> simp
      have k2 : (keepR (max y.f0 b) y.f1).length ≤ 1 := by unfold keepR; split <;> simp
      by_cases c : b < y.f1
      · rw [cutG_done (Int.le_of_lt hab) h3 (by omega)]
        omega
      · have : (keepR (max y.f0 b) y.f1).length = 0 := by unfold keepR; rw [if_neg (by omega)]; rfl
        omega
/-! ### Gaps -/
def gapsG : List S67 → Int → Int → List S67
  | [], at_, b => keepR at_ b
  | y :: l, at_, b => if y.f1 ≤ at_ then gapsG l at_ b else if y.f0 ≥ b then keepR at_ b else if y.f0 > at_ then ⟨at_, y.f0⟩ :: gapsG l y.f1 b else gapsG l y.f1 b
theorem gapsG_facts : ∀ (L : List S67) (lo at_ b : Int), Canon lo L → Canon (at_ - 1) (gapsG L at_ b) ∧ (∀ x, In x (gapsG L at_ b) ↔ (at_ ≤ x ∧ x < b) ∧ ¬ In x L) ∧ (gapsG L at_ b).length ≤ L.length + 1
  | [], lo, at_, b, _ => by
    refine ⟨?_, fun x => ?_, ?_⟩
    · rw [gapsG, ← List.append_nil (keepR at_ b)]
      exact canon_keep (by omega) trivial
    · rw [gapsG, in_keep]
      exact ⟨fun h => ⟨h, in_nil x⟩, fun h => h.1⟩
    · rw [gapsG]; unfold keepR; split <;> simp
  | y :: l, lo, at_, b, ⟨h1, h2, h3⟩ => by
    rw [gapsG]
    by_cases c1 : y.f1 ≤ at_
    · obtain ⟨i1, i2, i3⟩ := gapsG_facts l y.f1 at_ b h3
      rw [if_pos c1]
      refine ⟨i1, fun x => ?_, by simp only [List.length_cons]; omega⟩
      rw [i2, in_cons]
      constructor
      · rintro ⟨h, g⟩
        exact ⟨h, fun q => q.elim (fun q => by omega) g⟩
      · rintro ⟨h, g⟩
        exact ⟨h, fun q => g (.inr q)⟩
    · rw [if_neg c1]
      by_cases c2 : y.f0 ≥ b
      · rw [if_pos c2]
        refine ⟨?_, fun x => ?_, ?_⟩
        · rw [← List.append_nil (keepR at_ b)]
          exact canon_keep (by omega) trivial
        · rw [in_keep]
          constructor
          · intro h
            refine ⟨h, fun q => ?_⟩
            rcases (in_cons _ _ _).1 q with q | q
            · omega
            · have := Canon.low h3 q; omega
          · exact fun h => h.1
        · unfold keepR; split <;> simp
      · rw [if_neg c2]
        obtain ⟨i1, i2, i3⟩ := gapsG_facts l y.f1 y.f1 b h3
        by_cases c3 : y.f0 > at_
        · rw [if_pos c3]
          refine ⟨⟨by show at_ - 1 < at_; omega, c3, i1.weak (by show y.f0 ≤ y.f1 - 1; omega)⟩, fun x => ?_, by simp only [List.length_cons]; omega⟩
          rw [in_cons, i2, in_cons]
          show (at_ ≤ x ∧ x < y.f0) ∨ _ ↔ _
          constructor
          · rintro (h | ⟨h, g⟩)
            · refine ⟨by omega, fun q => ?_⟩
              rcases q with q | q
              · omega
              · have := Canon.low h3 q; omega
            · exact ⟨by omega, fun q => q.elim (fun q => by omega) g⟩
          · rintro ⟨h, g⟩
            by_cases q : x < y.f0
            · exact .inl ⟨h.1, q⟩
            · refine .inr ⟨⟨?_, h.2⟩, fun q => g (.inr q)⟩
              by_cases p : x < y.f1
              · exact absurd (.inl ⟨by omega, p⟩) g
              · omega
        · rw [if_neg c3]
          refine ⟨i1.weak (by omega), fun x => ?_, by simp only [List.length_cons]; omega⟩
          rw [i2, in_cons]
          constructor
          · rintro ⟨h, g⟩
            exact ⟨by omega, fun q => q.elim (fun q => by omega) g⟩
          · rintro ⟨h, g⟩
            refine ⟨⟨?_, h.2⟩, fun q => g (.inr q)⟩
            by_cases p : x < y.f1
            · exact absurd (.inl ⟨by omega, p⟩) g
            · omega
/-! ### Total -/
def totL : List S67 → Int
  | [] => 0
  | y :: l => (y.f1 - y.f0) + totL l
theorem totL_app : ∀ l m : List S67, totL (l ++ m) = totL l + totL m
  | [], m => by simp [totL]
  | y :: l, m => by
    show y.f1 - y.f0 + totL (l ++ m) = y.f1 - y.f0 + totL l + totL m
    rw [totL_app l m]
    omega
theorem totL_bound : ∀ {lo : Int} {L : List S67} (M : Int), Canon lo L → (∀ y ∈ L, y.f1 ≤ M) → lo + 1 ≤ M → 0 ≤ totL L ∧ totL L ≤ M - (lo + 1)
  | lo, [], M, _, _, h => ⟨Int.le_refl _, by show 0 ≤ _; omega⟩
  | lo, y :: l, M, ⟨h1, h2, h3⟩, h, _ => by
    have hy := h y List.mem_cons_self
    show 0 ≤ y.f1 - y.f0 + totL l ∧ y.f1 - y.f0 + totL l ≤ _
    cases l with
    | nil => show 0 ≤ y.f1 - y.f0 + 0 ∧ y.f1 - y.f0 + 0 ≤ _; omega
    | cons z l =>
      have hz := h z (by simp)
      have := totL_bound M h3 (fun q hq => h q (List.mem_cons_of_mem _ hq)) (by have := h3.1; have := h3.2.1; omega)
      omega
/-- A range put into a set that it does not meet: so many places more. -/
theorem totL_add : ∀ (L : List S67) (lo a b : Int), Canon lo L → lo < a → a < b → (∀ x, a ≤ x → x < b → ¬ In x L) → totL (addG L false a b) = totL L + (b - a)
  | [], lo, a, b, _, _, _, _ => by
    rw [addG, if_neg (by decide)]
    show b - a + 0 = 0 + (b - a)
    omega
  | y :: l, lo, a, b, ⟨h1, h2, h3⟩, ha, hab, hd => by
    rw [addG]
    have hl : ∀ x, a ≤ x → x < b → ¬ In x l := fun x p q r => hd x p q ((in_cons _ _ _).2 (.inr r))
    have hy : ∀ x, a ≤ x → x < b → ¬ (y.f0 ≤ x ∧ x < y.f1) := fun x p q r => hd x p q ((in_cons _ _ _).2 (.inl r))
    by_cases c1 : y.f1 < a
    · rw [if_pos c1]
      show y.f1 - y.f0 + totL (addG l false a b) = y.f1 - y.f0 + totL l + (b - a)
      rw [totL_add l y.f1 a b h3 c1 hab hl]
      omega
    · rw [if_neg c1]
      by_cases c2 : y.f0 > b
      · rw [if_pos c2, if_neg (by decide), addG_done hab h3 (by omega)]
        show b - a + (y.f1 - y.f0 + totL l) = y.f1 - y.f0 + totL l + (b - a)
        omega
      · rw [if_neg c2]
        have ht : y.f1 = a ∨ y.f0 = b := by
          by_cases q1 : y.f1 = a
          · exact .inl q1
          · by_cases q2 : y.f0 = b
            · exact .inr q2
            · exact absurd ⟨by omega, by omega⟩ (hy (max a y.f0) (by omega) (by omega))
        rw [totL_add l lo (min a y.f0) (max b y.f1) (h3.weak (by omega)) (by omega) (by omega) (fun x p q r => by
          have := Canon.low h3 r
          exact hl x (by omega) (by omega) r)]
        show totL l + (max b y.f1 - min a y.f0) = y.f1 - y.f0 + totL l + (b - a)
        rcases ht with q | q <;> omega
end Go.Proofs.Ytanbicpkdkcpbaa.Rng
