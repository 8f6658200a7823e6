/- SizesSet, plain: what the walk comes to. -/
import Derived.Test.YtanbicpkdkcpbaaGq
namespace Go.Proofs.Ytanbicpkdkcpbaa.Rng
open Go.RowKit Go.Proofs.Ytanbicpkdkcpbaa.RSizesRanges Go.Proofs.YtanbicpkdkcpbaaW.PrintWords Go.Proofs.YtanbicpkdkcpbaaW.PrintLast Go.Proofs.YtanbicpkdkcpbaaW.PrintMore
set_option linter.unusedVariables false
set_option linter.unusedSimpArgs false
structure Fine (L : List S67) (n : Nat) : Prop where
  canon : Canon (-1) L
  len : L.length ≤ n
theorem Fine.mono {L : List S67} {n m : Nat} (h : Fine L n) (hm : n ≤ m) : Fine L m := ⟨h.canon, by have := h.len; omega⟩
theorem canB_iff (a b : Int) : canB a b = true ↔ 0 ≤ a ∧ a ≤ b := by unfold canB; exact decide_eq_true_iff
theorem addR_facts {L : List S67} {n : Nat} (h : Fine L n) (hn : n < 65536) (a b : Int) : Fine (addR L a b).1 (n + 1) ∧ (∀ x, In x (addR L a b).1 ↔ In x L ∨ (canB a b = true ∧ a ≤ x ∧ x < b)) ∧ (canB a b = true → (addR L a b).2 = 0) := by
  unfold addR
  by_cases c : canB a b = true
  · rw [if_pos c]
    have hc := (canB_iff a b).1 c
    by_cases e : a = b
    · rw [if_pos e]
      refine ⟨h.mono (by omega), fun x => ⟨.inl, fun q => ?_⟩, fun _ => rfl⟩
      rcases q with q | q
      · exact q
      · omega
    · rw [if_neg e]
      obtain ⟨f1, f2, f3⟩ := addG_facts L (-1) a b h.canon (by omega) (by omega)
      have := h.len
      rw [if_neg (by omega)]
      refine ⟨⟨f1, by show (addG L false a b).length ≤ n + 1; omega⟩, fun x => ?_, fun _ => rfl⟩
      rw [f2]
      exact ⟨fun q => q.elim .inl (fun q => .inr ⟨c, q⟩), fun q => q.elim .inl (fun q => .inr q.2)⟩
  · rw [if_neg c]
    exact ⟨h.mono (by omega), fun x => ⟨.inl, fun q => q.elim id (fun q => absurd q.1 c)⟩, fun q => absurd q c⟩
theorem cutR_facts {L : List S67} {n : Nat} (h : Fine L n) (hn : n < 65536) (a b : Int) : Fine (cutR L a b).1 (n + 1) ∧ (∀ x, In x (cutR L a b).1 ↔ In x L ∧ ¬ (canB a b = true ∧ a ≤ x ∧ x < b)) := by
  unfold cutR
  by_cases c : canB a b = true
  · rw [if_pos c]
    have hc := (canB_iff a b).1 c
    by_cases e : a = b
    · rw [if_pos e]
      exact ⟨h.mono (by omega), fun x => ⟨fun q => ⟨q, by omega⟩, fun q => q.1⟩⟩
    · rw [if_neg e]
      obtain ⟨f1, f2, f3⟩ := cutG_facts L (-1) a b h.canon (by omega)
      have := h.len
      rw [if_neg (by omega)]
      refine ⟨⟨f1, by show (cutG L a b).length ≤ n + 1; omega⟩, fun x => ?_⟩
      rw [f2]
      exact ⟨fun q => ⟨q.1, fun p => q.2 p.2⟩, fun q => ⟨q.1, fun p => q.2 ⟨c, p⟩⟩⟩
  · rw [if_neg c]
    exact ⟨h.mono (by omega), fun x => ⟨fun q => ⟨q, fun p => c p.1⟩, fun q => q.1⟩⟩
def addN (L xs : List S67) : List S67 := xs.foldl (fun L x => (addR L x.f0 x.f1).1) L
def cutN (L xs : List S67) : List S67 := xs.foldl (fun L x => (cutR L x.f0 x.f1).1) L
theorem addN_snoc (L xs : List S67) (x : S67) : addN L (xs ++ [x]) = (addR (addN L xs) x.f0 x.f1).1 := by unfold addN; rw [List.foldl_append]; rfl
theorem cutN_snoc (L xs : List S67) (x : S67) : cutN L (xs ++ [x]) = (cutR (cutN L xs) x.f0 x.f1).1 := by unfold cutN; rw [List.foldl_append]; rfl
theorem take_rd (L : List S67) (i : Nat) (h : i < L.length) : L.take (i + 1) = L.take i ++ [rd_T67 L (i : Int)] := by
  rw [List.take_succ_eq_append_getElem h]
  unfold rd_T67
  rw [Int.toNat_natCast, List.getD_eq_getElem?_getD, List.getElem?_eq_getElem h, Option.getD_some]
theorem addN_take (L xs : List S67) (i : Nat) (h : i < xs.length) : addN L (xs.take (i + 1)) = (addR (addN L (xs.take i)) (rd_T67 xs (i : Int)).f0 (rd_T67 xs (i : Int)).f1).1 := by rw [take_rd xs i h, addN_snoc]
theorem cutN_take (L xs : List S67) (i : Nat) (h : i < xs.length) : cutN L (xs.take (i + 1)) = (cutR (cutN L (xs.take i)) (rd_T67 xs (i : Int)).f0 (rd_T67 xs (i : Int)).f1).1 := by rw [take_rd xs i h, cutN_snoc]
/-- A place is in one of the ranges that can be. -/
def InC (x : Int) (xs : List S67) : Prop := ∃ y, y ∈ xs ∧ canB y.f0 y.f1 = true ∧ y.f0 ≤ x ∧ x < y.f1
theorem inc_cons (x : Int) (y : S67) (l : List S67) : InC x (y :: l) ↔ (canB y.f0 y.f1 = true ∧ y.f0 ≤ x ∧ x < y.f1) ∨ InC x l := by
  constructor
  · rintro ⟨z, hz, h⟩
    rcases List.mem_cons.1 hz with rfl | hz
    · exact .inl h
    · exact .inr ⟨z, hz, h⟩
  · rintro (h | ⟨z, hz, h⟩)
    · exact ⟨y, List.mem_cons_self, h⟩
    · exact ⟨z, List.mem_cons_of_mem _ hz, h⟩
theorem addN_facts : ∀ (xs : List S67) {L : List S67} {n : Nat}, Fine L n → n + xs.length ≤ 65536 → Fine (addN L xs) (n + xs.length) ∧ ∀ x, In x (addN L xs) ↔ In x L ∨ InC x xs
  | [], L, n, h, _ => ⟨h, fun x => ⟨.inl, fun q => q.elim id (fun ⟨_, q, _⟩ => by cases q)⟩⟩
  | y :: xs, L, n, h, hn => by
    rw [List.length_cons] at hn
    obtain ⟨f1, f2, _⟩ := addR_facts h (by omega) y.f0 y.f1
    obtain ⟨g1, g2⟩ := addN_facts xs f1 (by omega)
    refine ⟨g1.mono (by rw [List.length_cons]; omega), fun x => ?_⟩
    show In x (addN (addR L y.f0 y.f1).1 xs) ↔ _
    rw [g2, f2, inc_cons, or_assoc]
theorem cutN_facts : ∀ (xs : List S67) {L : List S67} {n : Nat}, Fine L n → n + xs.length ≤ 65536 → Fine (cutN L xs) (n + xs.length) ∧ ∀ x, In x (cutN L xs) ↔ In x L ∧ ¬ InC x xs
  | [], L, n, h, _ => ⟨h, fun x => ⟨fun q => ⟨q, fun ⟨_, q, _⟩ => by cases q⟩, fun q => q.1⟩⟩
  | y :: xs, L, n, h, hn => by
    rw [List.length_cons] at hn
    obtain ⟨f1, f2⟩ := cutR_facts h (by omega) y.f0 y.f1
    obtain ⟨g1, g2⟩ := cutN_facts xs f1 (by omega)
    refine ⟨g1.mono (by rw [List.length_cons]; omega), fun x => ?_⟩
    show In x (cutN (cutR L y.f0 y.f1).1 xs) ↔ _
    rw [g2, f2, inc_cons]
    constructor
    · rintro ⟨⟨p, q⟩, r⟩
      exact ⟨p, fun s => s.elim q r⟩
    · rintro ⟨p, q⟩
      exact ⟨⟨p, fun s => q (.inl s)⟩, fun s => q (.inr s)⟩
theorem fine_nil : Fine [] 0 := ⟨trivial, Nat.le_refl _⟩
theorem inc_take {xs : List S67} {x : Int} {i : Nat} (h : InC x (xs.take i)) : InC x xs := by
  obtain ⟨y, hy, q⟩ := h
  exact ⟨y, List.mem_of_mem_take hy, q⟩
/-- What is put in and cut out again is gone. -/
theorem cut_all (O : List S67) (h : O.length ≤ 1000) : cutN (addN [] O) O = [] := by
  obtain ⟨f1, f2⟩ := addN_facts O fine_nil (by omega)
  obtain ⟨g1, g2⟩ := cutN_facts O f1 (by omega)
  refine g1.canon.none fun x hx => ?_
  have := (g2 x).1 hx
  rcases (f2 x).1 this.1 with q | q
  · exact in_nil x q
  · exact this.2 q
theorem add_rev (T : List S67) (h : T.length ≤ 1000) : addN [] T.reverse = addN [] T := by
  obtain ⟨f1, f2⟩ := addN_facts T fine_nil (by omega)
  obtain ⟨g1, g2⟩ := addN_facts T.reverse fine_nil (by rw [List.length_reverse]; omega)
  refine Canon.ext g1.canon f1.canon fun x => ?_
  rw [f2, g2]
  have : InC x T.reverse ↔ InC x T := by
    constructor
    · rintro ⟨y, hy, q⟩
      exact ⟨y, List.mem_reverse.1 hy, q⟩
    · rintro ⟨y, hy, q⟩
      exact ⟨y, List.mem_reverse.2 hy, q⟩
  rw [this]
/-! ### gaps -/
theorem gapsR_facts {P : List S67} {n : Nat} (h : Fine P n) (a b : Int) (hc : canB a b = true) : Canon (a - 1) (gapsR P a b) ∧ (∀ x, In x (gapsR P a b) ↔ (a ≤ x ∧ x < b) ∧ ¬ In x P) ∧ (gapsR P a b).length ≤ n + 1 := by
  unfold gapsR
  rw [if_pos hc]
  obtain ⟨f1, f2, f3⟩ := gapsG_facts P (-1) a b h.canon
  exact ⟨f1, f2, by have := h.len; omega⟩
theorem gap_one {P : List S67} {n : Nat} (h : Fine P n) (a b : Int) (hc : canB a b = true) (y : S67) (hy : y ∈ gapsR P a b) : y.f0 < y.f1 ∧ a ≤ y.f0 ∧ y.f1 ≤ b ∧ canB y.f0 y.f1 = true ∧ hasR P y.f0 y.f1 = false ∧ (∀ x, y.f0 ≤ x → x < y.f1 → ¬ In x P) := by
  obtain ⟨f1, f2, f3⟩ := gapsR_facts h a b hc
  have hab := (canB_iff a b).1 hc
  have hm := Canon.mem f1 hy
  have hin : ∀ x, y.f0 ≤ x → x < y.f1 → (a ≤ x ∧ x < b) ∧ ¬ In x P := fun x p q => (f2 x).1 ⟨y, hy, p, q⟩
  have hb := hin (y.f1 - 1) (by omega) (by omega)
  have hcy : canB y.f0 y.f1 = true := (canB_iff _ _).2 ⟨by omega, by omega⟩
  refine ⟨hm.2, by omega, by omega, hcy, ?_, fun x p q => (hin x p q).2⟩
  unfold hasR
  obtain ⟨g1, g2, g3⟩ := gapsR_facts h y.f0 y.f1 hcy
  have hi := (g2 y.f0).2 ⟨⟨Int.le_refl _, hm.2⟩, (hin y.f0 (Int.le_refl _) hm.2).2⟩
  have : (gapsR P y.f0 y.f1).length ≠ 0 := fun e => by
    rw [List.eq_nil_of_length_eq_zero e] at hi
    exact in_nil _ hi
  rw [decide_eq_false this, Bool.and_false]
theorem inc_gaps {G : List S67} (h : ∀ y ∈ G, canB y.f0 y.f1 = true) (x : Int) : InC x G ↔ In x G :=
  ⟨fun ⟨y, hy, _, q⟩ => ⟨y, hy, q⟩, fun ⟨y, hy, q⟩ => ⟨y, hy, h y hy, q⟩⟩
theorem has_all {P : List S67} {n : Nat} (h : Fine P n) (hn : n + (n + 1) ≤ 65536) (a b : Int) (hc : canB a b = true) : hasR (addN P (gapsR P a b)) a b = true := by
  obtain ⟨f1, f2, f3⟩ := gapsR_facts h a b hc
  obtain ⟨g1, g2⟩ := addN_facts (gapsR P a b) h (by omega)
  unfold hasR
  rw [hc, Bool.true_and]
  obtain ⟨k1, k2, k3⟩ := gapsR_facts g1 a b hc
  have : gapsR (addN P (gapsR P a b)) a b = [] := k1.none fun x hx => by
    obtain ⟨p, q⟩ := (k2 x).1 hx
    apply q
    rw [g2]
    by_cases r : In x P
    · exact .inl r
    · exact .inr ((inc_gaps (fun y hy => (gap_one h a b hc y hy).2.2.2.1) x).2 ((f2 x).2 ⟨p, r⟩))
  rw [this]
  rfl
theorem tot_gaps : ∀ (G : List S67) {P : List S67} {n : Nat} {lo : Int}, Fine P n → n + G.length ≤ 65536 → -1 ≤ lo → Canon lo G → (∀ y ∈ G, ∀ x, y.f0 ≤ x → x < y.f1 → ¬ In x P) → totL (addN P G) = totL P + totL G
  | [], P, n, lo, _, _, _, _, _ => by show totL P = totL P + 0; omega
  | y :: G, P, n, lo, h, hn, hlo, ⟨h1, h2, h3⟩, hd => by
    rw [List.length_cons] at hn
    have hcy : canB y.f0 y.f1 = true := (canB_iff _ _).2 ⟨by omega, by omega⟩
    obtain ⟨f1, f2, _⟩ := addR_facts h (by omega) y.f0 y.f1
    have e : (addR P y.f0 y.f1).1 = addG P false y.f0 y.f1 := by
      obtain ⟨_, _, k3⟩ := addG_facts P (-1) y.f0 y.f1 h.canon (by omega) h2
      have := h.len
      unfold addR
      rw [if_pos hcy, if_neg (by omega), if_neg (by omega)]
    have ht := totL_add P (-1) y.f0 y.f1 h.canon (by omega) h2 (fun x p q => hd y List.mem_cons_self x p q)
    have := tot_gaps G (lo := y.f1) f1 (by omega) (by omega) h3 (fun z hz x p q r => by
      rcases (f2 x).1 r with r | r
      · exact hd z (List.mem_cons_of_mem _ hz) x p q r
      · have := Canon.mem h3 hz; omega)
    show totL (addN (addR P y.f0 y.f1).1 G) = totL P + (y.f1 - y.f0 + totL G)
    rw [this, e, ht]
    omega
theorem tot_all {P : List S67} {n : Nat} (h : Fine P n) (hn : n + (n + 1) ≤ 65536) (a b : Int) (hc : canB a b = true) : totL (addN P (gapsR P a b)) = totL P + totL (gapsR P a b) := by
  obtain ⟨f1, f2, f3⟩ := gapsR_facts h a b hc
  have := (canB_iff a b).1 hc
  exact tot_gaps (gapsR P a b) h (by omega) (by omega) f1 (fun y hy => (gap_one h a b hc y hy).2.2.2.2.2)
theorem tot_take (G : List S67) (i : Nat) (h : i < G.length) (m : Int) (hm : m = wrap64 (totL (G.take i))) : wrap64 (wrap64 (m + (rd_T67 G (i : Int)).f1) - (rd_T67 G (i : Int)).f0) = wrap64 (totL (G.take (i + 1))) := by
  rw [take_rd G i h, totL_app, hm]
  show _ = wrap64 (totL (G.take i) + ((rd_T67 G (i : Int)).f1 - (rd_T67 G (i : Int)).f0 + 0))
  generalize totL (G.take i) = t
  generalize (rd_T67 G (i : Int)).f1 = u
  generalize (rd_T67 G (i : Int)).f0 = v
  unfold wrap64
  omega
theorem one_set : addR [] 1 3 = ([⟨1, 3⟩], 0) := by
  unfold addR
  rw [if_pos (by decide), if_neg (by decide), if_neg (by decide)]
  rfl
/-- The list put in from its end, at most its first thousand. -/
theorem rev_step (T : List S67) (i : Nat) (h : i < T.length) : addN [] ((T.drop i).reverse) = (addR (addN [] ((T.drop (i + 1)).reverse)) (rd_T67 T (i : Int)).f0 (rd_T67 T (i : Int)).f1).1 := by
  rw [drop_rd T i h, List.reverse_cons, addN_snoc]
end Go.Proofs.Ytanbicpkdkcpbaa.Rng
