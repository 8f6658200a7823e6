/- Contracts and plain facts (texts of mine, and printed ones, made one; what nothing leads to is left out). -/
import Derived.Test.YtnkcbkfccbfjpaaProg
import Derived.Below
import Derived.Deep.Draws
import Derived.Deep.AppendLies
import Derived.Maps.AppendAt
import Derived.OwnWalk
import Derived.Laws.BytesArg
import Derived.Laws.MakeOwn
import Derived.Laws.OwnMore
import Derived.Deep.OwnRows
import Derived.Tactics
import Derived.Lib.ConvBytes
import Derived.Laws.Slices
import Derived.WalkKit
import Derived.KernelRfl
import Derived.RowKit3
import Derived.Deep.LoopGhost
import Derived.Deep.QuietTactic
import Derived.BigQuiet
import Derived.WideLaws
import Derived.Deep.DeepCutAuto
import Derived.Deep.CutBlock
import Derived.Deep.RegionHeld3
import Derived.Laws.Rows
import Derived.Lib.AppendStr
import Derived.ArgAppend
import Derived.Laws.IdiomCopy
import Derived.OrdersHeld
import Derived.Laws.BitsLemmas
import Derived.RowKit
import Derived.Test.YtnkcbkfccbfjpaaQme
/- Types of the walks of Ranges (printed by a program of the kit's). -/
namespace Go.Proofs.Ytnkcbkfccbfjpaa.RSizesRanges
open Go.RowKit Go.Proofs.YtnkcbkfccbfjpaaW.PrintWords Go.Proofs.YtnkcbkfccbfjpaaW.PrintLast Go.Proofs.YtnkcbkfccbfjpaaW.PrintMore
attribute [local go_sem] max2_int min2_int max_two min_two max_three min_three max_four min_four   -- for this text's walks alone
set_option linter.unusedVariables false
set_option linter.unusedSimpArgs false

def errW : Option Int → Value
  | none => .nilIface
  | some c => .iface 0 (.int .i64 c)
theorem errW_none : errW none = .nilIface := rfl
theorem errW_some (c : Int) : errW (some c) = .iface 0 (.int .i64 c) := rfl

theorem info82 : (Try.prog.info? 82).map (fun i => (i.zero, i.size, i.bytes)) = some (some (.agg #[(.int .i64 0), (.int .i64 0)]), 2, 16) := by kernel_rfl
/-! #### struct type 82 -/
structure S82 where
  f0 : Int
  f1 : Int
def z82 : S82 := ⟨(0 : Int), (0 : Int)⟩
def k82 : Kd S82 := Kd.iso (Kd.pair (Kd.int .i64) (Kd.int .i64)) (fun x : S82 => (x.f0, x.f1))
theorem k82_open {w : World} {x : S82} {cs : List Value} (h : k82.K w x cs) : cs = [.int .i64 x.f0, .int .i64 x.f1] := by
  obtain ⟨_, _, rfl, rfl, rfl⟩ := h
  exact rfl
theorem k82_mkM (w : World) (base : Nat) (ok : Nat → Prop) (x : S82)  : k82.M w base ok x [.int .i64 x.f0, .int .i64 x.f1] := ⟨[.int .i64 x.f0], [.int .i64 x.f1], rfl, rfl, rfl⟩
def rd_T82 (xs : List S82) (i : Int) : S82 := xs.getD i.toNat z82
theorem at_T82 {w : World} {A : Option Addr} {n : Nat} {xs : List S82} (h : Kd.C k82 w A n xs) (i : Int) (h0 : 0 ≤ i) (h1 : i < n) : ∃ ad , A = some ad ∧ w.cell? (ad.add (i.toNat * 2)) = some (.int .i64 (rd_T82 xs i).f0) ∧ w.cell? ⟨(ad.add (i.toNat * 2)).block, (ad.add (i.toNat * 2)).off + 1, none⟩ = some (.int .i64 (rd_T82 xs i).f1) := by
  obtain ⟨ad, c, e, _, hK, hc0⟩ := Kd.C_get h z82 i h0 h1
  have hc : ∀ j u, c[j]? = some u → w.cell? (ad.add (i.toNat * 2 + j)) = some u := hc0
  obtain rfl := k82_open hK
  exact ⟨ad, e, hc 0 _ rfl, by rw [← add_field _ _ 1 (by omega)]; exact hc 1 _ rfl⟩

end Go.Proofs.Ytnkcbkfccbfjpaa.RSizesRanges
/- Sets of ranges, plain: canonical lists, what is in them, Add, Cut, Gaps and Total over lists. -/
namespace Go.Proofs.Ytnkcbkfccbfjpaa.Rng
open Go.Proofs.Ytnkcbkfccbfjpaa.RSizesRanges
set_option linter.unusedVariables false
set_option linter.unusedSimpArgs false
/-- Ranges that are not empty and do not touch, rising; all above lo. -/
def Canon : Int → List S82 → Prop
  | _, [] => True
  | lo, y :: l => lo < y.f0 ∧ y.f0 < y.f1 ∧ Canon y.f1 l
/-- A place is in a list of ranges. -/
def In (x : Int) (L : List S82) : Prop := ∃ y, y ∈ L ∧ y.f0 ≤ x ∧ x < y.f1
theorem in_nil (x : Int) : ¬ In x [] := fun ⟨_, h, _⟩ => by cases h
theorem in_cons (x : Int) (y : S82) (l : List S82) : In x (y :: l) ↔ (y.f0 ≤ x ∧ x < y.f1) ∨ In x l := by
  constructor
  · rintro ⟨z, hz, h⟩
    rcases List.mem_cons.1 hz with rfl | hz
    · exact .inl h
    · exact .inr ⟨z, hz, h⟩
  · rintro (h | ⟨z, hz, h⟩)
    · exact ⟨y, List.mem_cons_self, h⟩
    · exact ⟨z, List.mem_cons_of_mem _ hz, h⟩
theorem Canon.weak {lo lo' : Int} (h : lo' ≤ lo) : ∀ {L : List S82}, Canon lo L → Canon lo' L
  | [], _ => trivial
  | y :: l, ⟨h1, h2, h3⟩ => ⟨by omega, h2, h3⟩
theorem Canon.low : ∀ {lo : Int} {L : List S82} {x : Int}, Canon lo L → In x L → lo < x
  | lo, [], x, _, h => absurd h (in_nil x)
  | lo, y :: l, x, ⟨h1, h2, h3⟩, h => by
    rcases (in_cons x y l).1 h with h | h
    · omega
    · have := Canon.low h3 h; omega
theorem Canon.mem : ∀ {lo : Int} {L : List S82} {y : S82}, Canon lo L → y ∈ L → lo < y.f0 ∧ y.f0 < y.f1
  | lo, [], y, _, h => by cases h
  | lo, z :: l, y, ⟨h1, h2, h3⟩, h => by
    rcases List.mem_cons.1 h with rfl | h
    · exact ⟨h1, h2⟩
    · have := Canon.mem h3 h; omega
/-! ### Add -/
def addG : List S82 → Bool → Int → Int → List S82
  | [], put, a, b => if put = true then [] else [⟨a, b⟩]
  | y :: l, put, a, b => if y.f1 < a then y :: addG l put a b else if y.f0 > b then (if put = true then y :: addG l put a b else ⟨a, b⟩ :: y :: addG l true a b) else addG l put (min a y.f0) (max b y.f1)
theorem addG_done {a b : Int} (hab : a < b) : ∀ {lo : Int} {L : List S82}, Canon lo L → b ≤ lo → addG L true a b = L
  | _, [], _, _ => rfl
  | lo, y :: l, ⟨h1, h2, h3⟩, h => by
    rw [addG, if_neg (by omega), if_pos (by omega), if_pos rfl, addG_done hab h3 (by omega)]
theorem addG_facts : ∀ (L : List S82) (lo a b : Int), Canon lo L → lo < a → a < b → Canon lo (addG L false a b) ∧ (∀ x, In x (addG L false a b) ↔ In x L ∨ (a ≤ x ∧ x < b)) ∧ (addG L false a b).length ≤ L.length + 1
  | [], lo, a, b, _, h1, h2 => by
    rw [addG, if_neg (by decide)]
    exact ⟨⟨h1, h2, trivial⟩, fun x => by rw [in_cons]; constructor <;> rintro (h | h) <;> first | exact .inr h | exact absurd h (in_nil x) | exact .inl h, by simp⟩
  | y :: l, lo, a, b, ⟨h1, h2, h3⟩, ha, hab => by
    rw [addG]
    by_cases c1 : y.f1 < a
    · obtain ⟨i1, i2, i3⟩ := addG_facts l y.f1 a b h3 c1 hab
      rw [if_pos c1]
      refine ⟨⟨h1, h2, i1⟩, fun x => ?_, by simpa using i3⟩
      rw [in_cons, i2, in_cons, or_assoc]
    · rw [if_neg c1]
      by_cases c2 : y.f0 > b
      · rw [if_pos c2, if_neg (by decide), addG_done hab h3 (by omega)]
        refine ⟨⟨ha, hab, by show b < y.f0; omega, h2, h3⟩, fun x => ?_, by simp⟩
        rw [in_cons, or_comm]
      · rw [if_neg c2]
        obtain ⟨i1, i2, i3⟩ := addG_facts l lo (min a y.f0) (max b y.f1) (h3.weak (by omega)) (by omega) (by omega)
        refine ⟨i1, fun x => ?_, by simp only [List.length_cons]; omega⟩
        rw [i2, in_cons]
        constructor
        · rintro (h | h)
          · exact .inl (.inr h)
          · by_cases q : y.f0 ≤ x ∧ x < y.f1
            · exact .inl (.inl q)
            · exact .inr (by omega)
        · rintro ((h | h) | h)
          · exact .inr (by omega)
          · exact .inl h
          · exact .inr (by omega)
/-! ### Cut -/
def keepR (a b : Int) : List S82 := if a < b then [⟨a, b⟩] else []
def cutG : List S82 → Int → Int → List S82
  | [], _, _ => []
  | y :: l, a, b => keepR y.f0 (min y.f1 a) ++ (keepR (max y.f0 b) y.f1 ++ cutG l a b)
theorem in_keep (x a b : Int) : In x (keepR a b) ↔ a ≤ x ∧ x < b := by
  unfold keepR
  by_cases c : a < b
  · rw [if_pos c, in_cons]
    constructor
    · rintro (h | h)
      · exact h
      · exact absurd h (in_nil x)
    · exact .inl
  · rw [if_neg c]
    constructor
    · intro h; exact absurd h (in_nil x)
    · omega
theorem canon_keep {lo a b : Int} {L : List S82} (h : lo < a) (h1 : Canon (if a < b then b else lo) L) : Canon lo (keepR a b ++ L) := by
  unfold keepR
  by_cases c : a < b
  · rw [if_pos c] at h1 ⊢
    exact ⟨h, c, h1⟩
  · rw [if_neg c] at h1 ⊢
    exact h1
/-! ### Gaps -/
def gapsG : List S82 → Int → Int → List S82
  | [], at_, b => keepR at_ b
  | y :: l, at_, b => if y.f1 ≤ at_ then gapsG l at_ b else if y.f0 ≥ b then keepR at_ b else if y.f0 > at_ then ⟨at_, y.f0⟩ :: gapsG l y.f1 b else gapsG l y.f1 b
theorem gapsG_facts : ∀ (L : List S82) (lo at_ b : Int), Canon lo L → Canon (at_ - 1) (gapsG L at_ b) ∧ (∀ x, In x (gapsG L at_ b) ↔ (at_ ≤ x ∧ x < b) ∧ ¬ In x L) ∧ (gapsG L at_ b).length ≤ L.length + 1
  | [], lo, at_, b, _ => by
    refine ⟨?_, fun x => ?_, ?_⟩
    · rw [gapsG, ← List.append_nil (keepR at_ b)]
      exact canon_keep (by omega) trivial
    · rw [gapsG, in_keep]
      exact ⟨fun h => ⟨h, in_nil x⟩, fun h => h.1⟩
    · rw [gapsG]; unfold keepR; split <;> simp
  | y :: l, lo, at_, b, ⟨h1, h2, h3⟩ => by
    rw [gapsG]
    by_cases c1 : y.f1 ≤ at_
    · obtain ⟨i1, i2, i3⟩ := gapsG_facts l y.f1 at_ b h3
      rw [if_pos c1]
      refine ⟨i1, fun x => ?_, by simp only [List.length_cons]; omega⟩
      rw [i2, in_cons]
      constructor
      · rintro ⟨h, g⟩
        exact ⟨h, fun q => q.elim (fun q => by omega) g⟩
      · rintro ⟨h, g⟩
        exact ⟨h, fun q => g (.inr q)⟩
    · rw [if_neg c1]
      by_cases c2 : y.f0 ≥ b
      · rw [if_pos c2]
        refine ⟨?_, fun x => ?_, ?_⟩
        · rw [← List.append_nil (keepR at_ b)]
          exact canon_keep (by omega) trivial
        · rw [in_keep]
          constructor
          · intro h
            refine ⟨h, fun q => ?_⟩
            rcases (in_cons _ _ _).1 q with q | q
            · omega
            · have := Canon.low h3 q; omega
          · exact fun h => h.1
        · unfold keepR; split <;> simp
      · rw [if_neg c2]
        obtain ⟨i1, i2, i3⟩ := gapsG_facts l y.f1 y.f1 b h3
        by_cases c3 : y.f0 > at_
        · rw [if_pos c3]
          refine ⟨⟨by show at_ - 1 < at_; omega, c3, i1.weak (by show y.f0 ≤ y.f1 - 1; omega)⟩, fun x => ?_, by simp only [List.length_cons]; omega⟩
          rw [in_cons, i2, in_cons]
          show (at_ ≤ x ∧ x < y.f0) ∨ _ ↔ _
          constructor
          · rintro (h | ⟨h, g⟩)
            · refine ⟨by omega, fun q => ?_⟩
              rcases q with q | q
              · omega
              · have := Canon.low h3 q; omega
            · exact ⟨by omega, fun q => q.elim (fun q => by omega) g⟩
          · rintro ⟨h, g⟩
            by_cases q : x < y.f0
            · exact .inl ⟨h.1, q⟩
            · refine .inr ⟨⟨?_, h.2⟩, fun q => g (.inr q)⟩
              by_cases p : x < y.f1
              · exact absurd (.inl ⟨by omega, p⟩) g
              · omega
        · rw [if_neg c3]
          refine ⟨i1.weak (by omega), fun x => ?_, by simp only [List.length_cons]; omega⟩
          rw [i2, in_cons]
          constructor
          · rintro ⟨h, g⟩
            exact ⟨by omega, fun q => q.elim (fun q => by omega) g⟩
          · rintro ⟨h, g⟩
            refine ⟨⟨?_, h.2⟩, fun q => g (.inr q)⟩
            by_cases p : x < y.f1
            · exact absurd (.inl ⟨by omega, p⟩) g
            · omega
/-! ### Total -/
end Go.Proofs.Ytnkcbkfccbfjpaa.Rng
/- change of sizes.Ranges (f48); what Add and Cut leave. -/
namespace Go.Proofs.Ytnkcbkfccbfjpaa.RSizesRanges
open Go.RowKit Go.Proofs.YtnkcbkfccbfjpaaW.PrintWords Go.Proofs.YtnkcbkfccbfjpaaW.PrintLast Go.Proofs.YtnkcbkfccbfjpaaW.PrintMore
attribute [local go_sem] max2_int min2_int max_two min_two max_three min_three max_four min_four   -- for this text's walks alone
set_option linter.unusedVariables false
set_option linter.unusedSimpArgs false
/-- A block of a set of ranges holds this slice. -/
def Holds (w : World) (g : Nat) (v : Value) : Prop := w.heap[g]? = some (.cells #[v] 122 (0, 0))
theorem slice_of_R {w : World} {base : Nat} {ok : Nat → Prop} {v : Value} {xs : List S82} (h : Kd.R k82 82 w base ok v xs) : ∃ (A : Option Addr) (c : Nat), v = .slice A xs.length c ∧ xs.length ≤ c ∧ (65536 < xs.length ∨ xs.length ≤ 65536) := by
  have hd : 65536 < xs.length ∨ xs.length ≤ 65536 := by omega
  obtain ⟨A, c, rfl, hc, _⟩ := Kd.R_reads h
  exact ⟨A, c, rfl, hc, hd⟩
set_option maxHeartbeats 4000000 in
theorem change_long (g : Nat) (A : Option Addr) (n c : Nat) (w : World) (hn : 65536 < n) :
    Calls Try.prog 95 #[.pointer (some ⟨g, 0, none⟩), .slice A n c] w fun e w' => e = .returned (.int .i64 2) ∧ w' = w := by
  have d0 : decide (65536 < (n : Int)) = true := decide_eq_true (by omega)
  clear hn
  go_enter Try.func95, Try.ntmps95
  go_wp2
  go_ret
  exact ⟨rfl, rfl⟩
set_option maxHeartbeats 4000000 in
theorem change_ok (g : Nat) (A : Option Addr) (n c : Nat) (w : World) (v : Value) (hr : Holds w g v) (hn : n ≤ 65536) :
    Calls Try.prog 95 #[.pointer (some ⟨g, 0, none⟩), .slice A n c] w fun e w' => e = .returned (.int .i64 0) ∧ w' = w.setCell ⟨g, 0, none⟩ (.slice A n c) := by
  have d0 : decide (65536 < (n : Int)) = false := decide_eq_false (by omega)
  have hc : w.cell? ⟨g, 0, none⟩ = some v := (blk_cell hr 0).trans rfl
  have hz := blk_frozen hr 0
  clear hn hr
  go_enter Try.func95, Try.ntmps95
  go_wp2
  go_ret
  exact ⟨rfl, rfl⟩
/-- What Add and Cut leave: r is the list that they would put in (nothing else is told of the list where they change nothing). -/
def AddPost (w : World) (g : Nat) (cn : Bool) (a b : Int) (r : List S82) (e : Ending) (w' : World) : Prop :=
  (cn = false ∧ e = .returned (.int .i64 12) ∧ Below w.heap.size w w') ∨ (cn = true ∧ a = b ∧ e = .returned (.int .i64 0) ∧ Below w.heap.size w w') ∨
  (cn = true ∧ a ≠ b ∧ 65536 < r.length ∧ e = .returned (.int .i64 2) ∧ Below w.heap.size w w') ∨
  (cn = true ∧ a ≠ b ∧ r.length ≤ 65536 ∧ e = .returned (.int .i64 0) ∧ ∃ v w1, Below w.heap.size w w1 ∧ w' = w1.setCell ⟨g, 0, none⟩ v ∧ Kd.R k82 82 w1 w.heap.size (fun _ => True) v r)
end Go.Proofs.Ytnkcbkfccbfjpaa.RSizesRanges
/- can, Total and Gaps of sizes.Ranges (printed by a program of the kit's over a slice, turned to the pointer). -/
namespace Go.Proofs.Ytnkcbkfccbfjpaa.RSizesRanges
open Go.RowKit Go.Proofs.YtnkcbkfccbfjpaaW.PrintWords Go.Proofs.YtnkcbkfccbfjpaaW.PrintLast Go.Proofs.YtnkcbkfccbfjpaaW.PrintMore
attribute [local go_sem] max2_int min2_int max_two min_two max_three min_three max_four min_four   -- for this text's walks alone
set_option linter.unusedVariables false
set_option linter.unusedSimpArgs false

/-! ### sizes_can: function 47 -/
def sizes_can.f (a0_0 : Int) (a0_1 : Int) : Option (Bool) := if a0_0 ≥ 0 then (some (decide (a0_0 ≤ a0_1))) else (some false)
set_option maxHeartbeats 8000000 in
set_option maxRecDepth 100000 in
theorem sizes_can.calls (a0_0 : Int) (a0_1 : Int) (r : Bool) (w : World) (h : sizes_can.f a0_0 a0_1 = some r) :
    Calls Try.prog 94 #[.agg #[.int .i64 a0_0, .int .i64 a0_1]] w fun e w' => e = .returned (.bool r) ∧ Below w.heap.size w w' := by
  have hu67 := Try.underlying82
  have HB := Aside0.mk (Below.refl w.heap.size w)
  have H : (if a0_0 ≥ 0 then (some (decide (a0_0 ≤ a0_1))) else (some false)) = some r := h
  clear h
  by_cases c2 : a0_0 ≥ 0
  · rw [if_pos c2] at H
    have c2b0 : decide (0 ≤ a0_0) = true := decide_eq_true c2
    clear c2
    obtain rfl := Option.some.inj H
    go_enter Try.func94, Try.ntmps94
    go_wp2_with (first | ((with_reducible refine gate_dst (N := 1) rfl ?_); refine box_event ?hg (N := 1) ?hd (cs := #[.int .i64 a0_0, .int .i64 a0_1]) (t := 82) ?hr ?_; (case hd => rfl); (case hg => rfl); (case hr => first | (go_simp; done) | (go_simp; rfl)); intro gb101 hg w3 hbox hb; have n0_ := Aside0.mk (below_step (by repeat (first | (with_reducible first | exact HB.out | apply below_alloc | apply pw_below_drewN | apply below_drew1) | exact HB.out)) hb); have n1_ := Aside0.mk (hbox); have n2_ := Aside0.mk ((by rw [hg]; exact (below_size (by repeat (first | (with_reducible first | exact HB.out | apply below_alloc | apply pw_below_drewN | apply below_drew1) | exact HB.out))) : w.heap.size ≤ gb101)); have n3_ := Aside0.mk ((by rw [hg]; exact (below_size (by repeat (first | (with_reducible first | exact HB.out | apply below_alloc | apply pw_below_drewN | apply below_drew1) | exact HB.out))) : w.heap.size ≤ gb101)); clear HB; have HB := n0_; have BK101 := n1_; have GW101 := n2_; have GE101 := n3_; clear n0_ n1_ n2_ n3_; clear hb hbox hg; have hcz4_0 : w3.cell? ⟨gb101, 0, none⟩ = some (.int .i64 a0_0) := (blk_cell BK101.out 0).trans rfl; have hcz4_1 : w3.cell? ⟨gb101, 1, none⟩ = some (.int .i64 a0_1) := (blk_cell BK101.out 1).trans rfl; have hfz4_0 := blk_frozen BK101.out 0; have hfz4_1 := blk_frozen BK101.out 1))
    go_ret
    exact ⟨by first | rfl | (simp [errW_none, errW_some] <;> rfl) | (simp [*, errW_none, errW_some] <;> rfl), by repeat (first | (with_reducible first | exact HB.out | apply below_alloc | apply pw_below_drewN | apply below_drew1 | refine below_set ?_ GE101.out) | exact HB.out)⟩
  · rw [if_neg c2] at H
    have c2b0 : decide (0 ≤ a0_0) = false := decide_eq_false c2
    clear c2
    obtain rfl := Option.some.inj H
    go_enter Try.func94, Try.ntmps94
    go_wp2_with (first | ((with_reducible refine gate_dst (N := 1) rfl ?_); refine box_event ?hg (N := 1) ?hd (cs := #[.int .i64 a0_0, .int .i64 a0_1]) (t := 82) ?hr ?_; (case hd => rfl); (case hg => rfl); (case hr => first | (go_simp; done) | (go_simp; rfl)); intro gb101 hg w5 hbox hb; have n0_ := Aside0.mk (below_step (by repeat (first | (with_reducible first | exact HB.out | apply below_alloc | apply pw_below_drewN | apply below_drew1) | exact HB.out)) hb); have n1_ := Aside0.mk (hbox); have n2_ := Aside0.mk ((by rw [hg]; exact (below_size (by repeat (first | (with_reducible first | exact HB.out | apply below_alloc | apply pw_below_drewN | apply below_drew1) | exact HB.out))) : w.heap.size ≤ gb101)); have n3_ := Aside0.mk ((by rw [hg]; exact (below_size (by repeat (first | (with_reducible first | exact HB.out | apply below_alloc | apply pw_below_drewN | apply below_drew1) | exact HB.out))) : w.heap.size ≤ gb101)); clear HB; have HB := n0_; have BK101 := n1_; have GW101 := n2_; have GE101 := n3_; clear n0_ n1_ n2_ n3_; clear hb hbox hg; have hcz6_0 : w5.cell? ⟨gb101, 0, none⟩ = some (.int .i64 a0_0) := (blk_cell BK101.out 0).trans rfl; have hcz6_1 : w5.cell? ⟨gb101, 1, none⟩ = some (.int .i64 a0_1) := (blk_cell BK101.out 1).trans rfl; have hfz6_0 := blk_frozen BK101.out 0; have hfz6_1 := blk_frozen BK101.out 1))
    go_ret
    exact ⟨by first | rfl | (simp [errW_none, errW_some] <;> rfl) | (simp [*, errW_none, errW_some] <;> rfl), by repeat (first | (with_reducible first | exact HB.out | apply below_alloc | apply pw_below_drewN | apply below_drew1 | refine below_set ?_ GE101.out) | exact HB.out)⟩

/-! ### sizes_Ranges_Gaps: function 33 -/
def sizes_Ranges_Gaps.l0 : Nat → List (S82) → Int → List (S82) → Int → Int → Int → Int → Option ((List (S82)))
  | 0, _, _, _, _, _, _, _ => none
  | k + 1, x5, x6, x17, x18, x19, x208000, x208001 => if x19 < x18 then (if 0 ≤ x19 then (if x19 < (x17.length : Int) then (if ((rd_T82 x17 x19).f1) ≤ x6 then (sizes_Ranges_Gaps.l0 k x5 x6 x17 x18 (wrap64 (x19 + 1)) x208000 x208001) else (if ((rd_T82 x17 x19).f0) ≥ x208001 then (if x6 < x208001 then (if x5.length < 8796093022208 then (some (x5 ++ [(⟨x6, x208001⟩ : S82)])) else (none)) else (some x5)) else (if ((rd_T82 x17 x19).f0) > x6 then (if x5.length < 8796093022208 then (sizes_Ranges_Gaps.l0 k (x5 ++ [(⟨x6, (rd_T82 x17 x19).f0⟩ : S82)]) ((rd_T82 x17 x19).f1) x17 x18 (wrap64 (x19 + 1)) x208000 x208001) else (none)) else (sizes_Ranges_Gaps.l0 k x5 ((rd_T82 x17 x19).f1) x17 x18 (wrap64 (x19 + 1)) x208000 x208001)))) else (none)) else (none)) else (if x6 < x208001 then (if x5.length < 8796093022208 then (some (x5 ++ [(⟨x6, x208001⟩ : S82)])) else (none)) else (some x5))
def sizes_Ranges_Gaps.f (k : Nat) (l0 : List (S82)) (a1_0 : Int) (a1_1 : Int) : Option ((List (S82))) := (sizes_can.f a1_0 a1_1).bind fun t208 => (if t208 = true then (sizes_Ranges_Gaps.l0 k ([] : List (S82)) a1_0 l0 (l0.length : Int) 0 a1_0 a1_1) else (some ([] : List (S82))))
set_option maxHeartbeats 8000000 in
set_option maxRecDepth 100000 in
theorem sizes_Ranges_Gaps.calls (k : Nat) (gP : Nat) (A0 : Option Addr) (c0 : Nat) (l0 : List (S82)) (a1_0 : Int) (a1_1 : Int) (r : List (S82)) (w : World) (hr0 : Kd.C k82 w A0 l0.length l0) (hc0 : l0.length ≤ c0) (hrow : Holds w gP (.slice A0 l0.length c0)) (h : sizes_Ranges_Gaps.f k l0 a1_0 a1_1 = some r) :
    Calls Try.prog 73 #[.pointer (some ⟨gP, 0, none⟩), .agg #[.int .i64 a1_0, .int .i64 a1_1]] w fun e w' => ∃ v0_ : Value, e = .returned (v0_) ∧ Kd.R k82 82 w' w.heap.size (fun _ => True) v0_ r ∧ Below w.heap.size w w' := by
  have hu67 := Try.underlying82
  have HR0 := Aside0.mk hr0
  have HC0 := Aside0.mk hc0
  clear hr0 hc0
  have HB := Aside0.mk (Below.refl w.heap.size w)
  have HP : Aside0 (Holds w gP (.slice A0 l0.length c0)) := ⟨hrow⟩
  clear hrow
  have H : ((sizes_can.f a1_0 a1_1).bind fun t208 => (if t208 = true then (sizes_Ranges_Gaps.l0 k ([] : List (S82)) a1_0 l0 (l0.length : Int) 0 a1_0 a1_1) else (some ([] : List (S82))))) = some r := h
  clear h
  replace H := Option.bind_eq_some_iff.mp H
  obtain ⟨t208, A30, H⟩ := H
  replace H : (if t208 = true then (sizes_Ranges_Gaps.l0 k ([] : List (S82)) a1_0 l0 (l0.length : Int) 0 a1_0 a1_1) else (some ([] : List (S82)))) = some r := H
  have A3 := Aside0.mk A30
  clear A30
  by_cases c4 : t208 = true
  · subst c4
    have H1 : (sizes_Ranges_Gaps.l0 k ([] : List (S82)) a1_0 l0 (l0.length : Int) 0 a1_0 a1_1) = some r := by rw [if_pos rfl] at H; exact H
    clear H
    have H := H1
    clear H1
    have H' := Aside0.mk H
    clear H
    go_enter Try.func73, Try.ntmps73
    go_wp2_with (first | ((with_reducible refine gate_dst (N := 3) rfl ?_); refine box_event ?hg (N := 3) ?hd (cs := #[.int .i64 a1_0, .int .i64 a1_1]) (t := 82) ?hr ?_; (case hd => rfl); (case hg => rfl); (case hr => first | (go_simp; done) | (go_simp; rfl)); intro gb207 hg w5 hbox hb; have n0_ := Aside0.mk (below_step (by repeat (first | (with_reducible first | exact HB.out | apply below_alloc | apply pw_below_drewN | apply below_drew1) | exact HB.out)) hb); have n1_ := Aside0.mk (hbox); have n2_ := Aside0.mk ((by rw [hg]; exact (below_size (by repeat (first | (with_reducible first | exact HB.out | apply below_alloc | apply pw_below_drewN | apply below_drew1) | exact HB.out))) : w.heap.size ≤ gb207)); have n3_ := Aside0.mk ((by rw [hg]; exact (below_size (by repeat (first | (with_reducible first | exact HB.out | apply below_alloc | apply pw_below_drewN | apply below_drew1) | exact HB.out))) : w.heap.size ≤ gb207)); clear HB; have HB := n0_; have BK207 := n1_; have GW207 := n2_; have GE207 := n3_; clear n0_ n1_ n2_ n3_; clear hb hbox hg; have hcz6_0 : w5.cell? ⟨gb207, 0, none⟩ = some (.int .i64 a1_0) := (blk_cell BK207.out 0).trans rfl; have hcz6_1 : w5.cell? ⟨gb207, 1, none⟩ = some (.int .i64 a1_1) := (blk_cell BK207.out 1).trans rfl; have hfz6_0 := blk_frozen BK207.out 0; have hfz6_1 := blk_frozen BK207.out 1) | ((with_reducible refine gate_callee (f := 94) rfl ?_); refine goesL_ (some 10) rfl rfl Try.func94 (by kernel_rfl) rfl #[.agg #[.int .i64 a1_0, .int .i64 a1_1]] rfl (by (try simp only [List.map_toArray, List.map_cons, List.map_nil]); first | done | rfl | (simp only [List.length_drop, List.length_take]; rfl)) ?_; (with_reducible refine (sizes_can.calls a1_0 a1_1 true _ A3.out).mono ?_); rintro e w7 ⟨rfl, hb⟩; refine ⟨_, rfl, ?_⟩; have n0_ := Aside0.mk (blk_below (g := gb207) (o := .cells #[.int .i64 a1_0, .int .i64 a1_1] 82 (0, 0)) (by (with_reducible repeat (first | refine blk_drewN ?_ _ | refine blk_drew ?_ | refine blk_alloc ?_ _)); exact BK207.out) hb); have n1_ := Aside0.mk (below_step (by repeat (first | (with_reducible first | exact HB.out | apply below_alloc | apply pw_below_drewN | apply below_drew1 | refine below_set ?_ GE207.out) | exact HB.out)) hb); clear BK207; clear HB; have BK207 := n0_; have HB := n1_; clear n0_ n1_; (try clear hb); (try clear hb2); (try clear hk); (try clear hi); have hcp : w7.cell? ⟨gP, 0, none⟩ = some (.slice A0 l0.length c0) := (blk_cell (blk_below HP.out HB.out) 0).trans rfl; have hcz8_0 : w7.cell? ⟨gb207, 0, none⟩ = some (.int .i64 a1_0) := (blk_cell BK207.out 0).trans rfl; have hcz8_1 : w7.cell? ⟨gb207, 1, none⟩ = some (.int .i64 a1_1) := (blk_cell BK207.out 1).trans rfl; have hfz8_0 := blk_frozen BK207.out 0; have hfz8_1 := blk_frozen BK207.out 1))
    go_loopg [5, 6, 19] k (fun kq v5 v6 v19 w' => ∃ (x5_1 : List (S82)) (x6_1 : Int) (x19_1 : Int), v6 = .int .i64 x6_1 ∧ v19 = .int .i64 x19_1 ∧ Aside0 (sizes_Ranges_Gaps.l0 kq x5_1 x6_1 l0 (l0.length : Int) x19_1 a1_0 a1_1 = some r) ∧ Aside0 (kq ≤ k) ∧ Aside0 (Kd.R k82 82 w' w.heap.size (fun k_ => k_ ≠ gb207) v5 x5_1) ∧ Aside0 (w'.heap[gb207]? = some (.cells #[.int .i64 a1_0, .int .i64 a1_1] 82 (0, 0))) ∧ Aside0 (Below w.heap.size w w'))
    case atStart => exact ⟨(([] : List (S82))), (a1_0), (0), (by first | rfl | (simp; done) | (simp [*]; done)), (by first | rfl | (simp; done) | (simp [*]; done)), H', ⟨Nat.le_refl _⟩, ⟨by first | exact Kd.R_nil _ _ _ _ _ | exact Kd.N_nil _ _ _ _ _ | exact Kd.V_nil _ _ _ _ _ | exact Kd.Q_nil _ _ _ _ _ | exact Kd.S_nil _ _ _ _ _⟩, ⟨by (with_reducible repeat (first | refine blk_drewN ?_ _ | refine blk_drew ?_ | refine blk_alloc ?_ _)); exact BK207.out⟩, ⟨by repeat (first | (with_reducible first | exact HB.out | apply below_alloc | apply pw_below_drewN | apply below_drew1 | refine below_set ?_ GE207.out) | exact HB.out)⟩⟩
    case round =>
      clear H'
      try clear p2
      try clear c3
      try clear c4
      try clear hcz6_0
      try clear hcz6_1
      try clear hcz8_0
      try clear hcz8_1
      try clear hfz6_0
      try clear hfz6_1
      try clear hfz8_0
      try clear hfz8_1
      obtain ⟨x5_1, x6_1, x19_1, rfl, rfl, HA, HK1, HO_5, BK207, HB⟩ := hrel
      cases gk with
      | zero => exact absurd HA.out (by simp [sizes_Ranges_Gaps.l0])
      | succ k1 =>
        have H := HA.out
        clear HA
        simp only [sizes_Ranges_Gaps.l0] at H
        by_cases c9 : x19_1 < (l0.length : Int)
        · rw [if_pos c9] at H
          have c9b0 : decide (x19_1 < (l0.length : Int)) = true := decide_eq_true c9
          clear c9
          by_cases c10 : 0 ≤ x19_1
          · rw [if_pos c10] at H
            have c10b0 : decide (0 ≤ x19_1) = true := decide_eq_true c10
            clear c10
            by_cases c11 : x19_1 < (l0.length : Int)
            · rw [if_pos c11] at H
              have c11b0 : decide (x19_1 < (l0.length : Int)) = true := decide_eq_true c11
              clear c11
              by_cases c12 : ((rd_T82 l0 x19_1).f1) ≤ x6_1
              · rw [if_pos c12] at H
                have c12b0 : decide (((rd_T82 l0 x19_1).f1) ≤ x6_1) = true := decide_eq_true c12
                clear c12
                have H' := Aside0.mk H
                clear H
                have p212 : 0 ≤ (x19_1 : Int) := of_decide_eq_true (by first | (with_reducible assumption) | assumption)
                have q212 : x19_1 < (l0.length : Int) := of_decide_eq_true (by first | (with_reducible assumption) | assumption)
                obtain ⟨ad212, e212, hx212_0, hx212_1⟩ := at_T82 HR0.out x19_1 p212 q212
                cases e212
                replace hx212_0 := (HB.out.cell (World.block_lt_of_cell? w _ hx212_0)).trans hx212_0
                replace hx212_1 := (HB.out.cell (World.block_lt_of_cell? w _ hx212_1)).trans hx212_1
                replace p212 := eq_true p212
                replace q212 := eq_true q212
                go_wp2_with (first | ((with_reducible refine gate_dst (N := 8) rfl ?_); refine box_event ?hg (N := 8) ?hd (cs := #[.int .i64 0, .int .i64 0]) (t := 82) ?hr ?_; (case hd => rfl); (case hg => rfl); (case hr => first | (go_simp; done) | (go_simp; rfl)); intro gb213 hg w13 hbox hb; have n0_ := Aside0.mk (Kd.R_below (Kd.R_elderB (by (with_reducible repeat (first | apply Kd.R_alloc | apply Kd.R_drewN | apply Kd.R_drew)); exact HO_5.out) gb213 (Nat.le_of_eq hg.symm)) hb); have n1_ := Aside0.mk (blk_below (g := gb207) (o := .cells #[.int .i64 a1_0, .int .i64 a1_1] 82 (0, 0)) (by (with_reducible repeat (first | refine blk_drewN ?_ _ | refine blk_drew ?_ | refine blk_alloc ?_ _)); exact BK207.out) hb); have n2_ := Aside0.mk (below_step (by repeat (first | (with_reducible first | exact HB.out | apply below_alloc | apply pw_below_drewN | apply below_drew1 | refine below_set ?_ GE207.out) | exact HB.out)) hb); have n3_ := Aside0.mk (hbox); have n4_ := Aside0.mk ((by rw [hg]; exact (below_size (by repeat (first | (with_reducible first | exact HB.out | apply below_alloc | apply pw_below_drewN | apply below_drew1 | refine below_set ?_ GE207.out) | exact HB.out))) : w.heap.size ≤ gb213)); have n5_ := Aside0.mk ((by rw [hg]; exact (below_size (by repeat (first | (with_reducible first | exact HB.out | apply below_alloc | apply pw_below_drewN | apply below_drew1 | refine below_set ?_ GE207.out) | exact HB.out))) : w.heap.size ≤ gb213)); have n6_ := Aside0.mk ((by rw [hg]; exact Nat.ne_of_lt (blk_lt (g := gb207) (o := .cells #[.int .i64 a1_0, .int .i64 a1_1] 82 (0, 0)) (by (with_reducible repeat (first | refine blk_drewN ?_ _ | refine blk_drew ?_ | refine blk_alloc ?_ _)); exact BK207.out)) : gb207 ≠ gb213)); have n7_ := Aside0.mk ((by rw [hg]; exact Nat.ne_of_gt (blk_lt (g := gb207) (o := .cells #[.int .i64 a1_0, .int .i64 a1_1] 82 (0, 0)) (by (with_reducible repeat (first | refine blk_drewN ?_ _ | refine blk_drew ?_ | refine blk_alloc ?_ _)); exact BK207.out)) : gb213 ≠ gb207)); clear HO_5; clear BK207; clear HB; have HO_5 := n0_; have BK207 := n1_; have HB := n2_; have BK213 := n3_; have GW213 := n4_; have GE213 := n5_; have NB207_213 := n6_; have NB213_207 := n7_; clear n0_ n1_ n2_ n3_ n4_ n5_ n6_ n7_; clear hb hbox hg; have hnb14 := NB213_207.out; have hnc14 := NB207_213.out; have hcz15_0 : w13.cell? ⟨gb213, 0, none⟩ = some (.int .i64 0) := (blk_cell BK213.out 0).trans rfl; have hcz15_1 : w13.cell? ⟨gb213, 1, none⟩ = some (.int .i64 0) := (blk_cell BK213.out 1).trans rfl; have hfz15_0 := blk_frozen BK213.out 0; have hfz15_1 := blk_frozen BK213.out 1))
                go_roundg k1
                case measure => have := HK1.out; omega
                case rel => exact ⟨(x5_1), (x6_1), (wrap64 (x19_1 + 1)), (by first | rfl | (simp; done) | (simp [*]; done)), (by first | rfl | (simp; done) | (simp [*]; done)), H', ⟨by have := HK1.out; omega⟩, ⟨by (with_reducible repeat (first | apply Kd.R_alloc | apply Kd.R_drewN | apply Kd.R_drew)); exact Kd.R_mono (Kd.R_far (p := ⟨gb213, 1, none⟩) (Kd.R_far (p := ⟨gb213, 0, none⟩) (Kd.R_mono HO_5.out (fun k_ hk => (⟨hk, hk.2⟩ : _ ∧ k_ ≠ gb213))) (fun _ hk => hk.2) (.int .i64 ((rd_T82 l0 x19_1).f0))) (fun _ hk => hk.2) (.int .i64 ((rd_T82 l0 x19_1).f1))) (fun _ hk => hk.1.1)⟩, ⟨by (with_reducible repeat (first | refine blk_drewN ?_ _ | refine blk_drew ?_ | refine blk_alloc ?_ _)); refine blk_far ?_ NB207_213.out _; (with_reducible repeat (first | refine blk_drewN ?_ _ | refine blk_drew ?_ | refine blk_alloc ?_ _)); refine blk_far ?_ NB207_213.out _; (with_reducible repeat (first | refine blk_drewN ?_ _ | refine blk_drew ?_ | refine blk_alloc ?_ _)); exact BK207.out⟩, ⟨by repeat (first | (with_reducible first | exact HB.out | apply below_alloc | apply pw_below_drewN | apply below_drew1 | refine below_set ?_ GE207.out | refine below_set ?_ GE213.out) | exact HB.out)⟩⟩
              · rw [if_neg c12] at H
                have c12b0 : decide (((rd_T82 l0 x19_1).f1) ≤ x6_1) = false := decide_eq_false c12
                clear c12
                by_cases c16 : ((rd_T82 l0 x19_1).f0) ≥ a1_1
                · rw [if_pos c16] at H
                  have c16b0 : decide (a1_1 ≤ ((rd_T82 l0 x19_1).f0)) = true := decide_eq_true c16
                  clear c16
                  by_cases c17 : x6_1 < a1_1
                  · rw [if_pos c17] at H
                    have c17b0 : decide (x6_1 < a1_1) = true := decide_eq_true c17
                    clear c17
                    by_cases c18 : x5_1.length < 8796093022208
                    · rw [if_pos c18] at H
                      have LMc18 := Aside0.mk c18
                      clear c18
                      obtain ⟨y214, hy214⟩ : ∃ y_ : List (S82), y_ = (x5_1 ++ [(⟨x6_1, a1_1⟩ : S82)]) := ⟨_, rfl⟩
                      replace H : (some y214) = some r := by first | (rw [hy214]; with_reducible exact H) | (have H2_ := (Option.bind_some _ _).symm.trans H; rw [hy214]; with_reducible exact H2_) | (have H2_ := (Option.bind_some _ _).symm.trans H; with_reducible exact H2_) | with_reducible exact H | (rw [hy214]; exact H) | exact H
                      have Ny214 := Aside0.mk hy214
                      clear hy214
                      obtain rfl := Option.some.inj H
                      have p212 : 0 ≤ (x19_1 : Int) := of_decide_eq_true (by first | (with_reducible assumption) | assumption)
                      have q212 : x19_1 < (l0.length : Int) := of_decide_eq_true (by first | (with_reducible assumption) | assumption)
                      obtain ⟨ad212, e212, hx212_0, hx212_1⟩ := at_T82 HR0.out x19_1 p212 q212
                      cases e212
                      replace hx212_0 := (HB.out.cell (World.block_lt_of_cell? w _ hx212_0)).trans hx212_0
                      replace hx212_1 := (HB.out.cell (World.block_lt_of_cell? w _ hx212_1)).trans hx212_1
                      replace p212 := eq_true p212
                      replace q212 := eq_true q212
                      go_wp2_with (first | ((with_reducible refine gate_dst (N := 8) rfl ?_); refine box_event ?hg (N := 8) ?hd (cs := #[.int .i64 0, .int .i64 0]) (t := 82) ?hr ?_; (case hd => rfl); (case hg => rfl); (case hr => first | (go_simp; done) | (go_simp; rfl)); intro gb213 hg w19 hbox hb; have n0_ := Aside0.mk (Kd.R_below (Kd.R_elderB (by (with_reducible repeat (first | apply Kd.R_alloc | apply Kd.R_drewN | apply Kd.R_drew)); exact HO_5.out) gb213 (Nat.le_of_eq hg.symm)) hb); have n1_ := Aside0.mk (blk_below (g := gb207) (o := .cells #[.int .i64 a1_0, .int .i64 a1_1] 82 (0, 0)) (by (with_reducible repeat (first | refine blk_drewN ?_ _ | refine blk_drew ?_ | refine blk_alloc ?_ _)); exact BK207.out) hb); have n2_ := Aside0.mk (below_step (by repeat (first | (with_reducible first | exact HB.out | apply below_alloc | apply pw_below_drewN | apply below_drew1 | refine below_set ?_ GE207.out) | exact HB.out)) hb); have n3_ := Aside0.mk (hbox); have n4_ := Aside0.mk ((by rw [hg]; exact (below_size (by repeat (first | (with_reducible first | exact HB.out | apply below_alloc | apply pw_below_drewN | apply below_drew1 | refine below_set ?_ GE207.out) | exact HB.out))) : w.heap.size ≤ gb213)); have n5_ := Aside0.mk ((by rw [hg]; exact (below_size (by repeat (first | (with_reducible first | exact HB.out | apply below_alloc | apply pw_below_drewN | apply below_drew1 | refine below_set ?_ GE207.out) | exact HB.out))) : w.heap.size ≤ gb213)); have n6_ := Aside0.mk ((by rw [hg]; exact Nat.ne_of_lt (blk_lt (g := gb207) (o := .cells #[.int .i64 a1_0, .int .i64 a1_1] 82 (0, 0)) (by (with_reducible repeat (first | refine blk_drewN ?_ _ | refine blk_drew ?_ | refine blk_alloc ?_ _)); exact BK207.out)) : gb207 ≠ gb213)); have n7_ := Aside0.mk ((by rw [hg]; exact Nat.ne_of_gt (blk_lt (g := gb207) (o := .cells #[.int .i64 a1_0, .int .i64 a1_1] 82 (0, 0)) (by (with_reducible repeat (first | refine blk_drewN ?_ _ | refine blk_drew ?_ | refine blk_alloc ?_ _)); exact BK207.out)) : gb213 ≠ gb207)); clear HO_5; clear BK207; clear HB; have HO_5 := n0_; have BK207 := n1_; have HB := n2_; have BK213 := n3_; have GW213 := n4_; have GE213 := n5_; have NB207_213 := n6_; have NB213_207 := n7_; clear n0_ n1_ n2_ n3_ n4_ n5_ n6_ n7_; clear hb hbox hg; have hnb20 := NB213_207.out; have hnc20 := NB207_213.out; have hcz21_0 : w19.cell? ⟨gb213, 0, none⟩ = some (.int .i64 0) := (blk_cell BK213.out 0).trans rfl; have hcz21_1 : w19.cell? ⟨gb213, 1, none⟩ = some (.int .i64 0) := (blk_cell BK213.out 1).trans rfl; have hfz21_0 := blk_frozen BK213.out 0; have hfz21_1 := blk_frozen BK213.out 1; have hcz22_0 : w19.cell? ⟨gb207, 0, none⟩ = some (.int .i64 a1_0) := (blk_cell BK207.out 0).trans rfl; have hcz22_1 : w19.cell? ⟨gb207, 1, none⟩ = some (.int .i64 a1_1) := (blk_cell BK207.out 1).trans rfl; have hfz22_0 := blk_frozen BK207.out 0; have hfz22_1 := blk_frozen BK207.out 1) | ((with_reducible refine gate_builtin (b := .append) (xs := #[.tmp 50, .tmp 55]) rfl ?_); at_builtin; refine Kd.R_append k82 (w0 := w) w.heap.size rfl (.tmp 50) (.tmp 55) 78 82 (.agg #[(.int .i64 0), (.int .i64 0)]) 16 rfl Try.underlying78 info82 rfl (by decide) (by omega) u5 x5_1 (⟨x6_1, a1_1⟩ : S82) [.int .i64 x6_1, .int .i64 a1_1] (fun k_ => k_ ≠ gb207 ∧ k_ ≠ gb213) (fun _ => False) rfl (by first | (go_simp; done) | (go_simp; rfl)) ?aP (fun _ hk => hk.elim) ?aF ?aO ?aB ?aS ?aL ?_; (case aP => exact k82_mkM _ _ _ (⟨x6_1, a1_1⟩ : S82)); (case aB => exact (by repeat (first | (with_reducible first | exact HB.out | apply below_alloc | apply pw_below_drewN | apply below_drew1 | refine below_set ?_ GE207.out | refine below_set ?_ GE213.out) | exact HB.out))); (case aF => exact (fun k_ hk => ⟨Kd.freshB (g := gb207) (o := .cells #[.int .i64 a1_0, .int .i64 a1_1] 82 (0, 0)) (by (with_reducible repeat (first | refine blk_drewN ?_ _ | refine blk_drew ?_ | refine blk_alloc ?_ _)); refine blk_far ?_ NB207_213.out _; (with_reducible repeat (first | refine blk_drewN ?_ _ | refine blk_drew ?_ | refine blk_alloc ?_ _)); refine blk_far ?_ NB207_213.out _; (with_reducible repeat (first | refine blk_drewN ?_ _ | refine blk_drew ?_ | refine blk_alloc ?_ _)); exact BK207.out) k_ hk, Kd.freshB (g := gb213) (o := .cells #[.int .i64 ((rd_T82 l0 x19_1).f0), .int .i64 ((rd_T82 l0 x19_1).f1)] 82 (0, 0)) (by (with_reducible repeat (first | refine blk_drewN ?_ _ | refine blk_drew ?_ | refine blk_alloc ?_ _)); refine blk_put (cs := #[.int .i64 ((rd_T82 l0 x19_1).f0), .int .i64 0]) ?_ 1 _ rfl; (with_reducible repeat (first | refine blk_drewN ?_ _ | refine blk_drew ?_ | refine blk_alloc ?_ _)); refine blk_put (cs := #[.int .i64 0, .int .i64 0]) ?_ 0 _ rfl; (with_reducible repeat (first | refine blk_drewN ?_ _ | refine blk_drew ?_ | refine blk_alloc ?_ _)); exact BK213.out) k_ hk⟩)); (case aO => exact (by (with_reducible repeat (first | apply Kd.R_alloc | apply Kd.R_drewN | apply Kd.R_drew)); exact Kd.R_mono (Kd.R_far (p := ⟨gb213, 1, none⟩) (Kd.R_far (p := ⟨gb213, 0, none⟩) (Kd.R_mono HO_5.out (fun k_ hk => (⟨hk, hk.2⟩ : _ ∧ k_ ≠ gb213))) (fun _ hk => hk.2) (.int .i64 ((rd_T82 l0 x19_1).f0))) (fun _ hk => hk.2) (.int .i64 ((rd_T82 l0 x19_1).f1))) (fun _ hk => ⟨hk.1.1, hk.1.2⟩))); (case aS => exact (below_size (by repeat (first | (with_reducible first | exact HB.out | apply below_alloc | apply pw_below_drewN | apply below_drew1 | refine below_set ?_ GE207.out | refine below_set ?_ GE213.out) | exact HB.out)))); (case aL => have := LMc18.out; omega); intro v215 w23 ho hb hg hat; rw [← Ny214.out] at ho; have n0_ := Aside0.mk (blk_grown (g := gb207) (o := .cells #[.int .i64 a1_0, .int .i64 a1_1] 82 (0, 0)) (by (with_reducible repeat (first | refine blk_drewN ?_ _ | refine blk_drew ?_ | refine blk_alloc ?_ _)); refine blk_far ?_ NB207_213.out _; (with_reducible repeat (first | refine blk_drewN ?_ _ | refine blk_drew ?_ | refine blk_alloc ?_ _)); refine blk_far ?_ NB207_213.out _; (with_reducible repeat (first | refine blk_drewN ?_ _ | refine blk_drew ?_ | refine blk_alloc ?_ _)); exact BK207.out) hg (Kd.R_away HO_5.out (fun _ hk => hk.1))); have n1_ := Aside0.mk (blk_grown (g := gb213) (o := .cells #[.int .i64 ((rd_T82 l0 x19_1).f0), .int .i64 ((rd_T82 l0 x19_1).f1)] 82 (0, 0)) (by (with_reducible repeat (first | refine blk_drewN ?_ _ | refine blk_drew ?_ | refine blk_alloc ?_ _)); refine blk_put (cs := #[.int .i64 ((rd_T82 l0 x19_1).f0), .int .i64 0]) ?_ 1 _ rfl; (with_reducible repeat (first | refine blk_drewN ?_ _ | refine blk_drew ?_ | refine blk_alloc ?_ _)); refine blk_put (cs := #[.int .i64 0, .int .i64 0]) ?_ 0 _ rfl; (with_reducible repeat (first | refine blk_drewN ?_ _ | refine blk_drew ?_ | refine blk_alloc ?_ _)); exact BK213.out) hg (Kd.R_away HO_5.out (fun _ hk => hk.2))); have n2_ := Aside0.mk (hb); have n3_ := Aside0.mk (ho); clear BK207; clear BK213; clear HB; clear HO_5; have BK207 := n0_; have BK213 := n1_; have HB := n2_; have HO216 := n3_; clear n0_ n1_ n2_ n3_; clear ho hb hg hat))
                      go_ret
                      exact ⟨_, by first | rfl | (simp [errW_none, errW_some] <;> rfl) | (simp [*, errW_none, errW_some] <;> rfl), by (with_reducible repeat (first | apply Kd.R_alloc | apply Kd.R_drewN | apply Kd.R_drew)); exact Kd.R_mono HO216.out (fun _ hk => trivial), by repeat (first | (with_reducible first | exact HB.out | apply below_alloc | apply pw_below_drewN | apply below_drew1 | refine below_set ?_ GE207.out | refine below_set ?_ GE213.out) | exact HB.out)⟩
                    · rw [if_neg c18] at H
                      exact absurd H (by simp)
                  · rw [if_neg c17] at H
                    have c17b0 : decide (x6_1 < a1_1) = false := decide_eq_false c17
                    clear c17
                    obtain rfl := Option.some.inj H
                    have p212 : 0 ≤ (x19_1 : Int) := of_decide_eq_true (by first | (with_reducible assumption) | assumption)
                    have q212 : x19_1 < (l0.length : Int) := of_decide_eq_true (by first | (with_reducible assumption) | assumption)
                    obtain ⟨ad212, e212, hx212_0, hx212_1⟩ := at_T82 HR0.out x19_1 p212 q212
                    cases e212
                    replace hx212_0 := (HB.out.cell (World.block_lt_of_cell? w _ hx212_0)).trans hx212_0
                    replace hx212_1 := (HB.out.cell (World.block_lt_of_cell? w _ hx212_1)).trans hx212_1
                    replace p212 := eq_true p212
                    replace q212 := eq_true q212
                    go_wp2_with (first | ((with_reducible refine gate_dst (N := 8) rfl ?_); refine box_event ?hg (N := 8) ?hd (cs := #[.int .i64 0, .int .i64 0]) (t := 82) ?hr ?_; (case hd => rfl); (case hg => rfl); (case hr => first | (go_simp; done) | (go_simp; rfl)); intro gb213 hg w24 hbox hb; have n0_ := Aside0.mk (Kd.R_below (Kd.R_elderB (by (with_reducible repeat (first | apply Kd.R_alloc | apply Kd.R_drewN | apply Kd.R_drew)); exact HO_5.out) gb213 (Nat.le_of_eq hg.symm)) hb); have n1_ := Aside0.mk (blk_below (g := gb207) (o := .cells #[.int .i64 a1_0, .int .i64 a1_1] 82 (0, 0)) (by (with_reducible repeat (first | refine blk_drewN ?_ _ | refine blk_drew ?_ | refine blk_alloc ?_ _)); exact BK207.out) hb); have n2_ := Aside0.mk (below_step (by repeat (first | (with_reducible first | exact HB.out | apply below_alloc | apply pw_below_drewN | apply below_drew1 | refine below_set ?_ GE207.out) | exact HB.out)) hb); have n3_ := Aside0.mk (hbox); have n4_ := Aside0.mk ((by rw [hg]; exact (below_size (by repeat (first | (with_reducible first | exact HB.out | apply below_alloc | apply pw_below_drewN | apply below_drew1 | refine below_set ?_ GE207.out) | exact HB.out))) : w.heap.size ≤ gb213)); have n5_ := Aside0.mk ((by rw [hg]; exact (below_size (by repeat (first | (with_reducible first | exact HB.out | apply below_alloc | apply pw_below_drewN | apply below_drew1 | refine below_set ?_ GE207.out) | exact HB.out))) : w.heap.size ≤ gb213)); have n6_ := Aside0.mk ((by rw [hg]; exact Nat.ne_of_lt (blk_lt (g := gb207) (o := .cells #[.int .i64 a1_0, .int .i64 a1_1] 82 (0, 0)) (by (with_reducible repeat (first | refine blk_drewN ?_ _ | refine blk_drew ?_ | refine blk_alloc ?_ _)); exact BK207.out)) : gb207 ≠ gb213)); have n7_ := Aside0.mk ((by rw [hg]; exact Nat.ne_of_gt (blk_lt (g := gb207) (o := .cells #[.int .i64 a1_0, .int .i64 a1_1] 82 (0, 0)) (by (with_reducible repeat (first | refine blk_drewN ?_ _ | refine blk_drew ?_ | refine blk_alloc ?_ _)); exact BK207.out)) : gb213 ≠ gb207)); clear HO_5; clear BK207; clear HB; have HO_5 := n0_; have BK207 := n1_; have HB := n2_; have BK213 := n3_; have GW213 := n4_; have GE213 := n5_; have NB207_213 := n6_; have NB213_207 := n7_; clear n0_ n1_ n2_ n3_ n4_ n5_ n6_ n7_; clear hb hbox hg; have hnb25 := NB213_207.out; have hnc25 := NB207_213.out; have hcz26_0 : w24.cell? ⟨gb213, 0, none⟩ = some (.int .i64 0) := (blk_cell BK213.out 0).trans rfl; have hcz26_1 : w24.cell? ⟨gb213, 1, none⟩ = some (.int .i64 0) := (blk_cell BK213.out 1).trans rfl; have hfz26_0 := blk_frozen BK213.out 0; have hfz26_1 := blk_frozen BK213.out 1; have hcz27_0 : w24.cell? ⟨gb207, 0, none⟩ = some (.int .i64 a1_0) := (blk_cell BK207.out 0).trans rfl; have hcz27_1 : w24.cell? ⟨gb207, 1, none⟩ = some (.int .i64 a1_1) := (blk_cell BK207.out 1).trans rfl; have hfz27_0 := blk_frozen BK207.out 0; have hfz27_1 := blk_frozen BK207.out 1))
                    go_ret
                    exact ⟨_, by first | rfl | (simp [errW_none, errW_some] <;> rfl) | (simp [*, errW_none, errW_some] <;> rfl), by (with_reducible repeat (first | apply Kd.R_alloc | apply Kd.R_drewN | apply Kd.R_drew)); exact Kd.R_mono (Kd.R_far (p := ⟨gb213, 1, none⟩) (Kd.R_far (p := ⟨gb213, 0, none⟩) (Kd.R_mono HO_5.out (fun k_ hk => (⟨hk, hk.2⟩ : _ ∧ k_ ≠ gb213))) (fun _ hk => hk.2) (.int .i64 ((rd_T82 l0 x19_1).f0))) (fun _ hk => hk.2) (.int .i64 ((rd_T82 l0 x19_1).f1))) (fun _ hk => trivial), by repeat (first | (with_reducible first | exact HB.out | apply below_alloc | apply pw_below_drewN | apply below_drew1 | refine below_set ?_ GE207.out | refine below_set ?_ GE213.out) | exact HB.out)⟩
                · rw [if_neg c16] at H
                  have c16b0 : decide (a1_1 ≤ ((rd_T82 l0 x19_1).f0)) = false := decide_eq_false c16
                  clear c16
                  by_cases c28 : ((rd_T82 l0 x19_1).f0) > x6_1
                  · rw [if_pos c28] at H
                    have c28b0 : decide (x6_1 < ((rd_T82 l0 x19_1).f0)) = true := decide_eq_true c28
                    clear c28
                    by_cases c29 : x5_1.length < 8796093022208
                    · rw [if_pos c29] at H
                      have LMc29 := Aside0.mk c29
                      clear c29
                      obtain ⟨y217, hy217⟩ : ∃ y_ : List (S82), y_ = (x5_1 ++ [(⟨x6_1, (rd_T82 l0 x19_1).f0⟩ : S82)]) := ⟨_, rfl⟩
                      replace H : (sizes_Ranges_Gaps.l0 k1 y217 ((rd_T82 l0 x19_1).f1) l0 (l0.length : Int) (wrap64 (x19_1 + 1)) a1_0 a1_1) = some r := by first | (rw [hy217]; with_reducible exact H) | (have H2_ := (Option.bind_some _ _).symm.trans H; rw [hy217]; with_reducible exact H2_) | (have H2_ := (Option.bind_some _ _).symm.trans H; with_reducible exact H2_) | with_reducible exact H | (rw [hy217]; exact H) | exact H
                      have Ny217 := Aside0.mk hy217
                      clear hy217
                      have H' := Aside0.mk H
                      clear H
                      have p212 : 0 ≤ (x19_1 : Int) := of_decide_eq_true (by first | (with_reducible assumption) | assumption)
                      have q212 : x19_1 < (l0.length : Int) := of_decide_eq_true (by first | (with_reducible assumption) | assumption)
                      obtain ⟨ad212, e212, hx212_0, hx212_1⟩ := at_T82 HR0.out x19_1 p212 q212
                      cases e212
                      replace hx212_0 := (HB.out.cell (World.block_lt_of_cell? w _ hx212_0)).trans hx212_0
                      replace hx212_1 := (HB.out.cell (World.block_lt_of_cell? w _ hx212_1)).trans hx212_1
                      replace p212 := eq_true p212
                      replace q212 := eq_true q212
                      go_wp2_with (first | ((with_reducible refine gate_dst (N := 8) rfl ?_); refine box_event ?hg (N := 8) ?hd (cs := #[.int .i64 0, .int .i64 0]) (t := 82) ?hr ?_; (case hd => rfl); (case hg => rfl); (case hr => first | (go_simp; done) | (go_simp; rfl)); intro gb213 hg w30 hbox hb; have n0_ := Aside0.mk (Kd.R_below (Kd.R_elderB (by (with_reducible repeat (first | apply Kd.R_alloc | apply Kd.R_drewN | apply Kd.R_drew)); exact HO_5.out) gb213 (Nat.le_of_eq hg.symm)) hb); have n1_ := Aside0.mk (blk_below (g := gb207) (o := .cells #[.int .i64 a1_0, .int .i64 a1_1] 82 (0, 0)) (by (with_reducible repeat (first | refine blk_drewN ?_ _ | refine blk_drew ?_ | refine blk_alloc ?_ _)); exact BK207.out) hb); have n2_ := Aside0.mk (below_step (by repeat (first | (with_reducible first | exact HB.out | apply below_alloc | apply pw_below_drewN | apply below_drew1 | refine below_set ?_ GE207.out) | exact HB.out)) hb); have n3_ := Aside0.mk (hbox); have n4_ := Aside0.mk ((by rw [hg]; exact (below_size (by repeat (first | (with_reducible first | exact HB.out | apply below_alloc | apply pw_below_drewN | apply below_drew1 | refine below_set ?_ GE207.out) | exact HB.out))) : w.heap.size ≤ gb213)); have n5_ := Aside0.mk ((by rw [hg]; exact (below_size (by repeat (first | (with_reducible first | exact HB.out | apply below_alloc | apply pw_below_drewN | apply below_drew1 | refine below_set ?_ GE207.out) | exact HB.out))) : w.heap.size ≤ gb213)); have n6_ := Aside0.mk ((by rw [hg]; exact Nat.ne_of_lt (blk_lt (g := gb207) (o := .cells #[.int .i64 a1_0, .int .i64 a1_1] 82 (0, 0)) (by (with_reducible repeat (first | refine blk_drewN ?_ _ | refine blk_drew ?_ | refine blk_alloc ?_ _)); exact BK207.out)) : gb207 ≠ gb213)); have n7_ := Aside0.mk ((by rw [hg]; exact Nat.ne_of_gt (blk_lt (g := gb207) (o := .cells #[.int .i64 a1_0, .int .i64 a1_1] 82 (0, 0)) (by (with_reducible repeat (first | refine blk_drewN ?_ _ | refine blk_drew ?_ | refine blk_alloc ?_ _)); exact BK207.out)) : gb213 ≠ gb207)); clear HO_5; clear BK207; clear HB; have HO_5 := n0_; have BK207 := n1_; have HB := n2_; have BK213 := n3_; have GW213 := n4_; have GE213 := n5_; have NB207_213 := n6_; have NB213_207 := n7_; clear n0_ n1_ n2_ n3_ n4_ n5_ n6_ n7_; clear hb hbox hg; have hnb31 := NB213_207.out; have hnc31 := NB207_213.out; have hcz32_0 : w30.cell? ⟨gb213, 0, none⟩ = some (.int .i64 0) := (blk_cell BK213.out 0).trans rfl; have hcz32_1 : w30.cell? ⟨gb213, 1, none⟩ = some (.int .i64 0) := (blk_cell BK213.out 1).trans rfl; have hfz32_0 := blk_frozen BK213.out 0; have hfz32_1 := blk_frozen BK213.out 1; have hcz33_0 : w30.cell? ⟨gb207, 0, none⟩ = some (.int .i64 a1_0) := (blk_cell BK207.out 0).trans rfl; have hcz33_1 : w30.cell? ⟨gb207, 1, none⟩ = some (.int .i64 a1_1) := (blk_cell BK207.out 1).trans rfl; have hfz33_0 := blk_frozen BK207.out 0; have hfz33_1 := blk_frozen BK207.out 1) | ((with_reducible refine gate_builtin (b := .append) (xs := #[.tmp 36, .tmp 41]) rfl ?_); at_builtin; refine Kd.R_append k82 (w0 := w) w.heap.size rfl (.tmp 36) (.tmp 41) 78 82 (.agg #[(.int .i64 0), (.int .i64 0)]) 16 rfl Try.underlying78 info82 rfl (by decide) (by omega) u5 x5_1 (⟨x6_1, (rd_T82 l0 x19_1).f0⟩ : S82) [.int .i64 x6_1, .int .i64 ((rd_T82 l0 x19_1).f0)] (fun k_ => k_ ≠ gb207 ∧ k_ ≠ gb213) (fun _ => False) rfl (by first | (go_simp; done) | (go_simp; rfl)) ?aP (fun _ hk => hk.elim) ?aF ?aO ?aB ?aS ?aL ?_; (case aP => exact k82_mkM _ _ _ (⟨x6_1, (rd_T82 l0 x19_1).f0⟩ : S82)); (case aB => exact (by repeat (first | (with_reducible first | exact HB.out | apply below_alloc | apply pw_below_drewN | apply below_drew1 | refine below_set ?_ GE207.out | refine below_set ?_ GE213.out) | exact HB.out))); (case aF => exact (fun k_ hk => ⟨Kd.freshB (g := gb207) (o := .cells #[.int .i64 a1_0, .int .i64 a1_1] 82 (0, 0)) (by (with_reducible repeat (first | refine blk_drewN ?_ _ | refine blk_drew ?_ | refine blk_alloc ?_ _)); refine blk_far ?_ NB207_213.out _; (with_reducible repeat (first | refine blk_drewN ?_ _ | refine blk_drew ?_ | refine blk_alloc ?_ _)); refine blk_far ?_ NB207_213.out _; (with_reducible repeat (first | refine blk_drewN ?_ _ | refine blk_drew ?_ | refine blk_alloc ?_ _)); exact BK207.out) k_ hk, Kd.freshB (g := gb213) (o := .cells #[.int .i64 ((rd_T82 l0 x19_1).f0), .int .i64 ((rd_T82 l0 x19_1).f1)] 82 (0, 0)) (by (with_reducible repeat (first | refine blk_drewN ?_ _ | refine blk_drew ?_ | refine blk_alloc ?_ _)); refine blk_put (cs := #[.int .i64 ((rd_T82 l0 x19_1).f0), .int .i64 0]) ?_ 1 _ rfl; (with_reducible repeat (first | refine blk_drewN ?_ _ | refine blk_drew ?_ | refine blk_alloc ?_ _)); refine blk_put (cs := #[.int .i64 0, .int .i64 0]) ?_ 0 _ rfl; (with_reducible repeat (first | refine blk_drewN ?_ _ | refine blk_drew ?_ | refine blk_alloc ?_ _)); exact BK213.out) k_ hk⟩)); (case aO => exact (by (with_reducible repeat (first | apply Kd.R_alloc | apply Kd.R_drewN | apply Kd.R_drew)); exact Kd.R_mono (Kd.R_far (p := ⟨gb213, 1, none⟩) (Kd.R_far (p := ⟨gb213, 0, none⟩) (Kd.R_mono HO_5.out (fun k_ hk => (⟨hk, hk.2⟩ : _ ∧ k_ ≠ gb213))) (fun _ hk => hk.2) (.int .i64 ((rd_T82 l0 x19_1).f0))) (fun _ hk => hk.2) (.int .i64 ((rd_T82 l0 x19_1).f1))) (fun _ hk => ⟨hk.1.1, hk.1.2⟩))); (case aS => exact (below_size (by repeat (first | (with_reducible first | exact HB.out | apply below_alloc | apply pw_below_drewN | apply below_drew1 | refine below_set ?_ GE207.out | refine below_set ?_ GE213.out) | exact HB.out)))); (case aL => have := LMc29.out; omega); intro v218 w34 ho hb hg hat; rw [← Ny217.out] at ho; have n0_ := Aside0.mk (blk_grown (g := gb207) (o := .cells #[.int .i64 a1_0, .int .i64 a1_1] 82 (0, 0)) (by (with_reducible repeat (first | refine blk_drewN ?_ _ | refine blk_drew ?_ | refine blk_alloc ?_ _)); refine blk_far ?_ NB207_213.out _; (with_reducible repeat (first | refine blk_drewN ?_ _ | refine blk_drew ?_ | refine blk_alloc ?_ _)); refine blk_far ?_ NB207_213.out _; (with_reducible repeat (first | refine blk_drewN ?_ _ | refine blk_drew ?_ | refine blk_alloc ?_ _)); exact BK207.out) hg (Kd.R_away HO_5.out (fun _ hk => hk.1))); have n1_ := Aside0.mk (blk_grown (g := gb213) (o := .cells #[.int .i64 ((rd_T82 l0 x19_1).f0), .int .i64 ((rd_T82 l0 x19_1).f1)] 82 (0, 0)) (by (with_reducible repeat (first | refine blk_drewN ?_ _ | refine blk_drew ?_ | refine blk_alloc ?_ _)); refine blk_put (cs := #[.int .i64 ((rd_T82 l0 x19_1).f0), .int .i64 0]) ?_ 1 _ rfl; (with_reducible repeat (first | refine blk_drewN ?_ _ | refine blk_drew ?_ | refine blk_alloc ?_ _)); refine blk_put (cs := #[.int .i64 0, .int .i64 0]) ?_ 0 _ rfl; (with_reducible repeat (first | refine blk_drewN ?_ _ | refine blk_drew ?_ | refine blk_alloc ?_ _)); exact BK213.out) hg (Kd.R_away HO_5.out (fun _ hk => hk.2))); have n2_ := Aside0.mk (hb); have n3_ := Aside0.mk (ho); clear BK207; clear BK213; clear HB; clear HO_5; have BK207 := n0_; have BK213 := n1_; have HB := n2_; have HO219 := n3_; clear n0_ n1_ n2_ n3_; clear ho hb hg hat; have hcz35_0 : w34.cell? ⟨gb213, 0, none⟩ = some (.int .i64 ((rd_T82 l0 x19_1).f0)) := (blk_cell BK213.out 0).trans rfl; have hcz35_1 : w34.cell? ⟨gb213, 1, none⟩ = some (.int .i64 ((rd_T82 l0 x19_1).f1)) := (blk_cell BK213.out 1).trans rfl; have hfz35_0 := blk_frozen BK213.out 0; have hfz35_1 := blk_frozen BK213.out 1))
                      go_roundg k1
                      case measure => have := HK1.out; omega
                      case rel => exact ⟨(y217), ((rd_T82 l0 x19_1).f1), (wrap64 (x19_1 + 1)), (by first | rfl | (simp; done) | (simp [*]; done)), (by first | rfl | (simp; done) | (simp [*]; done)), H', ⟨by have := HK1.out; omega⟩, ⟨by (with_reducible repeat (first | apply Kd.R_alloc | apply Kd.R_drewN | apply Kd.R_drew)); exact Kd.R_mono HO219.out (fun _ hk => hk.1)⟩, ⟨by (with_reducible repeat (first | refine blk_drewN ?_ _ | refine blk_drew ?_ | refine blk_alloc ?_ _)); exact BK207.out⟩, ⟨by repeat (first | (with_reducible first | exact HB.out | apply below_alloc | apply pw_below_drewN | apply below_drew1 | refine below_set ?_ GE207.out | refine below_set ?_ GE213.out) | exact HB.out)⟩⟩
                    · rw [if_neg c29] at H
                      exact absurd H (by simp)
                  · rw [if_neg c28] at H
                    have c28b0 : decide (x6_1 < ((rd_T82 l0 x19_1).f0)) = false := decide_eq_false c28
                    clear c28
                    have H' := Aside0.mk H
                    clear H
                    have p212 : 0 ≤ (x19_1 : Int) := of_decide_eq_true (by first | (with_reducible assumption) | assumption)
                    have q212 : x19_1 < (l0.length : Int) := of_decide_eq_true (by first | (with_reducible assumption) | assumption)
                    obtain ⟨ad212, e212, hx212_0, hx212_1⟩ := at_T82 HR0.out x19_1 p212 q212
                    cases e212
                    replace hx212_0 := (HB.out.cell (World.block_lt_of_cell? w _ hx212_0)).trans hx212_0
                    replace hx212_1 := (HB.out.cell (World.block_lt_of_cell? w _ hx212_1)).trans hx212_1
                    replace p212 := eq_true p212
                    replace q212 := eq_true q212
                    go_wp2_with (first | ((with_reducible refine gate_dst (N := 8) rfl ?_); refine box_event ?hg (N := 8) ?hd (cs := #[.int .i64 0, .int .i64 0]) (t := 82) ?hr ?_; (case hd => rfl); (case hg => rfl); (case hr => first | (go_simp; done) | (go_simp; rfl)); intro gb213 hg w36 hbox hb; have n0_ := Aside0.mk (Kd.R_below (Kd.R_elderB (by (with_reducible repeat (first | apply Kd.R_alloc | apply Kd.R_drewN | apply Kd.R_drew)); exact HO_5.out) gb213 (Nat.le_of_eq hg.symm)) hb); have n1_ := Aside0.mk (blk_below (g := gb207) (o := .cells #[.int .i64 a1_0, .int .i64 a1_1] 82 (0, 0)) (by (with_reducible repeat (first | refine blk_drewN ?_ _ | refine blk_drew ?_ | refine blk_alloc ?_ _)); exact BK207.out) hb); have n2_ := Aside0.mk (below_step (by repeat (first | (with_reducible first | exact HB.out | apply below_alloc | apply pw_below_drewN | apply below_drew1 | refine below_set ?_ GE207.out) | exact HB.out)) hb); have n3_ := Aside0.mk (hbox); have n4_ := Aside0.mk ((by rw [hg]; exact (below_size (by repeat (first | (with_reducible first | exact HB.out | apply below_alloc | apply pw_below_drewN | apply below_drew1 | refine below_set ?_ GE207.out) | exact HB.out))) : w.heap.size ≤ gb213)); have n5_ := Aside0.mk ((by rw [hg]; exact (below_size (by repeat (first | (with_reducible first | exact HB.out | apply below_alloc | apply pw_below_drewN | apply below_drew1 | refine below_set ?_ GE207.out) | exact HB.out))) : w.heap.size ≤ gb213)); have n6_ := Aside0.mk ((by rw [hg]; exact Nat.ne_of_lt (blk_lt (g := gb207) (o := .cells #[.int .i64 a1_0, .int .i64 a1_1] 82 (0, 0)) (by (with_reducible repeat (first | refine blk_drewN ?_ _ | refine blk_drew ?_ | refine blk_alloc ?_ _)); exact BK207.out)) : gb207 ≠ gb213)); have n7_ := Aside0.mk ((by rw [hg]; exact Nat.ne_of_gt (blk_lt (g := gb207) (o := .cells #[.int .i64 a1_0, .int .i64 a1_1] 82 (0, 0)) (by (with_reducible repeat (first | refine blk_drewN ?_ _ | refine blk_drew ?_ | refine blk_alloc ?_ _)); exact BK207.out)) : gb213 ≠ gb207)); clear HO_5; clear BK207; clear HB; have HO_5 := n0_; have BK207 := n1_; have HB := n2_; have BK213 := n3_; have GW213 := n4_; have GE213 := n5_; have NB207_213 := n6_; have NB213_207 := n7_; clear n0_ n1_ n2_ n3_ n4_ n5_ n6_ n7_; clear hb hbox hg; have hnb37 := NB213_207.out; have hnc37 := NB207_213.out; have hcz38_0 : w36.cell? ⟨gb213, 0, none⟩ = some (.int .i64 0) := (blk_cell BK213.out 0).trans rfl; have hcz38_1 : w36.cell? ⟨gb213, 1, none⟩ = some (.int .i64 0) := (blk_cell BK213.out 1).trans rfl; have hfz38_0 := blk_frozen BK213.out 0; have hfz38_1 := blk_frozen BK213.out 1; have hcz39_0 : w36.cell? ⟨gb207, 0, none⟩ = some (.int .i64 a1_0) := (blk_cell BK207.out 0).trans rfl; have hcz39_1 : w36.cell? ⟨gb207, 1, none⟩ = some (.int .i64 a1_1) := (blk_cell BK207.out 1).trans rfl; have hfz39_0 := blk_frozen BK207.out 0; have hfz39_1 := blk_frozen BK207.out 1))
                    go_roundg k1
                    case measure => have := HK1.out; omega
                    case rel => exact ⟨(x5_1), ((rd_T82 l0 x19_1).f1), (wrap64 (x19_1 + 1)), (by first | rfl | (simp; done) | (simp [*]; done)), (by first | rfl | (simp; done) | (simp [*]; done)), H', ⟨by have := HK1.out; omega⟩, ⟨by (with_reducible repeat (first | apply Kd.R_alloc | apply Kd.R_drewN | apply Kd.R_drew)); exact Kd.R_mono (Kd.R_far (p := ⟨gb213, 1, none⟩) (Kd.R_far (p := ⟨gb213, 0, none⟩) (Kd.R_mono HO_5.out (fun k_ hk => (⟨hk, hk.2⟩ : _ ∧ k_ ≠ gb213))) (fun _ hk => hk.2) (.int .i64 ((rd_T82 l0 x19_1).f0))) (fun _ hk => hk.2) (.int .i64 ((rd_T82 l0 x19_1).f1))) (fun _ hk => hk.1.1)⟩, ⟨by (with_reducible repeat (first | refine blk_drewN ?_ _ | refine blk_drew ?_ | refine blk_alloc ?_ _)); refine blk_far ?_ NB207_213.out _; (with_reducible repeat (first | refine blk_drewN ?_ _ | refine blk_drew ?_ | refine blk_alloc ?_ _)); refine blk_far ?_ NB207_213.out _; (with_reducible repeat (first | refine blk_drewN ?_ _ | refine blk_drew ?_ | refine blk_alloc ?_ _)); exact BK207.out⟩, ⟨by repeat (first | (with_reducible first | exact HB.out | apply below_alloc | apply pw_below_drewN | apply below_drew1 | refine below_set ?_ GE207.out | refine below_set ?_ GE213.out) | exact HB.out)⟩⟩
            · rw [if_neg c11] at H
              exact absurd H (by simp)
          · rw [if_neg c10] at H
            exact absurd H (by simp)
        · rw [if_neg c9] at H
          have c9b0 : decide (x19_1 < (l0.length : Int)) = false := decide_eq_false c9
          clear c9
          by_cases c40 : x6_1 < a1_1
          · rw [if_pos c40] at H
            have c40b0 : decide (x6_1 < a1_1) = true := decide_eq_true c40
            clear c40
            by_cases c41 : x5_1.length < 8796093022208
            · rw [if_pos c41] at H
              have LMc41 := Aside0.mk c41
              clear c41
              obtain ⟨y209, hy209⟩ : ∃ y_ : List (S82), y_ = (x5_1 ++ [(⟨x6_1, a1_1⟩ : S82)]) := ⟨_, rfl⟩
              replace H : (some y209) = some r := by first | (rw [hy209]; with_reducible exact H) | (have H2_ := (Option.bind_some _ _).symm.trans H; rw [hy209]; with_reducible exact H2_) | (have H2_ := (Option.bind_some _ _).symm.trans H; with_reducible exact H2_) | with_reducible exact H | (rw [hy209]; exact H) | exact H
              have Ny209 := Aside0.mk hy209
              clear hy209
              obtain rfl := Option.some.inj H
              have hcz42_0 : wr.cell? ⟨gb207, 0, none⟩ = some (.int .i64 a1_0) := (blk_cell BK207.out 0).trans rfl
              have hcz42_1 : wr.cell? ⟨gb207, 1, none⟩ = some (.int .i64 a1_1) := (blk_cell BK207.out 1).trans rfl
              have hfz42_0 := blk_frozen BK207.out 0
              have hfz42_1 := blk_frozen BK207.out 1
              go_wp2_with (first | ((with_reducible refine gate_builtin (b := .append) (xs := #[.tmp 50, .tmp 55]) rfl ?_); at_builtin; refine Kd.R_append k82 (w0 := w) w.heap.size rfl (.tmp 50) (.tmp 55) 78 82 (.agg #[(.int .i64 0), (.int .i64 0)]) 16 rfl Try.underlying78 info82 rfl (by decide) (by omega) u5 x5_1 (⟨x6_1, a1_1⟩ : S82) [.int .i64 x6_1, .int .i64 a1_1] (fun k_ => k_ ≠ gb207) (fun _ => False) rfl rfl ?aP (fun _ hk => hk.elim) ?aF ?aO ?aB ?aS ?aL ?_; (case aP => exact k82_mkM _ _ _ (⟨x6_1, a1_1⟩ : S82)); (case aB => exact (by repeat (first | (with_reducible first | exact HB.out | apply below_alloc | apply pw_below_drewN | apply below_drew1 | refine below_set ?_ GE207.out) | exact HB.out))); (case aF => exact (fun k_ hk => Kd.freshB (g := gb207) (o := .cells #[.int .i64 a1_0, .int .i64 a1_1] 82 (0, 0)) (by (with_reducible repeat (first | refine blk_drewN ?_ _ | refine blk_drew ?_ | refine blk_alloc ?_ _)); exact BK207.out) k_ hk)); (case aO => exact (by (with_reducible repeat (first | apply Kd.R_alloc | apply Kd.R_drewN | apply Kd.R_drew)); exact HO_5.out)); (case aS => exact (below_size (by repeat (first | (with_reducible first | exact HB.out | apply below_alloc | apply pw_below_drewN | apply below_drew1 | refine below_set ?_ GE207.out) | exact HB.out)))); (case aL => have := LMc41.out; omega); intro v210 w43 ho hb hg hat; rw [← Ny209.out] at ho; have n0_ := Aside0.mk (blk_grown (g := gb207) (o := .cells #[.int .i64 a1_0, .int .i64 a1_1] 82 (0, 0)) (by (with_reducible repeat (first | refine blk_drewN ?_ _ | refine blk_drew ?_ | refine blk_alloc ?_ _)); exact BK207.out) hg (Kd.R_away HO_5.out (fun _ hk => hk))); have n1_ := Aside0.mk (hb); have n2_ := Aside0.mk (ho); clear BK207; clear HB; clear HO_5; have BK207 := n0_; have HB := n1_; have HO211 := n2_; clear n0_ n1_ n2_; clear ho hb hg hat))
              go_ret
              exact ⟨_, by first | rfl | (simp [errW_none, errW_some] <;> rfl) | (simp [*, errW_none, errW_some] <;> rfl), by (with_reducible repeat (first | apply Kd.R_alloc | apply Kd.R_drewN | apply Kd.R_drew)); exact Kd.R_mono HO211.out (fun _ hk => trivial), by repeat (first | (with_reducible first | exact HB.out | apply below_alloc | apply pw_below_drewN | apply below_drew1 | refine below_set ?_ GE207.out) | exact HB.out)⟩
            · rw [if_neg c41] at H
              exact absurd H (by simp)
          · rw [if_neg c40] at H
            have c40b0 : decide (x6_1 < a1_1) = false := decide_eq_false c40
            clear c40
            obtain rfl := Option.some.inj H
            have hcz44_0 : wr.cell? ⟨gb207, 0, none⟩ = some (.int .i64 a1_0) := (blk_cell BK207.out 0).trans rfl
            have hcz44_1 : wr.cell? ⟨gb207, 1, none⟩ = some (.int .i64 a1_1) := (blk_cell BK207.out 1).trans rfl
            have hfz44_0 := blk_frozen BK207.out 0
            have hfz44_1 := blk_frozen BK207.out 1
            go_wp2
            go_ret
            exact ⟨_, by first | rfl | (simp [errW_none, errW_some] <;> rfl) | (simp [*, errW_none, errW_some] <;> rfl), by (with_reducible repeat (first | apply Kd.R_alloc | apply Kd.R_drewN | apply Kd.R_drew)); exact Kd.R_mono HO_5.out (fun _ hk => trivial), by repeat (first | (with_reducible first | exact HB.out | apply below_alloc | apply pw_below_drewN | apply below_drew1 | refine below_set ?_ GE207.out) | exact HB.out)⟩
  · replace c4 := Bool.eq_false_iff.mpr c4
    subst c4
    have H1 : (some ([] : List (S82))) = some r := by rw [if_neg (show ¬ (false = true) by decide)] at H; exact H
    clear H
    have H := H1
    clear H1
    obtain rfl := Option.some.inj H
    go_enter Try.func73, Try.ntmps73
    go_wp2_with (first | ((with_reducible refine gate_dst (N := 3) rfl ?_); refine box_event ?hg (N := 3) ?hd (cs := #[.int .i64 a1_0, .int .i64 a1_1]) (t := 82) ?hr ?_; (case hd => rfl); (case hg => rfl); (case hr => first | (go_simp; done) | (go_simp; rfl)); intro gb207 hg w45 hbox hb; have n0_ := Aside0.mk (below_step (by repeat (first | (with_reducible first | exact HB.out | apply below_alloc | apply pw_below_drewN | apply below_drew1) | exact HB.out)) hb); have n1_ := Aside0.mk (hbox); have n2_ := Aside0.mk ((by rw [hg]; exact (below_size (by repeat (first | (with_reducible first | exact HB.out | apply below_alloc | apply pw_below_drewN | apply below_drew1) | exact HB.out))) : w.heap.size ≤ gb207)); have n3_ := Aside0.mk ((by rw [hg]; exact (below_size (by repeat (first | (with_reducible first | exact HB.out | apply below_alloc | apply pw_below_drewN | apply below_drew1) | exact HB.out))) : w.heap.size ≤ gb207)); clear HB; have HB := n0_; have BK207 := n1_; have GW207 := n2_; have GE207 := n3_; clear n0_ n1_ n2_ n3_; clear hb hbox hg; have hcz46_0 : w45.cell? ⟨gb207, 0, none⟩ = some (.int .i64 a1_0) := (blk_cell BK207.out 0).trans rfl; have hcz46_1 : w45.cell? ⟨gb207, 1, none⟩ = some (.int .i64 a1_1) := (blk_cell BK207.out 1).trans rfl; have hfz46_0 := blk_frozen BK207.out 0; have hfz46_1 := blk_frozen BK207.out 1) | ((with_reducible refine gate_callee (f := 94) rfl ?_); refine goesL_ (some 10) rfl rfl Try.func94 (by kernel_rfl) rfl #[.agg #[.int .i64 a1_0, .int .i64 a1_1]] rfl (by (try simp only [List.map_toArray, List.map_cons, List.map_nil]); first | done | rfl | (simp only [List.length_drop, List.length_take]; rfl)) ?_; (with_reducible refine (sizes_can.calls a1_0 a1_1 false _ A3.out).mono ?_); rintro e w47 ⟨rfl, hb⟩; refine ⟨_, rfl, ?_⟩; have n0_ := Aside0.mk (blk_below (g := gb207) (o := .cells #[.int .i64 a1_0, .int .i64 a1_1] 82 (0, 0)) (by (with_reducible repeat (first | refine blk_drewN ?_ _ | refine blk_drew ?_ | refine blk_alloc ?_ _)); exact BK207.out) hb); have n1_ := Aside0.mk (below_step (by repeat (first | (with_reducible first | exact HB.out | apply below_alloc | apply pw_below_drewN | apply below_drew1 | refine below_set ?_ GE207.out) | exact HB.out)) hb); clear BK207; clear HB; have BK207 := n0_; have HB := n1_; clear n0_ n1_; (try clear hb); (try clear hb2); (try clear hk); (try clear hi); have hcp : w47.cell? ⟨gP, 0, none⟩ = some (.slice A0 l0.length c0) := (blk_cell (blk_below HP.out HB.out) 0).trans rfl))
    go_ret
    exact ⟨_, by first | rfl | (simp [errW_none, errW_some] <;> rfl) | (simp [*, errW_none, errW_some] <;> rfl), by first | exact Kd.R_nil _ _ _ _ _ | exact Kd.N_nil _ _ _ _ _ | exact Kd.V_nil _ _ _ _ _ | exact Kd.Q_nil _ _ _ _ _ | exact Kd.S_nil _ _ _ _ _, by repeat (first | (with_reducible first | exact HB.out | apply below_alloc | apply pw_below_drewN | apply below_drew1 | refine below_set ?_ GE207.out) | exact HB.out)⟩

end Go.Proofs.Ytnkcbkfccbfjpaa.RSizesRanges
/- Add and Cut of sizes.Ranges (printed by a program of the kit's over a slice, turned to the pointer and to change). -/
namespace Go.Proofs.Ytnkcbkfccbfjpaa.RSizesRanges
open Go.RowKit Go.Proofs.YtnkcbkfccbfjpaaW.PrintWords Go.Proofs.YtnkcbkfccbfjpaaW.PrintLast Go.Proofs.YtnkcbkfccbfjpaaW.PrintMore
attribute [local go_sem] max2_int min2_int max_two min_two max_three min_three max_four min_four   -- for this text's walks alone
set_option linter.unusedVariables false
set_option linter.unusedSimpArgs false

/-! ### sizes_Ranges_Add: function 30 -/
def sizes_Ranges_Add.l0 : Nat → List (S82) → Bool → List (S82) → Int → Int → Int → Int → Option ((List (S82)))
  | 0, _, _, _, _, _, _, _ => none
  | k + 1, x5, x6, x20, x21, x22, x143000, x143001 => if x22 < x21 then (if 0 ≤ x22 then (if x22 < (x20.length : Int) then (if ((rd_T82 x20 x22).f1) < x143000 then (if x5.length < 8796093022208 then (sizes_Ranges_Add.l0 k (x5 ++ [(⟨(rd_T82 x20 x22).f0, (rd_T82 x20 x22).f1⟩ : S82)]) x6 x20 x21 (wrap64 (x22 + 1)) x143000 x143001) else (none)) else (if ((rd_T82 x20 x22).f0) > x143001 then (if x6 = true then (if x5.length < 8796093022208 then (sizes_Ranges_Add.l0 k (x5 ++ [(⟨(rd_T82 x20 x22).f0, (rd_T82 x20 x22).f1⟩ : S82)]) x6 x20 x21 (wrap64 (x22 + 1)) x143000 x143001) else (none)) else (if x5.length < 8796093022208 then ((some (x5 ++ [(⟨x143000, x143001⟩ : S82)] : List (S82))).bind fun y155 => (if y155.length < 8796093022208 then (sizes_Ranges_Add.l0 k (y155 ++ [(⟨(rd_T82 x20 x22).f0, (rd_T82 x20 x22).f1⟩ : S82)]) true x20 x21 (wrap64 (x22 + 1)) x143000 x143001) else (none))) else (none))) else (sizes_Ranges_Add.l0 k x5 x6 x20 x21 (wrap64 (x22 + 1)) (mn x143000 ((rd_T82 x20 x22).f0)) (mx x143001 ((rd_T82 x20 x22).f1))))) else (none)) else (none)) else (if x6 = true then (some x5) else (if x5.length < 8796093022208 then (some (x5 ++ [(⟨x143000, x143001⟩ : S82)])) else (none)))
def sizes_Ranges_Add.f (k : Nat) (l0 : List (S82)) (a1_0 : Int) (a1_1 : Int) : Option ((List (S82))) := (sizes_can.f a1_0 a1_1).bind fun t143 => (if t143 = true then (if a1_0 = a1_1 then (some ([] : List (S82))) else (sizes_Ranges_Add.l0 k ([] : List (S82)) false l0 (l0.length : Int) 0 a1_0 a1_1)) else (some ([] : List (S82))))
set_option maxHeartbeats 8000000 in
set_option maxRecDepth 100000 in
theorem sizes_Ranges_Add.calls (k : Nat) (gP : Nat) (A0 : Option Addr) (c0 : Nat) (l0 : List (S82)) (a1_0 : Int) (a1_1 : Int) (r : List (S82)) (t : Bool) (w : World) (ht : sizes_can.f a1_0 a1_1 = some t) (hr0 : Kd.C k82 w A0 l0.length l0) (hc0 : l0.length ≤ c0) (hrow : Holds w gP (.slice A0 l0.length c0)) (h : sizes_Ranges_Add.f k l0 a1_0 a1_1 = some r) :
    Calls Try.prog 72 #[.pointer (some ⟨gP, 0, none⟩), .agg #[.int .i64 a1_0, .int .i64 a1_1]] w fun e w' => AddPost w gP t a1_0 a1_1 r e w' := by
  have hu67 := Try.underlying82
  have HR0 := Aside0.mk hr0
  have HC0 := Aside0.mk hc0
  clear hr0 hc0
  have HB := Aside0.mk (Below.refl w.heap.size w)
  have HP : Aside0 (Holds w gP (.slice A0 l0.length c0)) := ⟨hrow⟩
  clear hrow
  have H : ((sizes_can.f a1_0 a1_1).bind fun t143 => (if t143 = true then (if a1_0 = a1_1 then (some ([] : List (S82))) else (sizes_Ranges_Add.l0 k ([] : List (S82)) false l0 (l0.length : Int) 0 a1_0 a1_1)) else (some ([] : List (S82))))) = some r := h
  clear h
  replace H := Option.bind_eq_some_iff.mp H
  obtain ⟨t143, A30, H⟩ := H
  have ht' : t143 = t := Option.some.inj (A30.symm.trans ht)
  subst ht'
  clear ht
  replace H : (if t143 = true then (if a1_0 = a1_1 then (some ([] : List (S82))) else (sizes_Ranges_Add.l0 k ([] : List (S82)) false l0 (l0.length : Int) 0 a1_0 a1_1)) else (some ([] : List (S82)))) = some r := H
  have A3 := Aside0.mk A30
  clear A30
  by_cases c4 : t143 = true
  · subst c4
    have H1 : (if a1_0 = a1_1 then (some ([] : List (S82))) else (sizes_Ranges_Add.l0 k ([] : List (S82)) false l0 (l0.length : Int) 0 a1_0 a1_1)) = some r := by rw [if_pos rfl] at H; exact H
    clear H
    have H := H1
    clear H1
    by_cases c5 : a1_0 = a1_1
    · rw [if_pos c5] at H
      have HE := Aside0.mk c5
      have c5b0 : (a1_0 == a1_1) = true := beq_iff_eq.mpr c5
      have c5b1 : (a1_0 != a1_1) = false := bne_eq_false_iff_eq.mpr c5
      clear c5
      obtain rfl := Option.some.inj H
      go_enter Try.func72, Try.ntmps72
      go_wp2_with (first | ((with_reducible refine gate_dst (N := 3) rfl ?_); refine box_event ?hg (N := 3) ?hd (cs := #[.int .i64 a1_0, .int .i64 a1_1]) (t := 82) ?hr ?_; (case hd => rfl); (case hg => rfl); (case hr => first | (go_simp; done) | (go_simp; rfl)); intro gb142 hg w6 hbox hb; have n0_ := Aside0.mk (below_step (by repeat (first | (with_reducible first | exact HB.out | apply below_alloc | apply pw_below_drewN | apply below_drew1) | exact HB.out)) hb); have n1_ := Aside0.mk (hbox); have n2_ := Aside0.mk ((by rw [hg]; exact (below_size (by repeat (first | (with_reducible first | exact HB.out | apply below_alloc | apply pw_below_drewN | apply below_drew1) | exact HB.out))) : w.heap.size ≤ gb142)); have n3_ := Aside0.mk ((by rw [hg]; exact (below_size (by repeat (first | (with_reducible first | exact HB.out | apply below_alloc | apply pw_below_drewN | apply below_drew1) | exact HB.out))) : w.heap.size ≤ gb142)); clear HB; have HB := n0_; have BK142 := n1_; have GW142 := n2_; have GE142 := n3_; clear n0_ n1_ n2_ n3_; clear hb hbox hg; have hcz7_0 : w6.cell? ⟨gb142, 0, none⟩ = some (.int .i64 a1_0) := (blk_cell BK142.out 0).trans rfl; have hcz7_1 : w6.cell? ⟨gb142, 1, none⟩ = some (.int .i64 a1_1) := (blk_cell BK142.out 1).trans rfl; have hfz7_0 := blk_frozen BK142.out 0; have hfz7_1 := blk_frozen BK142.out 1) | ((with_reducible refine gate_callee (f := 94) rfl ?_); refine goesL_ (some 10) rfl rfl Try.func94 (by kernel_rfl) rfl #[.agg #[.int .i64 a1_0, .int .i64 a1_1]] rfl (by (try simp only [List.map_toArray, List.map_cons, List.map_nil]); first | done | rfl | (simp only [List.length_drop, List.length_take]; rfl)) ?_; (with_reducible refine (sizes_can.calls a1_0 a1_1 true _ A3.out).mono ?_); rintro e w8 ⟨rfl, hb⟩; refine ⟨_, rfl, ?_⟩; have n0_ := Aside0.mk (blk_below (g := gb142) (o := .cells #[.int .i64 a1_0, .int .i64 a1_1] 82 (0, 0)) (by (with_reducible repeat (first | refine blk_drewN ?_ _ | refine blk_drew ?_ | refine blk_alloc ?_ _)); exact BK142.out) hb); have n1_ := Aside0.mk (below_step (by repeat (first | (with_reducible first | exact HB.out | apply below_alloc | apply pw_below_drewN | apply below_drew1 | refine below_set ?_ GE142.out) | exact HB.out)) hb); clear BK142; clear HB; have BK142 := n0_; have HB := n1_; clear n0_ n1_; (try clear hb); (try clear hb2); (try clear hk); (try clear hi); have hcp : w8.cell? ⟨gP, 0, none⟩ = some (.slice A0 l0.length c0) := (blk_cell (blk_below HP.out HB.out) 0).trans rfl; have hcz9_0 : w8.cell? ⟨gb142, 0, none⟩ = some (.int .i64 a1_0) := (blk_cell BK142.out 0).trans rfl; have hcz9_1 : w8.cell? ⟨gb142, 1, none⟩ = some (.int .i64 a1_1) := (blk_cell BK142.out 1).trans rfl; have hfz9_0 := blk_frozen BK142.out 0; have hfz9_1 := blk_frozen BK142.out 1))
      go_ret
      exact .inr (.inl ⟨rfl, HE.out, rfl, by repeat (first | (with_reducible first | exact HB.out | apply below_alloc | apply pw_below_drewN | apply below_drew1 | refine below_set ?_ GE142.out) | exact HB.out)⟩)
    · rw [if_neg c5] at H
      have HE := Aside0.mk c5
      have c5b0 : (a1_0 == a1_1) = false := beq_eq_false_iff_ne.mpr c5
      have c5b1 : (a1_0 != a1_1) = true := bne_iff_ne.mpr c5
      have H' := Aside0.mk H
      clear H
      go_enter Try.func72, Try.ntmps72
      go_wp2_with (first | ((with_reducible refine gate_dst (N := 3) rfl ?_); refine box_event ?hg (N := 3) ?hd (cs := #[.int .i64 a1_0, .int .i64 a1_1]) (t := 82) ?hr ?_; (case hd => rfl); (case hg => rfl); (case hr => first | (go_simp; done) | (go_simp; rfl)); intro gb142 hg w10 hbox hb; have n0_ := Aside0.mk (below_step (by repeat (first | (with_reducible first | exact HB.out | apply below_alloc | apply pw_below_drewN | apply below_drew1) | exact HB.out)) hb); have n1_ := Aside0.mk (hbox); have n2_ := Aside0.mk ((by rw [hg]; exact (below_size (by repeat (first | (with_reducible first | exact HB.out | apply below_alloc | apply pw_below_drewN | apply below_drew1) | exact HB.out))) : w.heap.size ≤ gb142)); have n3_ := Aside0.mk ((by rw [hg]; exact (below_size (by repeat (first | (with_reducible first | exact HB.out | apply below_alloc | apply pw_below_drewN | apply below_drew1) | exact HB.out))) : w.heap.size ≤ gb142)); clear HB; have HB := n0_; have BK142 := n1_; have GW142 := n2_; have GE142 := n3_; clear n0_ n1_ n2_ n3_; clear hb hbox hg; have hcz11_0 : w10.cell? ⟨gb142, 0, none⟩ = some (.int .i64 a1_0) := (blk_cell BK142.out 0).trans rfl; have hcz11_1 : w10.cell? ⟨gb142, 1, none⟩ = some (.int .i64 a1_1) := (blk_cell BK142.out 1).trans rfl; have hfz11_0 := blk_frozen BK142.out 0; have hfz11_1 := blk_frozen BK142.out 1) | ((with_reducible refine gate_callee (f := 94) rfl ?_); refine goesL_ (some 10) rfl rfl Try.func94 (by kernel_rfl) rfl #[.agg #[.int .i64 a1_0, .int .i64 a1_1]] rfl (by (try simp only [List.map_toArray, List.map_cons, List.map_nil]); first | done | rfl | (simp only [List.length_drop, List.length_take]; rfl)) ?_; (with_reducible refine (sizes_can.calls a1_0 a1_1 true _ A3.out).mono ?_); rintro e w12 ⟨rfl, hb⟩; refine ⟨_, rfl, ?_⟩; have n0_ := Aside0.mk (blk_below (g := gb142) (o := .cells #[.int .i64 a1_0, .int .i64 a1_1] 82 (0, 0)) (by (with_reducible repeat (first | refine blk_drewN ?_ _ | refine blk_drew ?_ | refine blk_alloc ?_ _)); exact BK142.out) hb); have n1_ := Aside0.mk (below_step (by repeat (first | (with_reducible first | exact HB.out | apply below_alloc | apply pw_below_drewN | apply below_drew1 | refine below_set ?_ GE142.out) | exact HB.out)) hb); clear BK142; clear HB; have BK142 := n0_; have HB := n1_; clear n0_ n1_; (try clear hb); (try clear hb2); (try clear hk); (try clear hi); have hcp : w12.cell? ⟨gP, 0, none⟩ = some (.slice A0 l0.length c0) := (blk_cell (blk_below HP.out HB.out) 0).trans rfl; have hcz13_0 : w12.cell? ⟨gb142, 0, none⟩ = some (.int .i64 a1_0) := (blk_cell BK142.out 0).trans rfl; have hcz13_1 : w12.cell? ⟨gb142, 1, none⟩ = some (.int .i64 a1_1) := (blk_cell BK142.out 1).trans rfl; have hfz13_0 := blk_frozen BK142.out 0; have hfz13_1 := blk_frozen BK142.out 1))
      go_loopg [5, 6, 22] k (fun kq v5 v6 v22 w' => ∃ (x5_1 : List (S82)) (x6_1 : Bool) (x22_1 : Int) (x143000_1 : Int) (x143001_1 : Int), v6 = .bool x6_1 ∧ v22 = .int .i64 x22_1 ∧ Aside0 (sizes_Ranges_Add.l0 kq x5_1 x6_1 l0 (l0.length : Int) x22_1 x143000_1 x143001_1 = some r) ∧ Aside0 (kq ≤ k) ∧ Aside0 (Kd.R k82 82 w' w.heap.size (fun k_ => k_ ≠ gb142) v5 x5_1) ∧ Aside0 (w'.heap[gb142]? = some (.cells #[.int .i64 x143000_1, .int .i64 x143001_1] 82 (0, 0))) ∧ Aside0 (Below w.heap.size w w'))
      case atStart => exact ⟨(([] : List (S82))), (false), (0), (a1_0), (a1_1), (by first | rfl | (simp; done) | (simp [*]; done)), (by first | rfl | (simp; done) | (simp [*]; done)), H', ⟨Nat.le_refl _⟩, ⟨by first | exact Kd.R_nil _ _ _ _ _ | exact Kd.N_nil _ _ _ _ _ | exact Kd.V_nil _ _ _ _ _ | exact Kd.Q_nil _ _ _ _ _ | exact Kd.S_nil _ _ _ _ _⟩, ⟨by (with_reducible repeat (first | refine blk_drewN ?_ _ | refine blk_drew ?_ | refine blk_alloc ?_ _)); exact BK142.out⟩, ⟨by repeat (first | (with_reducible first | exact HB.out | apply below_alloc | apply pw_below_drewN | apply below_drew1 | refine below_set ?_ GE142.out) | exact HB.out)⟩⟩
      case round =>
        clear H'
        try clear p2
        try clear c3
        try clear c4
        try clear c5
        try clear c5b0
        try clear c5b1
        try clear hcz11_0
        try clear hcz11_1
        try clear hcz13_0
        try clear hcz13_1
        try clear hcz7_0
        try clear hcz7_1
        try clear hcz9_0
        try clear hcz9_1
        try clear hfz11_0
        try clear hfz11_1
        try clear hfz13_0
        try clear hfz13_1
        try clear hfz7_0
        try clear hfz7_1
        try clear hfz9_0
        try clear hfz9_1
        obtain ⟨x5_1, x6_1, x22_1, x143000_1, x143001_1, rfl, rfl, HA, HK1, HO_5, BK142, HB⟩ := hrel
        cases gk with
        | zero => exact absurd HA.out (by simp [sizes_Ranges_Add.l0])
        | succ k1 =>
          have H := HA.out
          clear HA
          simp only [sizes_Ranges_Add.l0] at H
          by_cases c14 : x22_1 < (l0.length : Int)
          · rw [if_pos c14] at H
            have c14b0 : decide (x22_1 < (l0.length : Int)) = true := decide_eq_true c14
            clear c14
            by_cases c15 : 0 ≤ x22_1
            · rw [if_pos c15] at H
              have c15b0 : decide (0 ≤ x22_1) = true := decide_eq_true c15
              clear c15
              by_cases c16 : x22_1 < (l0.length : Int)
              · rw [if_pos c16] at H
                have c16b0 : decide (x22_1 < (l0.length : Int)) = true := decide_eq_true c16
                clear c16
                by_cases c17 : ((rd_T82 l0 x22_1).f1) < x143000_1
                · rw [if_pos c17] at H
                  have c17b0 : decide (((rd_T82 l0 x22_1).f1) < x143000_1) = true := decide_eq_true c17
                  clear c17
                  by_cases c18 : x5_1.length < 8796093022208
                  · rw [if_pos c18] at H
                    have LMc18 := Aside0.mk c18
                    clear c18
                    obtain ⟨y149, hy149⟩ : ∃ y_ : List (S82), y_ = (x5_1 ++ [(⟨(rd_T82 l0 x22_1).f0, (rd_T82 l0 x22_1).f1⟩ : S82)]) := ⟨_, rfl⟩
                    replace H : (sizes_Ranges_Add.l0 k1 y149 x6_1 l0 (l0.length : Int) (wrap64 (x22_1 + 1)) x143000_1 x143001_1) = some r := by first | (rw [hy149]; with_reducible exact H) | (have H2_ := (Option.bind_some _ _).symm.trans H; rw [hy149]; with_reducible exact H2_) | (have H2_ := (Option.bind_some _ _).symm.trans H; with_reducible exact H2_) | with_reducible exact H | (rw [hy149]; exact H) | exact H
                    have Ny149 := Aside0.mk hy149
                    clear hy149
                    have H' := Aside0.mk H
                    clear H
                    have p147 : 0 ≤ (x22_1 : Int) := of_decide_eq_true (by first | (with_reducible assumption) | assumption)
                    have q147 : x22_1 < (l0.length : Int) := of_decide_eq_true (by first | (with_reducible assumption) | assumption)
                    obtain ⟨ad147, e147, hx147_0, hx147_1⟩ := at_T82 HR0.out x22_1 p147 q147
                    cases e147
                    replace hx147_0 := (HB.out.cell (World.block_lt_of_cell? w _ hx147_0)).trans hx147_0
                    replace hx147_1 := (HB.out.cell (World.block_lt_of_cell? w _ hx147_1)).trans hx147_1
                    replace p147 := eq_true p147
                    replace q147 := eq_true q147
                    go_wp2_with (first | ((with_reducible refine gate_dst (N := 8) rfl ?_); refine box_event ?hg (N := 8) ?hd (cs := #[.int .i64 0, .int .i64 0]) (t := 82) ?hr ?_; (case hd => rfl); (case hg => rfl); (case hr => first | (go_simp; done) | (go_simp; rfl)); intro gb148 hg w19 hbox hb; have n0_ := Aside0.mk (Kd.R_below (Kd.R_elderB (by (with_reducible repeat (first | apply Kd.R_alloc | apply Kd.R_drewN | apply Kd.R_drew)); exact HO_5.out) gb148 (Nat.le_of_eq hg.symm)) hb); have n1_ := Aside0.mk (blk_below (g := gb142) (o := .cells #[.int .i64 x143000_1, .int .i64 x143001_1] 82 (0, 0)) (by (with_reducible repeat (first | refine blk_drewN ?_ _ | refine blk_drew ?_ | refine blk_alloc ?_ _)); exact BK142.out) hb); have n2_ := Aside0.mk (below_step (by repeat (first | (with_reducible first | exact HB.out | apply below_alloc | apply pw_below_drewN | apply below_drew1 | refine below_set ?_ GE142.out) | exact HB.out)) hb); have n3_ := Aside0.mk (hbox); have n4_ := Aside0.mk ((by rw [hg]; exact (below_size (by repeat (first | (with_reducible first | exact HB.out | apply below_alloc | apply pw_below_drewN | apply below_drew1 | refine below_set ?_ GE142.out) | exact HB.out))) : w.heap.size ≤ gb148)); have n5_ := Aside0.mk ((by rw [hg]; exact (below_size (by repeat (first | (with_reducible first | exact HB.out | apply below_alloc | apply pw_below_drewN | apply below_drew1 | refine below_set ?_ GE142.out) | exact HB.out))) : w.heap.size ≤ gb148)); have n6_ := Aside0.mk ((by rw [hg]; exact Nat.ne_of_lt (blk_lt (g := gb142) (o := .cells #[.int .i64 x143000_1, .int .i64 x143001_1] 82 (0, 0)) (by (with_reducible repeat (first | refine blk_drewN ?_ _ | refine blk_drew ?_ | refine blk_alloc ?_ _)); exact BK142.out)) : gb142 ≠ gb148)); have n7_ := Aside0.mk ((by rw [hg]; exact Nat.ne_of_gt (blk_lt (g := gb142) (o := .cells #[.int .i64 x143000_1, .int .i64 x143001_1] 82 (0, 0)) (by (with_reducible repeat (first | refine blk_drewN ?_ _ | refine blk_drew ?_ | refine blk_alloc ?_ _)); exact BK142.out)) : gb148 ≠ gb142)); clear HO_5; clear BK142; clear HB; have HO_5 := n0_; have BK142 := n1_; have HB := n2_; have BK148 := n3_; have GW148 := n4_; have GE148 := n5_; have NB142_148 := n6_; have NB148_142 := n7_; clear n0_ n1_ n2_ n3_ n4_ n5_ n6_ n7_; clear hb hbox hg; have hnb20 := NB148_142.out; have hnc20 := NB142_148.out; have hcz21_0 : w19.cell? ⟨gb148, 0, none⟩ = some (.int .i64 0) := (blk_cell BK148.out 0).trans rfl; have hcz21_1 : w19.cell? ⟨gb148, 1, none⟩ = some (.int .i64 0) := (blk_cell BK148.out 1).trans rfl; have hfz21_0 := blk_frozen BK148.out 0; have hfz21_1 := blk_frozen BK148.out 1; have hcz22_0 : w19.cell? ⟨gb142, 0, none⟩ = some (.int .i64 x143000_1) := (blk_cell BK142.out 0).trans rfl; have hcz22_1 : w19.cell? ⟨gb142, 1, none⟩ = some (.int .i64 x143001_1) := (blk_cell BK142.out 1).trans rfl; have hfz22_0 := blk_frozen BK142.out 0; have hfz22_1 := blk_frozen BK142.out 1) | ((with_reducible refine gate_builtin (b := .append) (xs := #[.tmp 43, .tmp 45]) rfl ?_); at_builtin; refine Kd.R_append k82 (w0 := w) w.heap.size rfl (.tmp 43) (.tmp 45) 78 82 (.agg #[(.int .i64 0), (.int .i64 0)]) 16 rfl Try.underlying78 info82 rfl (by decide) (by omega) u5 x5_1 (⟨(rd_T82 l0 x22_1).f0, (rd_T82 l0 x22_1).f1⟩ : S82) [.int .i64 ((rd_T82 l0 x22_1).f0), .int .i64 ((rd_T82 l0 x22_1).f1)] (fun k_ => k_ ≠ gb142 ∧ k_ ≠ gb148) (fun _ => False) rfl (by first | (go_simp; done) | (go_simp; rfl)) ?aP (fun _ hk => hk.elim) ?aF ?aO ?aB ?aS ?aL ?_; (case aP => exact k82_mkM _ _ _ (⟨(rd_T82 l0 x22_1).f0, (rd_T82 l0 x22_1).f1⟩ : S82)); (case aB => exact (by repeat (first | (with_reducible first | exact HB.out | apply below_alloc | apply pw_below_drewN | apply below_drew1 | refine below_set ?_ GE142.out | refine below_set ?_ GE148.out) | exact HB.out))); (case aF => exact (fun k_ hk => ⟨Kd.freshB (g := gb142) (o := .cells #[.int .i64 x143000_1, .int .i64 x143001_1] 82 (0, 0)) (by (with_reducible repeat (first | refine blk_drewN ?_ _ | refine blk_drew ?_ | refine blk_alloc ?_ _)); refine blk_far ?_ NB142_148.out _; (with_reducible repeat (first | refine blk_drewN ?_ _ | refine blk_drew ?_ | refine blk_alloc ?_ _)); refine blk_far ?_ NB142_148.out _; (with_reducible repeat (first | refine blk_drewN ?_ _ | refine blk_drew ?_ | refine blk_alloc ?_ _)); exact BK142.out) k_ hk, Kd.freshB (g := gb148) (o := .cells #[.int .i64 ((rd_T82 l0 x22_1).f0), .int .i64 ((rd_T82 l0 x22_1).f1)] 82 (0, 0)) (by (with_reducible repeat (first | refine blk_drewN ?_ _ | refine blk_drew ?_ | refine blk_alloc ?_ _)); refine blk_put (cs := #[.int .i64 ((rd_T82 l0 x22_1).f0), .int .i64 0]) ?_ 1 _ rfl; (with_reducible repeat (first | refine blk_drewN ?_ _ | refine blk_drew ?_ | refine blk_alloc ?_ _)); refine blk_put (cs := #[.int .i64 0, .int .i64 0]) ?_ 0 _ rfl; (with_reducible repeat (first | refine blk_drewN ?_ _ | refine blk_drew ?_ | refine blk_alloc ?_ _)); exact BK148.out) k_ hk⟩)); (case aO => exact (by (with_reducible repeat (first | apply Kd.R_alloc | apply Kd.R_drewN | apply Kd.R_drew)); exact Kd.R_mono (Kd.R_far (p := ⟨gb148, 1, none⟩) (Kd.R_far (p := ⟨gb148, 0, none⟩) (Kd.R_mono HO_5.out (fun k_ hk => (⟨hk, hk.2⟩ : _ ∧ k_ ≠ gb148))) (fun _ hk => hk.2) (.int .i64 ((rd_T82 l0 x22_1).f0))) (fun _ hk => hk.2) (.int .i64 ((rd_T82 l0 x22_1).f1))) (fun _ hk => ⟨hk.1.1, hk.1.2⟩))); (case aS => exact (below_size (by repeat (first | (with_reducible first | exact HB.out | apply below_alloc | apply pw_below_drewN | apply below_drew1 | refine below_set ?_ GE142.out | refine below_set ?_ GE148.out) | exact HB.out)))); (case aL => have := LMc18.out; omega); intro v150 w23 ho hb hg hat; rw [← Ny149.out] at ho; have n0_ := Aside0.mk (blk_grown (g := gb142) (o := .cells #[.int .i64 x143000_1, .int .i64 x143001_1] 82 (0, 0)) (by (with_reducible repeat (first | refine blk_drewN ?_ _ | refine blk_drew ?_ | refine blk_alloc ?_ _)); refine blk_far ?_ NB142_148.out _; (with_reducible repeat (first | refine blk_drewN ?_ _ | refine blk_drew ?_ | refine blk_alloc ?_ _)); refine blk_far ?_ NB142_148.out _; (with_reducible repeat (first | refine blk_drewN ?_ _ | refine blk_drew ?_ | refine blk_alloc ?_ _)); exact BK142.out) hg (Kd.R_away HO_5.out (fun _ hk => hk.1))); have n1_ := Aside0.mk (blk_grown (g := gb148) (o := .cells #[.int .i64 ((rd_T82 l0 x22_1).f0), .int .i64 ((rd_T82 l0 x22_1).f1)] 82 (0, 0)) (by (with_reducible repeat (first | refine blk_drewN ?_ _ | refine blk_drew ?_ | refine blk_alloc ?_ _)); refine blk_put (cs := #[.int .i64 ((rd_T82 l0 x22_1).f0), .int .i64 0]) ?_ 1 _ rfl; (with_reducible repeat (first | refine blk_drewN ?_ _ | refine blk_drew ?_ | refine blk_alloc ?_ _)); refine blk_put (cs := #[.int .i64 0, .int .i64 0]) ?_ 0 _ rfl; (with_reducible repeat (first | refine blk_drewN ?_ _ | refine blk_drew ?_ | refine blk_alloc ?_ _)); exact BK148.out) hg (Kd.R_away HO_5.out (fun _ hk => hk.2))); have n2_ := Aside0.mk (hb); have n3_ := Aside0.mk (ho); clear BK142; clear BK148; clear HB; clear HO_5; have BK142 := n0_; have BK148 := n1_; have HB := n2_; have HO151 := n3_; clear n0_ n1_ n2_ n3_; clear ho hb hg hat))
                    go_roundg k1
                    case measure => have := HK1.out; omega
                    case rel => exact ⟨(y149), (x6_1), (wrap64 (x22_1 + 1)), (x143000_1), (x143001_1), (by first | rfl | (simp; done) | (simp [*]; done)), (by first | rfl | (simp; done) | (simp [*]; done)), H', ⟨by have := HK1.out; omega⟩, ⟨by (with_reducible repeat (first | apply Kd.R_alloc | apply Kd.R_drewN | apply Kd.R_drew)); exact Kd.R_mono HO151.out (fun _ hk => hk.1)⟩, ⟨by (with_reducible repeat (first | refine blk_drewN ?_ _ | refine blk_drew ?_ | refine blk_alloc ?_ _)); exact BK142.out⟩, ⟨by repeat (first | (with_reducible first | exact HB.out | apply below_alloc | apply pw_below_drewN | apply below_drew1 | refine below_set ?_ GE142.out | refine below_set ?_ GE148.out) | exact HB.out)⟩⟩
                  · rw [if_neg c18] at H
                    exact absurd H (by simp)
                · rw [if_neg c17] at H
                  have c17b0 : decide (((rd_T82 l0 x22_1).f1) < x143000_1) = false := decide_eq_false c17
                  clear c17
                  by_cases c24 : ((rd_T82 l0 x22_1).f0) > x143001_1
                  · rw [if_pos c24] at H
                    have c24b0 : decide (x143001_1 < ((rd_T82 l0 x22_1).f0)) = true := decide_eq_true c24
                    clear c24
                    by_cases c25 : x6_1 = true
                    · subst c25
                      have H1 : (if x5_1.length < 8796093022208 then (sizes_Ranges_Add.l0 k1 (x5_1 ++ [(⟨(rd_T82 l0 x22_1).f0, (rd_T82 l0 x22_1).f1⟩ : S82)]) true l0 (l0.length : Int) (wrap64 (x22_1 + 1)) x143000_1 x143001_1) else (none)) = some r := by rw [if_pos rfl] at H; exact H
                      clear H
                      have H := H1
                      clear H1
                      by_cases c26 : x5_1.length < 8796093022208
                      · rw [if_pos c26] at H
                        have LMc26 := Aside0.mk c26
                        clear c26
                        obtain ⟨y152, hy152⟩ : ∃ y_ : List (S82), y_ = (x5_1 ++ [(⟨(rd_T82 l0 x22_1).f0, (rd_T82 l0 x22_1).f1⟩ : S82)]) := ⟨_, rfl⟩
                        replace H : (sizes_Ranges_Add.l0 k1 y152 true l0 (l0.length : Int) (wrap64 (x22_1 + 1)) x143000_1 x143001_1) = some r := by first | (rw [hy152]; with_reducible exact H) | (have H2_ := (Option.bind_some _ _).symm.trans H; rw [hy152]; with_reducible exact H2_) | (have H2_ := (Option.bind_some _ _).symm.trans H; with_reducible exact H2_) | with_reducible exact H | (rw [hy152]; exact H) | exact H
                        have Ny152 := Aside0.mk hy152
                        clear hy152
                        have H' := Aside0.mk H
                        clear H
                        have p147 : 0 ≤ (x22_1 : Int) := of_decide_eq_true (by first | (with_reducible assumption) | assumption)
                        have q147 : x22_1 < (l0.length : Int) := of_decide_eq_true (by first | (with_reducible assumption) | assumption)
                        obtain ⟨ad147, e147, hx147_0, hx147_1⟩ := at_T82 HR0.out x22_1 p147 q147
                        cases e147
                        replace hx147_0 := (HB.out.cell (World.block_lt_of_cell? w _ hx147_0)).trans hx147_0
                        replace hx147_1 := (HB.out.cell (World.block_lt_of_cell? w _ hx147_1)).trans hx147_1
                        replace p147 := eq_true p147
                        replace q147 := eq_true q147
                        go_wp2_with (first | ((with_reducible refine gate_dst (N := 8) rfl ?_); refine box_event ?hg (N := 8) ?hd (cs := #[.int .i64 0, .int .i64 0]) (t := 82) ?hr ?_; (case hd => rfl); (case hg => rfl); (case hr => first | (go_simp; done) | (go_simp; rfl)); intro gb148 hg w27 hbox hb; have n0_ := Aside0.mk (Kd.R_below (Kd.R_elderB (by (with_reducible repeat (first | apply Kd.R_alloc | apply Kd.R_drewN | apply Kd.R_drew)); exact HO_5.out) gb148 (Nat.le_of_eq hg.symm)) hb); have n1_ := Aside0.mk (blk_below (g := gb142) (o := .cells #[.int .i64 x143000_1, .int .i64 x143001_1] 82 (0, 0)) (by (with_reducible repeat (first | refine blk_drewN ?_ _ | refine blk_drew ?_ | refine blk_alloc ?_ _)); exact BK142.out) hb); have n2_ := Aside0.mk (below_step (by repeat (first | (with_reducible first | exact HB.out | apply below_alloc | apply pw_below_drewN | apply below_drew1 | refine below_set ?_ GE142.out) | exact HB.out)) hb); have n3_ := Aside0.mk (hbox); have n4_ := Aside0.mk ((by rw [hg]; exact (below_size (by repeat (first | (with_reducible first | exact HB.out | apply below_alloc | apply pw_below_drewN | apply below_drew1 | refine below_set ?_ GE142.out) | exact HB.out))) : w.heap.size ≤ gb148)); have n5_ := Aside0.mk ((by rw [hg]; exact (below_size (by repeat (first | (with_reducible first | exact HB.out | apply below_alloc | apply pw_below_drewN | apply below_drew1 | refine below_set ?_ GE142.out) | exact HB.out))) : w.heap.size ≤ gb148)); have n6_ := Aside0.mk ((by rw [hg]; exact Nat.ne_of_lt (blk_lt (g := gb142) (o := .cells #[.int .i64 x143000_1, .int .i64 x143001_1] 82 (0, 0)) (by (with_reducible repeat (first | refine blk_drewN ?_ _ | refine blk_drew ?_ | refine blk_alloc ?_ _)); exact BK142.out)) : gb142 ≠ gb148)); have n7_ := Aside0.mk ((by rw [hg]; exact Nat.ne_of_gt (blk_lt (g := gb142) (o := .cells #[.int .i64 x143000_1, .int .i64 x143001_1] 82 (0, 0)) (by (with_reducible repeat (first | refine blk_drewN ?_ _ | refine blk_drew ?_ | refine blk_alloc ?_ _)); exact BK142.out)) : gb148 ≠ gb142)); clear HO_5; clear BK142; clear HB; have HO_5 := n0_; have BK142 := n1_; have HB := n2_; have BK148 := n3_; have GW148 := n4_; have GE148 := n5_; have NB142_148 := n6_; have NB148_142 := n7_; clear n0_ n1_ n2_ n3_ n4_ n5_ n6_ n7_; clear hb hbox hg; have hnb28 := NB148_142.out; have hnc28 := NB142_148.out; have hcz29_0 : w27.cell? ⟨gb148, 0, none⟩ = some (.int .i64 0) := (blk_cell BK148.out 0).trans rfl; have hcz29_1 : w27.cell? ⟨gb148, 1, none⟩ = some (.int .i64 0) := (blk_cell BK148.out 1).trans rfl; have hfz29_0 := blk_frozen BK148.out 0; have hfz29_1 := blk_frozen BK148.out 1; have hcz30_0 : w27.cell? ⟨gb142, 0, none⟩ = some (.int .i64 x143000_1) := (blk_cell BK142.out 0).trans rfl; have hcz30_1 : w27.cell? ⟨gb142, 1, none⟩ = some (.int .i64 x143001_1) := (blk_cell BK142.out 1).trans rfl; have hfz30_0 := blk_frozen BK142.out 0; have hfz30_1 := blk_frozen BK142.out 1) | ((with_reducible refine gate_builtin (b := .append) (xs := #[.tmp 59, .tmp 61]) rfl ?_); at_builtin; refine Kd.R_append k82 (w0 := w) w.heap.size rfl (.tmp 59) (.tmp 61) 78 82 (.agg #[(.int .i64 0), (.int .i64 0)]) 16 rfl Try.underlying78 info82 rfl (by decide) (by omega) u5 x5_1 (⟨(rd_T82 l0 x22_1).f0, (rd_T82 l0 x22_1).f1⟩ : S82) [.int .i64 ((rd_T82 l0 x22_1).f0), .int .i64 ((rd_T82 l0 x22_1).f1)] (fun k_ => k_ ≠ gb142 ∧ k_ ≠ gb148) (fun _ => False) rfl (by first | (go_simp; done) | (go_simp; rfl)) ?aP (fun _ hk => hk.elim) ?aF ?aO ?aB ?aS ?aL ?_; (case aP => exact k82_mkM _ _ _ (⟨(rd_T82 l0 x22_1).f0, (rd_T82 l0 x22_1).f1⟩ : S82)); (case aB => exact (by repeat (first | (with_reducible first | exact HB.out | apply below_alloc | apply pw_below_drewN | apply below_drew1 | refine below_set ?_ GE142.out | refine below_set ?_ GE148.out) | exact HB.out))); (case aF => exact (fun k_ hk => ⟨Kd.freshB (g := gb142) (o := .cells #[.int .i64 x143000_1, .int .i64 x143001_1] 82 (0, 0)) (by (with_reducible repeat (first | refine blk_drewN ?_ _ | refine blk_drew ?_ | refine blk_alloc ?_ _)); refine blk_far ?_ NB142_148.out _; (with_reducible repeat (first | refine blk_drewN ?_ _ | refine blk_drew ?_ | refine blk_alloc ?_ _)); refine blk_far ?_ NB142_148.out _; (with_reducible repeat (first | refine blk_drewN ?_ _ | refine blk_drew ?_ | refine blk_alloc ?_ _)); exact BK142.out) k_ hk, Kd.freshB (g := gb148) (o := .cells #[.int .i64 ((rd_T82 l0 x22_1).f0), .int .i64 ((rd_T82 l0 x22_1).f1)] 82 (0, 0)) (by (with_reducible repeat (first | refine blk_drewN ?_ _ | refine blk_drew ?_ | refine blk_alloc ?_ _)); refine blk_put (cs := #[.int .i64 ((rd_T82 l0 x22_1).f0), .int .i64 0]) ?_ 1 _ rfl; (with_reducible repeat (first | refine blk_drewN ?_ _ | refine blk_drew ?_ | refine blk_alloc ?_ _)); refine blk_put (cs := #[.int .i64 0, .int .i64 0]) ?_ 0 _ rfl; (with_reducible repeat (first | refine blk_drewN ?_ _ | refine blk_drew ?_ | refine blk_alloc ?_ _)); exact BK148.out) k_ hk⟩)); (case aO => exact (by (with_reducible repeat (first | apply Kd.R_alloc | apply Kd.R_drewN | apply Kd.R_drew)); exact Kd.R_mono (Kd.R_far (p := ⟨gb148, 1, none⟩) (Kd.R_far (p := ⟨gb148, 0, none⟩) (Kd.R_mono HO_5.out (fun k_ hk => (⟨hk, hk.2⟩ : _ ∧ k_ ≠ gb148))) (fun _ hk => hk.2) (.int .i64 ((rd_T82 l0 x22_1).f0))) (fun _ hk => hk.2) (.int .i64 ((rd_T82 l0 x22_1).f1))) (fun _ hk => ⟨hk.1.1, hk.1.2⟩))); (case aS => exact (below_size (by repeat (first | (with_reducible first | exact HB.out | apply below_alloc | apply pw_below_drewN | apply below_drew1 | refine below_set ?_ GE142.out | refine below_set ?_ GE148.out) | exact HB.out)))); (case aL => have := LMc26.out; omega); intro v153 w31 ho hb hg hat; rw [← Ny152.out] at ho; have n0_ := Aside0.mk (blk_grown (g := gb142) (o := .cells #[.int .i64 x143000_1, .int .i64 x143001_1] 82 (0, 0)) (by (with_reducible repeat (first | refine blk_drewN ?_ _ | refine blk_drew ?_ | refine blk_alloc ?_ _)); refine blk_far ?_ NB142_148.out _; (with_reducible repeat (first | refine blk_drewN ?_ _ | refine blk_drew ?_ | refine blk_alloc ?_ _)); refine blk_far ?_ NB142_148.out _; (with_reducible repeat (first | refine blk_drewN ?_ _ | refine blk_drew ?_ | refine blk_alloc ?_ _)); exact BK142.out) hg (Kd.R_away HO_5.out (fun _ hk => hk.1))); have n1_ := Aside0.mk (blk_grown (g := gb148) (o := .cells #[.int .i64 ((rd_T82 l0 x22_1).f0), .int .i64 ((rd_T82 l0 x22_1).f1)] 82 (0, 0)) (by (with_reducible repeat (first | refine blk_drewN ?_ _ | refine blk_drew ?_ | refine blk_alloc ?_ _)); refine blk_put (cs := #[.int .i64 ((rd_T82 l0 x22_1).f0), .int .i64 0]) ?_ 1 _ rfl; (with_reducible repeat (first | refine blk_drewN ?_ _ | refine blk_drew ?_ | refine blk_alloc ?_ _)); refine blk_put (cs := #[.int .i64 0, .int .i64 0]) ?_ 0 _ rfl; (with_reducible repeat (first | refine blk_drewN ?_ _ | refine blk_drew ?_ | refine blk_alloc ?_ _)); exact BK148.out) hg (Kd.R_away HO_5.out (fun _ hk => hk.2))); have n2_ := Aside0.mk (hb); have n3_ := Aside0.mk (ho); clear BK142; clear BK148; clear HB; clear HO_5; have BK142 := n0_; have BK148 := n1_; have HB := n2_; have HO154 := n3_; clear n0_ n1_ n2_ n3_; clear ho hb hg hat))
                        go_roundg k1
                        case measure => have := HK1.out; omega
                        case rel => exact ⟨(y152), (true), (wrap64 (x22_1 + 1)), (x143000_1), (x143001_1), (by first | rfl | (simp; done) | (simp [*]; done)), (by first | rfl | (simp; done) | (simp [*]; done)), H', ⟨by have := HK1.out; omega⟩, ⟨by (with_reducible repeat (first | apply Kd.R_alloc | apply Kd.R_drewN | apply Kd.R_drew)); exact Kd.R_mono HO154.out (fun _ hk => hk.1)⟩, ⟨by (with_reducible repeat (first | refine blk_drewN ?_ _ | refine blk_drew ?_ | refine blk_alloc ?_ _)); exact BK142.out⟩, ⟨by repeat (first | (with_reducible first | exact HB.out | apply below_alloc | apply pw_below_drewN | apply below_drew1 | refine below_set ?_ GE142.out | refine below_set ?_ GE148.out) | exact HB.out)⟩⟩
                      · rw [if_neg c26] at H
                        exact absurd H (by simp)
                    · replace c25 := Bool.eq_false_iff.mpr c25
                      subst c25
                      have H1 : (if x5_1.length < 8796093022208 then ((some (x5_1 ++ [(⟨x143000_1, x143001_1⟩ : S82)] : List (S82))).bind fun y155 => (if y155.length < 8796093022208 then (sizes_Ranges_Add.l0 k1 (y155 ++ [(⟨(rd_T82 l0 x22_1).f0, (rd_T82 l0 x22_1).f1⟩ : S82)]) true l0 (l0.length : Int) (wrap64 (x22_1 + 1)) x143000_1 x143001_1) else (none))) else (none)) = some r := by rw [if_neg (show ¬ (false = true) by decide)] at H; exact H
                      clear H
                      have H := H1
                      clear H1
                      by_cases c32 : x5_1.length < 8796093022208
                      · rw [if_pos c32] at H
                        have LMc32 := Aside0.mk c32
                        clear c32
                        obtain ⟨y155, hy155⟩ : ∃ y_ : List (S82), y_ = (x5_1 ++ [(⟨x143000_1, x143001_1⟩ : S82)]) := ⟨_, rfl⟩
                        replace H : (if y155.length < 8796093022208 then (sizes_Ranges_Add.l0 k1 (y155 ++ [(⟨(rd_T82 l0 x22_1).f0, (rd_T82 l0 x22_1).f1⟩ : S82)]) true l0 (l0.length : Int) (wrap64 (x22_1 + 1)) x143000_1 x143001_1) else (none)) = some r := by first | (rw [hy155]; with_reducible exact H) | (have H2_ := (Option.bind_some _ _).symm.trans H; rw [hy155]; with_reducible exact H2_) | (have H2_ := (Option.bind_some _ _).symm.trans H; with_reducible exact H2_) | with_reducible exact H | (rw [hy155]; exact H) | exact H
                        have Ny155 := Aside0.mk hy155
                        clear hy155
                        by_cases c33 : y155.length < 8796093022208
                        · rw [if_pos c33] at H
                          have LMc33 := Aside0.mk c33
                          clear c33
                          obtain ⟨y158, hy158⟩ : ∃ y_ : List (S82), y_ = (y155 ++ [(⟨(rd_T82 l0 x22_1).f0, (rd_T82 l0 x22_1).f1⟩ : S82)]) := ⟨_, rfl⟩
                          replace H : (sizes_Ranges_Add.l0 k1 y158 true l0 (l0.length : Int) (wrap64 (x22_1 + 1)) x143000_1 x143001_1) = some r := by first | (rw [hy158]; with_reducible exact H) | (have H2_ := (Option.bind_some _ _).symm.trans H; rw [hy158]; with_reducible exact H2_) | (have H2_ := (Option.bind_some _ _).symm.trans H; with_reducible exact H2_) | with_reducible exact H | (rw [hy158]; exact H) | exact H
                          have Ny158 := Aside0.mk hy158
                          clear hy158
                          have H' := Aside0.mk H
                          clear H
                          have p147 : 0 ≤ (x22_1 : Int) := of_decide_eq_true (by first | (with_reducible assumption) | assumption)
                          have q147 : x22_1 < (l0.length : Int) := of_decide_eq_true (by first | (with_reducible assumption) | assumption)
                          obtain ⟨ad147, e147, hx147_0, hx147_1⟩ := at_T82 HR0.out x22_1 p147 q147
                          cases e147
                          replace hx147_0 := (HB.out.cell (World.block_lt_of_cell? w _ hx147_0)).trans hx147_0
                          replace hx147_1 := (HB.out.cell (World.block_lt_of_cell? w _ hx147_1)).trans hx147_1
                          replace p147 := eq_true p147
                          replace q147 := eq_true q147
                          go_wp2_with (first | ((with_reducible refine gate_dst (N := 8) rfl ?_); refine box_event ?hg (N := 8) ?hd (cs := #[.int .i64 0, .int .i64 0]) (t := 82) ?hr ?_; (case hd => rfl); (case hg => rfl); (case hr => first | (go_simp; done) | (go_simp; rfl)); intro gb148 hg w34 hbox hb; have n0_ := Aside0.mk (Kd.R_below (Kd.R_elderB (by (with_reducible repeat (first | apply Kd.R_alloc | apply Kd.R_drewN | apply Kd.R_drew)); exact HO_5.out) gb148 (Nat.le_of_eq hg.symm)) hb); have n1_ := Aside0.mk (blk_below (g := gb142) (o := .cells #[.int .i64 x143000_1, .int .i64 x143001_1] 82 (0, 0)) (by (with_reducible repeat (first | refine blk_drewN ?_ _ | refine blk_drew ?_ | refine blk_alloc ?_ _)); exact BK142.out) hb); have n2_ := Aside0.mk (below_step (by repeat (first | (with_reducible first | exact HB.out | apply below_alloc | apply pw_below_drewN | apply below_drew1 | refine below_set ?_ GE142.out) | exact HB.out)) hb); have n3_ := Aside0.mk (hbox); have n4_ := Aside0.mk ((by rw [hg]; exact (below_size (by repeat (first | (with_reducible first | exact HB.out | apply below_alloc | apply pw_below_drewN | apply below_drew1 | refine below_set ?_ GE142.out) | exact HB.out))) : w.heap.size ≤ gb148)); have n5_ := Aside0.mk ((by rw [hg]; exact (below_size (by repeat (first | (with_reducible first | exact HB.out | apply below_alloc | apply pw_below_drewN | apply below_drew1 | refine below_set ?_ GE142.out) | exact HB.out))) : w.heap.size ≤ gb148)); have n6_ := Aside0.mk ((by rw [hg]; exact Nat.ne_of_lt (blk_lt (g := gb142) (o := .cells #[.int .i64 x143000_1, .int .i64 x143001_1] 82 (0, 0)) (by (with_reducible repeat (first | refine blk_drewN ?_ _ | refine blk_drew ?_ | refine blk_alloc ?_ _)); exact BK142.out)) : gb142 ≠ gb148)); have n7_ := Aside0.mk ((by rw [hg]; exact Nat.ne_of_gt (blk_lt (g := gb142) (o := .cells #[.int .i64 x143000_1, .int .i64 x143001_1] 82 (0, 0)) (by (with_reducible repeat (first | refine blk_drewN ?_ _ | refine blk_drew ?_ | refine blk_alloc ?_ _)); exact BK142.out)) : gb148 ≠ gb142)); clear HO_5; clear BK142; clear HB; have HO_5 := n0_; have BK142 := n1_; have HB := n2_; have BK148 := n3_; have GW148 := n4_; have GE148 := n5_; have NB142_148 := n6_; have NB148_142 := n7_; clear n0_ n1_ n2_ n3_ n4_ n5_ n6_ n7_; clear hb hbox hg; have hnb35 := NB148_142.out; have hnc35 := NB142_148.out; have hcz36_0 : w34.cell? ⟨gb148, 0, none⟩ = some (.int .i64 0) := (blk_cell BK148.out 0).trans rfl; have hcz36_1 : w34.cell? ⟨gb148, 1, none⟩ = some (.int .i64 0) := (blk_cell BK148.out 1).trans rfl; have hfz36_0 := blk_frozen BK148.out 0; have hfz36_1 := blk_frozen BK148.out 1; have hcz37_0 : w34.cell? ⟨gb142, 0, none⟩ = some (.int .i64 x143000_1) := (blk_cell BK142.out 0).trans rfl; have hcz37_1 : w34.cell? ⟨gb142, 1, none⟩ = some (.int .i64 x143001_1) := (blk_cell BK142.out 1).trans rfl; have hfz37_0 := blk_frozen BK142.out 0; have hfz37_1 := blk_frozen BK142.out 1) | ((with_reducible refine gate_builtin (b := .append) (xs := #[.tmp 55, .tmp 57]) rfl ?_); at_builtin; refine Kd.R_append k82 (w0 := w) w.heap.size rfl (.tmp 55) (.tmp 57) 78 82 (.agg #[(.int .i64 0), (.int .i64 0)]) 16 rfl Try.underlying78 info82 rfl (by decide) (by omega) u5 x5_1 (⟨x143000_1, x143001_1⟩ : S82) [.int .i64 x143000_1, .int .i64 x143001_1] (fun k_ => k_ ≠ gb142 ∧ k_ ≠ gb148) (fun _ => False) rfl (by first | (go_simp; done) | (go_simp; rfl)) ?aP (fun _ hk => hk.elim) ?aF ?aO ?aB ?aS ?aL ?_; (case aP => exact k82_mkM _ _ _ (⟨x143000_1, x143001_1⟩ : S82)); (case aB => exact (by repeat (first | (with_reducible first | exact HB.out | apply below_alloc | apply pw_below_drewN | apply below_drew1 | refine below_set ?_ GE142.out | refine below_set ?_ GE148.out) | exact HB.out))); (case aF => exact (fun k_ hk => ⟨Kd.freshB (g := gb142) (o := .cells #[.int .i64 x143000_1, .int .i64 x143001_1] 82 (0, 0)) (by (with_reducible repeat (first | refine blk_drewN ?_ _ | refine blk_drew ?_ | refine blk_alloc ?_ _)); refine blk_far ?_ NB142_148.out _; (with_reducible repeat (first | refine blk_drewN ?_ _ | refine blk_drew ?_ | refine blk_alloc ?_ _)); refine blk_far ?_ NB142_148.out _; (with_reducible repeat (first | refine blk_drewN ?_ _ | refine blk_drew ?_ | refine blk_alloc ?_ _)); exact BK142.out) k_ hk, Kd.freshB (g := gb148) (o := .cells #[.int .i64 ((rd_T82 l0 x22_1).f0), .int .i64 ((rd_T82 l0 x22_1).f1)] 82 (0, 0)) (by (with_reducible repeat (first | refine blk_drewN ?_ _ | refine blk_drew ?_ | refine blk_alloc ?_ _)); refine blk_put (cs := #[.int .i64 ((rd_T82 l0 x22_1).f0), .int .i64 0]) ?_ 1 _ rfl; (with_reducible repeat (first | refine blk_drewN ?_ _ | refine blk_drew ?_ | refine blk_alloc ?_ _)); refine blk_put (cs := #[.int .i64 0, .int .i64 0]) ?_ 0 _ rfl; (with_reducible repeat (first | refine blk_drewN ?_ _ | refine blk_drew ?_ | refine blk_alloc ?_ _)); exact BK148.out) k_ hk⟩)); (case aO => exact (by (with_reducible repeat (first | apply Kd.R_alloc | apply Kd.R_drewN | apply Kd.R_drew)); exact Kd.R_mono (Kd.R_far (p := ⟨gb148, 1, none⟩) (Kd.R_far (p := ⟨gb148, 0, none⟩) (Kd.R_mono HO_5.out (fun k_ hk => (⟨hk, hk.2⟩ : _ ∧ k_ ≠ gb148))) (fun _ hk => hk.2) (.int .i64 ((rd_T82 l0 x22_1).f0))) (fun _ hk => hk.2) (.int .i64 ((rd_T82 l0 x22_1).f1))) (fun _ hk => ⟨hk.1.1, hk.1.2⟩))); (case aS => exact (below_size (by repeat (first | (with_reducible first | exact HB.out | apply below_alloc | apply pw_below_drewN | apply below_drew1 | refine below_set ?_ GE142.out | refine below_set ?_ GE148.out) | exact HB.out)))); (case aL => have := LMc32.out; omega); intro v156 w38 ho hb hg hat; rw [← Ny155.out] at ho; have n0_ := Aside0.mk (blk_grown (g := gb142) (o := .cells #[.int .i64 x143000_1, .int .i64 x143001_1] 82 (0, 0)) (by (with_reducible repeat (first | refine blk_drewN ?_ _ | refine blk_drew ?_ | refine blk_alloc ?_ _)); refine blk_far ?_ NB142_148.out _; (with_reducible repeat (first | refine blk_drewN ?_ _ | refine blk_drew ?_ | refine blk_alloc ?_ _)); refine blk_far ?_ NB142_148.out _; (with_reducible repeat (first | refine blk_drewN ?_ _ | refine blk_drew ?_ | refine blk_alloc ?_ _)); exact BK142.out) hg (Kd.R_away HO_5.out (fun _ hk => hk.1))); have n1_ := Aside0.mk (blk_grown (g := gb148) (o := .cells #[.int .i64 ((rd_T82 l0 x22_1).f0), .int .i64 ((rd_T82 l0 x22_1).f1)] 82 (0, 0)) (by (with_reducible repeat (first | refine blk_drewN ?_ _ | refine blk_drew ?_ | refine blk_alloc ?_ _)); refine blk_put (cs := #[.int .i64 ((rd_T82 l0 x22_1).f0), .int .i64 0]) ?_ 1 _ rfl; (with_reducible repeat (first | refine blk_drewN ?_ _ | refine blk_drew ?_ | refine blk_alloc ?_ _)); refine blk_put (cs := #[.int .i64 0, .int .i64 0]) ?_ 0 _ rfl; (with_reducible repeat (first | refine blk_drewN ?_ _ | refine blk_drew ?_ | refine blk_alloc ?_ _)); exact BK148.out) hg (Kd.R_away HO_5.out (fun _ hk => hk.2))); have n2_ := Aside0.mk (hb); have n3_ := Aside0.mk (ho); clear BK142; clear BK148; clear HB; clear HO_5; have BK142 := n0_; have BK148 := n1_; have HB := n2_; have HO157 := n3_; clear n0_ n1_ n2_ n3_; clear ho hb hg hat; have hcz39_0 : w38.cell? ⟨gb148, 0, none⟩ = some (.int .i64 ((rd_T82 l0 x22_1).f0)) := (blk_cell BK148.out 0).trans rfl; have hcz39_1 : w38.cell? ⟨gb148, 1, none⟩ = some (.int .i64 ((rd_T82 l0 x22_1).f1)) := (blk_cell BK148.out 1).trans rfl; have hfz39_0 := blk_frozen BK148.out 0; have hfz39_1 := blk_frozen BK148.out 1) | ((with_reducible refine gate_builtin (b := .append) (xs := #[.tmp 59, .tmp 61]) rfl ?_); at_builtin; refine Kd.R_append k82 (w0 := w) w.heap.size rfl (.tmp 59) (.tmp 61) 78 82 (.agg #[(.int .i64 0), (.int .i64 0)]) 16 rfl Try.underlying78 info82 rfl (by decide) (by omega) v156 y155 (⟨(rd_T82 l0 x22_1).f0, (rd_T82 l0 x22_1).f1⟩ : S82) [.int .i64 ((rd_T82 l0 x22_1).f0), .int .i64 ((rd_T82 l0 x22_1).f1)] (fun k_ => k_ ≠ gb142 ∧ k_ ≠ gb148) (fun _ => False) rfl rfl ?aP (fun _ hk => hk.elim) ?aF ?aO ?aB ?aS ?aL ?_; (case aP => exact k82_mkM _ _ _ (⟨(rd_T82 l0 x22_1).f0, (rd_T82 l0 x22_1).f1⟩ : S82)); (case aB => exact (by repeat (first | (with_reducible first | exact HB.out | apply below_alloc | apply pw_below_drewN | apply below_drew1 | refine below_set ?_ GE142.out | refine below_set ?_ GE148.out) | exact HB.out))); (case aF => exact (fun k_ hk => ⟨Kd.freshB (g := gb142) (o := .cells #[.int .i64 x143000_1, .int .i64 x143001_1] 82 (0, 0)) (by (with_reducible repeat (first | refine blk_drewN ?_ _ | refine blk_drew ?_ | refine blk_alloc ?_ _)); exact BK142.out) k_ hk, Kd.freshB (g := gb148) (o := .cells #[.int .i64 ((rd_T82 l0 x22_1).f0), .int .i64 ((rd_T82 l0 x22_1).f1)] 82 (0, 0)) (by (with_reducible repeat (first | refine blk_drewN ?_ _ | refine blk_drew ?_ | refine blk_alloc ?_ _)); exact BK148.out) k_ hk⟩)); (case aO => exact (by (with_reducible repeat (first | apply Kd.R_alloc | apply Kd.R_drewN | apply Kd.R_drew)); exact HO157.out)); (case aS => exact (below_size (by repeat (first | (with_reducible first | exact HB.out | apply below_alloc | apply pw_below_drewN | apply below_drew1 | refine below_set ?_ GE142.out | refine below_set ?_ GE148.out) | exact HB.out)))); (case aL => have := LMc33.out; omega); intro v159 w40 ho hb hg hat; rw [← Ny158.out] at ho; have n0_ := Aside0.mk (blk_grown (g := gb142) (o := .cells #[.int .i64 x143000_1, .int .i64 x143001_1] 82 (0, 0)) (by (with_reducible repeat (first | refine blk_drewN ?_ _ | refine blk_drew ?_ | refine blk_alloc ?_ _)); exact BK142.out) hg (Kd.R_away HO157.out (fun _ hk => hk.1))); have n1_ := Aside0.mk (blk_grown (g := gb148) (o := .cells #[.int .i64 ((rd_T82 l0 x22_1).f0), .int .i64 ((rd_T82 l0 x22_1).f1)] 82 (0, 0)) (by (with_reducible repeat (first | refine blk_drewN ?_ _ | refine blk_drew ?_ | refine blk_alloc ?_ _)); exact BK148.out) hg (Kd.R_away HO157.out (fun _ hk => hk.2))); have n2_ := Aside0.mk (hb); have n3_ := Aside0.mk (ho); clear BK142; clear BK148; clear HB; clear HO157; have BK142 := n0_; have BK148 := n1_; have HB := n2_; have HO160 := n3_; clear n0_ n1_ n2_ n3_; clear ho hb hg hat))
                          go_roundg k1
                          case measure => have := HK1.out; omega
                          case rel => exact ⟨(y158), (true), (wrap64 (x22_1 + 1)), (x143000_1), (x143001_1), (by first | rfl | (simp; done) | (simp [*]; done)), (by first | rfl | (simp; done) | (simp [*]; done)), H', ⟨by have := HK1.out; omega⟩, ⟨by (with_reducible repeat (first | apply Kd.R_alloc | apply Kd.R_drewN | apply Kd.R_drew)); exact Kd.R_mono HO160.out (fun _ hk => hk.1)⟩, ⟨by (with_reducible repeat (first | refine blk_drewN ?_ _ | refine blk_drew ?_ | refine blk_alloc ?_ _)); exact BK142.out⟩, ⟨by repeat (first | (with_reducible first | exact HB.out | apply below_alloc | apply pw_below_drewN | apply below_drew1 | refine below_set ?_ GE142.out | refine below_set ?_ GE148.out) | exact HB.out)⟩⟩
                        · rw [if_neg c33] at H
                          exact absurd H (by simp)
                      · rw [if_neg c32] at H
                        exact absurd H (by simp)
                  · rw [if_neg c24] at H
                    have c24b0 : decide (x143001_1 < ((rd_T82 l0 x22_1).f0)) = false := decide_eq_false c24
                    clear c24
                    obtain ⟨ji41, hji41⟩ : ∃ j_ : Int, (mn x143000_1 ((rd_T82 l0 x22_1).f0)) = j_ := ⟨_, rfl⟩
                    replace H : (sizes_Ranges_Add.l0 k1 x5_1 x6_1 l0 (l0.length : Int) (wrap64 (x22_1 + 1)) ji41 (mx x143001_1 ((rd_T82 l0 x22_1).f1))) = some r := by first | (rw [hji41] at H; exact H) | (simp only [hji41] at H ⊢; exact H)
                    have hji41_ : (if ((rd_T82 l0 x22_1).f0) < x143000_1 then ((rd_T82 l0 x22_1).f0) else x143000_1) = ji41 := hji41
                    obtain ⟨ji42, hji42⟩ : ∃ j_ : Int, (mx x143001_1 ((rd_T82 l0 x22_1).f1)) = j_ := ⟨_, rfl⟩
                    replace H : (sizes_Ranges_Add.l0 k1 x5_1 x6_1 l0 (l0.length : Int) (wrap64 (x22_1 + 1)) ji41 ji42) = some r := by first | (rw [hji42] at H; exact H) | (simp only [hji42] at H ⊢; exact H)
                    have hji42_ : (if x143001_1 < ((rd_T82 l0 x22_1).f1) then ((rd_T82 l0 x22_1).f1) else x143001_1) = ji42 := hji42
                    have H' := Aside0.mk H
                    clear H
                    have p147 : 0 ≤ (x22_1 : Int) := of_decide_eq_true (by first | (with_reducible assumption) | assumption)
                    have q147 : x22_1 < (l0.length : Int) := of_decide_eq_true (by first | (with_reducible assumption) | assumption)
                    obtain ⟨ad147, e147, hx147_0, hx147_1⟩ := at_T82 HR0.out x22_1 p147 q147
                    cases e147
                    replace hx147_0 := (HB.out.cell (World.block_lt_of_cell? w _ hx147_0)).trans hx147_0
                    replace hx147_1 := (HB.out.cell (World.block_lt_of_cell? w _ hx147_1)).trans hx147_1
                    replace p147 := eq_true p147
                    replace q147 := eq_true q147
                    go_wp2_with (first | ((with_reducible refine gate_dst (N := 8) rfl ?_); refine box_event ?hg (N := 8) ?hd (cs := #[.int .i64 0, .int .i64 0]) (t := 82) ?hr ?_; (case hd => rfl); (case hg => rfl); (case hr => first | (go_simp; done) | (go_simp; rfl)); intro gb148 hg w43 hbox hb; have n0_ := Aside0.mk (Kd.R_below (Kd.R_elderB (by (with_reducible repeat (first | apply Kd.R_alloc | apply Kd.R_drewN | apply Kd.R_drew)); exact HO_5.out) gb148 (Nat.le_of_eq hg.symm)) hb); have n1_ := Aside0.mk (blk_below (g := gb142) (o := .cells #[.int .i64 x143000_1, .int .i64 x143001_1] 82 (0, 0)) (by (with_reducible repeat (first | refine blk_drewN ?_ _ | refine blk_drew ?_ | refine blk_alloc ?_ _)); exact BK142.out) hb); have n2_ := Aside0.mk (below_step (by repeat (first | (with_reducible first | exact HB.out | apply below_alloc | apply pw_below_drewN | apply below_drew1 | refine below_set ?_ GE142.out) | exact HB.out)) hb); have n3_ := Aside0.mk (hbox); have n4_ := Aside0.mk ((by rw [hg]; exact (below_size (by repeat (first | (with_reducible first | exact HB.out | apply below_alloc | apply pw_below_drewN | apply below_drew1 | refine below_set ?_ GE142.out) | exact HB.out))) : w.heap.size ≤ gb148)); have n5_ := Aside0.mk ((by rw [hg]; exact (below_size (by repeat (first | (with_reducible first | exact HB.out | apply below_alloc | apply pw_below_drewN | apply below_drew1 | refine below_set ?_ GE142.out) | exact HB.out))) : w.heap.size ≤ gb148)); have n6_ := Aside0.mk ((by rw [hg]; exact Nat.ne_of_lt (blk_lt (g := gb142) (o := .cells #[.int .i64 x143000_1, .int .i64 x143001_1] 82 (0, 0)) (by (with_reducible repeat (first | refine blk_drewN ?_ _ | refine blk_drew ?_ | refine blk_alloc ?_ _)); exact BK142.out)) : gb142 ≠ gb148)); have n7_ := Aside0.mk ((by rw [hg]; exact Nat.ne_of_gt (blk_lt (g := gb142) (o := .cells #[.int .i64 x143000_1, .int .i64 x143001_1] 82 (0, 0)) (by (with_reducible repeat (first | refine blk_drewN ?_ _ | refine blk_drew ?_ | refine blk_alloc ?_ _)); exact BK142.out)) : gb148 ≠ gb142)); clear HO_5; clear BK142; clear HB; have HO_5 := n0_; have BK142 := n1_; have HB := n2_; have BK148 := n3_; have GW148 := n4_; have GE148 := n5_; have NB142_148 := n6_; have NB148_142 := n7_; clear n0_ n1_ n2_ n3_ n4_ n5_ n6_ n7_; clear hb hbox hg; have hnb44 := NB148_142.out; have hnc44 := NB142_148.out; have hcz45_0 : w43.cell? ⟨gb148, 0, none⟩ = some (.int .i64 0) := (blk_cell BK148.out 0).trans rfl; have hcz45_1 : w43.cell? ⟨gb148, 1, none⟩ = some (.int .i64 0) := (blk_cell BK148.out 1).trans rfl; have hfz45_0 := blk_frozen BK148.out 0; have hfz45_1 := blk_frozen BK148.out 1; have hcz46_0 : w43.cell? ⟨gb142, 0, none⟩ = some (.int .i64 x143000_1) := (blk_cell BK142.out 0).trans rfl; have hcz46_1 : w43.cell? ⟨gb142, 1, none⟩ = some (.int .i64 x143001_1) := (blk_cell BK142.out 1).trans rfl; have hfz46_0 := blk_frozen BK142.out 0; have hfz46_1 := blk_frozen BK142.out 1))
                    go_roundg k1
                    case measure => have := HK1.out; omega
                    case rel => exact ⟨(x5_1), (x6_1), (wrap64 (x22_1 + 1)), (ji41), (ji42), (by first | rfl | (simp; done) | (simp [*]; done)), (by first | rfl | (simp; done) | (simp [*]; done)), H', ⟨by have := HK1.out; omega⟩, ⟨by (with_reducible repeat (first | apply Kd.R_alloc | apply Kd.R_drewN | apply Kd.R_drew)); exact Kd.R_mono (Kd.R_far (p := ⟨gb142, 1, none⟩) (Kd.R_far (p := ⟨gb142, 0, none⟩) (Kd.R_far (p := ⟨gb148, 1, none⟩) (Kd.R_far (p := ⟨gb148, 0, none⟩) (Kd.R_mono (Kd.R_mono HO_5.out (fun k_ hk => (⟨hk, hk.2⟩ : _ ∧ k_ ≠ gb148))) (fun k_ hk => (⟨hk, hk.1.1⟩ : _ ∧ k_ ≠ gb142))) (fun _ hk => hk.1.2) (.int .i64 ((rd_T82 l0 x22_1).f0))) (fun _ hk => hk.1.2) (.int .i64 ((rd_T82 l0 x22_1).f1))) (fun _ hk => hk.2) (.int .i64 ji41)) (fun _ hk => hk.2) (.int .i64 ji42)) (fun _ hk => hk.1.1.1)⟩, ⟨by (with_reducible repeat (first | refine blk_drewN ?_ _ | refine blk_drew ?_ | refine blk_alloc ?_ _)); refine blk_put (cs := #[.int .i64 ji41, .int .i64 x143001_1]) ?_ 1 _ rfl; (with_reducible repeat (first | refine blk_drewN ?_ _ | refine blk_drew ?_ | refine blk_alloc ?_ _)); refine blk_put (cs := #[.int .i64 x143000_1, .int .i64 x143001_1]) ?_ 0 _ rfl; (with_reducible repeat (first | refine blk_drewN ?_ _ | refine blk_drew ?_ | refine blk_alloc ?_ _)); refine blk_far ?_ NB142_148.out _; (with_reducible repeat (first | refine blk_drewN ?_ _ | refine blk_drew ?_ | refine blk_alloc ?_ _)); refine blk_far ?_ NB142_148.out _; (with_reducible repeat (first | refine blk_drewN ?_ _ | refine blk_drew ?_ | refine blk_alloc ?_ _)); exact BK142.out⟩, ⟨by repeat (first | (with_reducible first | exact HB.out | apply below_alloc | apply pw_below_drewN | apply below_drew1 | refine below_set ?_ GE142.out | refine below_set ?_ GE148.out) | exact HB.out)⟩⟩
              · rw [if_neg c16] at H
                exact absurd H (by simp)
            · rw [if_neg c15] at H
              exact absurd H (by simp)
          · rw [if_neg c14] at H
            have c14b0 : decide (x22_1 < (l0.length : Int)) = false := decide_eq_false c14
            clear c14
            by_cases c47 : x6_1 = true
            · subst c47
              have H1 : (some x5_1) = some r := by rw [if_pos rfl] at H; exact H
              clear H
              have H := H1
              clear H1
              obtain rfl := Option.some.inj H
              go_upto_region 20 with fail
              obtain ⟨A5_, c5_, e5_, _, hlen⟩ := slice_of_R HO_5.out
              subst e5_
              rcases hlen with hlen | hlen
              · go_wp2_with (go_at_call 95; refine (change_long gP A5_ _ c5_ _ hlen).mono ?_; rintro e wz ⟨rfl, rfl⟩)
                go_ret
                exact .inr (.inr (.inl ⟨rfl, HE.out, hlen, rfl, by repeat (first | (with_reducible first | exact HB.out | apply below_alloc | apply pw_below_drewN | apply below_drew1 | refine below_set ?_ GE142.out) | exact HB.out)⟩))
              · go_wp2_with (go_at_call 95; refine (change_ok gP A5_ _ c5_ _ (.slice A0 l0.length c0) (blk_below HP.out (by repeat (first | (with_reducible first | exact HB.out | apply below_alloc | apply pw_below_drewN | apply below_drew1 | refine below_set ?_ GE142.out) | exact HB.out))) hlen).mono ?_; rintro e wz ⟨rfl, rfl⟩)
                go_ret
                exact .inr (.inr (.inr ⟨rfl, HE.out, hlen, rfl, _, _, by repeat (first | (with_reducible first | exact HB.out | apply below_alloc | apply pw_below_drewN | apply below_drew1 | refine below_set ?_ GE142.out) | exact HB.out), rfl, by (with_reducible repeat (first | apply Kd.R_alloc | apply Kd.R_drewN | apply Kd.R_drew)); exact Kd.R_mono HO_5.out (fun _ hk => trivial)⟩))
            · replace c47 := Bool.eq_false_iff.mpr c47
              subst c47
              have H1 : (if x5_1.length < 8796093022208 then (some (x5_1 ++ [(⟨x143000_1, x143001_1⟩ : S82)])) else (none)) = some r := by rw [if_neg (show ¬ (false = true) by decide)] at H; exact H
              clear H
              have H := H1
              clear H1
              by_cases c48 : x5_1.length < 8796093022208
              · rw [if_pos c48] at H
                have LMc48 := Aside0.mk c48
                clear c48
                obtain ⟨y144, hy144⟩ : ∃ y_ : List (S82), y_ = (x5_1 ++ [(⟨x143000_1, x143001_1⟩ : S82)]) := ⟨_, rfl⟩
                replace H : (some y144) = some r := by first | (rw [hy144]; with_reducible exact H) | (have H2_ := (Option.bind_some _ _).symm.trans H; rw [hy144]; with_reducible exact H2_) | (have H2_ := (Option.bind_some _ _).symm.trans H; with_reducible exact H2_) | with_reducible exact H | (rw [hy144]; exact H) | exact H
                have Ny144 := Aside0.mk hy144
                clear hy144
                obtain rfl := Option.some.inj H
                have hcz49_0 : wr.cell? ⟨gb142, 0, none⟩ = some (.int .i64 x143000_1) := (blk_cell BK142.out 0).trans rfl
                have hcz49_1 : wr.cell? ⟨gb142, 1, none⟩ = some (.int .i64 x143001_1) := (blk_cell BK142.out 1).trans rfl
                have hfz49_0 := blk_frozen BK142.out 0
                have hfz49_1 := blk_frozen BK142.out 1
                go_upto_region 20 with (first | ((with_reducible refine gate_builtin (b := .append) (xs := #[.tmp 66, .tmp 68]) rfl ?_); at_builtin; refine Kd.R_append k82 (w0 := w) w.heap.size rfl (.tmp 66) (.tmp 68) 78 82 (.agg #[(.int .i64 0), (.int .i64 0)]) 16 rfl Try.underlying78 info82 rfl (by decide) (by omega) u5 x5_1 (⟨x143000_1, x143001_1⟩ : S82) [.int .i64 x143000_1, .int .i64 x143001_1] (fun k_ => k_ ≠ gb142) (fun _ => False) rfl rfl ?aP (fun _ hk => hk.elim) ?aF ?aO ?aB ?aS ?aL ?_; (case aP => exact k82_mkM _ _ _ (⟨x143000_1, x143001_1⟩ : S82)); (case aB => exact (by repeat (first | (with_reducible first | exact HB.out | apply below_alloc | apply pw_below_drewN | apply below_drew1 | refine below_set ?_ GE142.out) | exact HB.out))); (case aF => exact (fun k_ hk => Kd.freshB (g := gb142) (o := .cells #[.int .i64 x143000_1, .int .i64 x143001_1] 82 (0, 0)) (by (with_reducible repeat (first | refine blk_drewN ?_ _ | refine blk_drew ?_ | refine blk_alloc ?_ _)); exact BK142.out) k_ hk)); (case aO => exact (by (with_reducible repeat (first | apply Kd.R_alloc | apply Kd.R_drewN | apply Kd.R_drew)); exact HO_5.out)); (case aS => exact (below_size (by repeat (first | (with_reducible first | exact HB.out | apply below_alloc | apply pw_below_drewN | apply below_drew1 | refine below_set ?_ GE142.out) | exact HB.out)))); (case aL => have := LMc48.out; omega); intro v145 w50 ho hb hg hat; rw [← Ny144.out] at ho; have n0_ := Aside0.mk (blk_grown (g := gb142) (o := .cells #[.int .i64 x143000_1, .int .i64 x143001_1] 82 (0, 0)) (by (with_reducible repeat (first | refine blk_drewN ?_ _ | refine blk_drew ?_ | refine blk_alloc ?_ _)); exact BK142.out) hg (Kd.R_away HO_5.out (fun _ hk => hk))); have n1_ := Aside0.mk (hb); have n2_ := Aside0.mk (ho); clear BK142; clear HB; clear HO_5; have BK142 := n0_; have HB := n1_; have HO146 := n2_; clear n0_ n1_ n2_; clear ho hb hg hat))
                obtain ⟨A5_, c5_, e5_, _, hlen⟩ := slice_of_R HO146.out
                subst e5_
                rcases hlen with hlen | hlen
                · go_wp2_with (go_at_call 95; refine (change_long gP A5_ _ c5_ _ hlen).mono ?_; rintro e wz ⟨rfl, rfl⟩)
                  go_ret
                  exact .inr (.inr (.inl ⟨rfl, HE.out, hlen, rfl, by repeat (first | (with_reducible first | exact HB.out | apply below_alloc | apply pw_below_drewN | apply below_drew1 | refine below_set ?_ GE142.out) | exact HB.out)⟩))
                · go_wp2_with (go_at_call 95; refine (change_ok gP A5_ _ c5_ _ (.slice A0 l0.length c0) (blk_below HP.out (by repeat (first | (with_reducible first | exact HB.out | apply below_alloc | apply pw_below_drewN | apply below_drew1 | refine below_set ?_ GE142.out) | exact HB.out))) hlen).mono ?_; rintro e wz ⟨rfl, rfl⟩)
                  go_ret
                  exact .inr (.inr (.inr ⟨rfl, HE.out, hlen, rfl, _, _, by repeat (first | (with_reducible first | exact HB.out | apply below_alloc | apply pw_below_drewN | apply below_drew1 | refine below_set ?_ GE142.out) | exact HB.out), rfl, by (with_reducible repeat (first | apply Kd.R_alloc | apply Kd.R_drewN | apply Kd.R_drew)); exact Kd.R_mono HO146.out (fun _ hk => trivial)⟩))
              · rw [if_neg c48] at H
                exact absurd H (by simp)
  · replace c4 := Bool.eq_false_iff.mpr c4
    subst c4
    have H1 : (some ([] : List (S82))) = some r := by rw [if_neg (show ¬ (false = true) by decide)] at H; exact H
    clear H
    have H := H1
    clear H1
    obtain rfl := Option.some.inj H
    go_enter Try.func72, Try.ntmps72
    go_wp2_with (first | ((with_reducible refine gate_dst (N := 3) rfl ?_); refine box_event ?hg (N := 3) ?hd (cs := #[.int .i64 a1_0, .int .i64 a1_1]) (t := 82) ?hr ?_; (case hd => rfl); (case hg => rfl); (case hr => first | (go_simp; done) | (go_simp; rfl)); intro gb142 hg w51 hbox hb; have n0_ := Aside0.mk (below_step (by repeat (first | (with_reducible first | exact HB.out | apply below_alloc | apply pw_below_drewN | apply below_drew1) | exact HB.out)) hb); have n1_ := Aside0.mk (hbox); have n2_ := Aside0.mk ((by rw [hg]; exact (below_size (by repeat (first | (with_reducible first | exact HB.out | apply below_alloc | apply pw_below_drewN | apply below_drew1) | exact HB.out))) : w.heap.size ≤ gb142)); have n3_ := Aside0.mk ((by rw [hg]; exact (below_size (by repeat (first | (with_reducible first | exact HB.out | apply below_alloc | apply pw_below_drewN | apply below_drew1) | exact HB.out))) : w.heap.size ≤ gb142)); clear HB; have HB := n0_; have BK142 := n1_; have GW142 := n2_; have GE142 := n3_; clear n0_ n1_ n2_ n3_; clear hb hbox hg; have hcz52_0 : w51.cell? ⟨gb142, 0, none⟩ = some (.int .i64 a1_0) := (blk_cell BK142.out 0).trans rfl; have hcz52_1 : w51.cell? ⟨gb142, 1, none⟩ = some (.int .i64 a1_1) := (blk_cell BK142.out 1).trans rfl; have hfz52_0 := blk_frozen BK142.out 0; have hfz52_1 := blk_frozen BK142.out 1) | ((with_reducible refine gate_callee (f := 94) rfl ?_); refine goesL_ (some 10) rfl rfl Try.func94 (by kernel_rfl) rfl #[.agg #[.int .i64 a1_0, .int .i64 a1_1]] rfl (by (try simp only [List.map_toArray, List.map_cons, List.map_nil]); first | done | rfl | (simp only [List.length_drop, List.length_take]; rfl)) ?_; (with_reducible refine (sizes_can.calls a1_0 a1_1 false _ A3.out).mono ?_); rintro e w53 ⟨rfl, hb⟩; refine ⟨_, rfl, ?_⟩; have n0_ := Aside0.mk (blk_below (g := gb142) (o := .cells #[.int .i64 a1_0, .int .i64 a1_1] 82 (0, 0)) (by (with_reducible repeat (first | refine blk_drewN ?_ _ | refine blk_drew ?_ | refine blk_alloc ?_ _)); exact BK142.out) hb); have n1_ := Aside0.mk (below_step (by repeat (first | (with_reducible first | exact HB.out | apply below_alloc | apply pw_below_drewN | apply below_drew1 | refine below_set ?_ GE142.out) | exact HB.out)) hb); clear BK142; clear HB; have BK142 := n0_; have HB := n1_; clear n0_ n1_; (try clear hb); (try clear hb2); (try clear hk); (try clear hi); have hcp : w53.cell? ⟨gP, 0, none⟩ = some (.slice A0 l0.length c0) := (blk_cell (blk_below HP.out HB.out) 0).trans rfl))
    go_ret
    exact .inl ⟨rfl, rfl, by repeat (first | (with_reducible first | exact HB.out | apply below_alloc | apply pw_below_drewN | apply below_drew1 | refine below_set ?_ GE142.out) | exact HB.out)⟩

end Go.Proofs.Ytnkcbkfccbfjpaa.RSizesRanges
/- Sets of ranges, plain: the walked functions are those over lists. -/
namespace Go.Proofs.Ytnkcbkfccbfjpaa.Rng
open Go.RowKit Go.Proofs.Ytnkcbkfccbfjpaa.RSizesRanges Go.Proofs.YtnkcbkfccbfjpaaW.PrintWords Go.Proofs.YtnkcbkfccbfjpaaW.PrintLast Go.Proofs.YtnkcbkfccbfjpaaW.PrintMore
set_option linter.unusedVariables false
set_option linter.unusedSimpArgs false
theorem mn_min (x y : Int) : mn x y = min x y := by unfold mn; split <;> omega
theorem mx_max (x y : Int) : mx x y = max x y := by unfold mx; split <;> omega
theorem drop_rd (L : List S82) (i : Nat) (h : i < L.length) : L.drop i = rd_T82 L (i : Int) :: L.drop (i + 1) := by
  rw [List.drop_eq_getElem_cons h]
  unfold rd_T82
  rw [Int.toNat_natCast, List.getD_eq_getElem?_getD, List.getElem?_eq_getElem h, Option.getD_some]
theorem wsucc (x : Nat) (h : x < 9223372036854775807) : wrap64 ((x : Int) + 1) = ((x + 1 : Nat) : Int) := by rw [IntWalk.wrap64_in _ (by omega)]; omega
def canB (a b : Int) : Bool := decide (0 ≤ a ∧ a ≤ b)
theorem can_f (a b : Int) : sizes_can.f a b = some (canB a b) := by
  unfold sizes_can.f canB
  by_cases c : a ≥ 0
  · rw [if_pos c]
    congr 1
    exact decide_eq_decide.2 ⟨fun h => ⟨c, h⟩, fun h => h.2⟩
  · rw [if_neg c, decide_eq_false (fun h => c h.1)]
theorem add_l0 (L : List S82) (hL : L.length ≤ 1000000) : ∀ (j k i : Nat) (out : List S82) (put : Bool) (a b : Int), i + j = L.length → j < k → out.length ≤ 2 * i + 10 →
    sizes_Ranges_Add.l0 k out put L (L.length : Int) (i : Int) a b = some (out ++ addG (L.drop i) put a b) := by
  intro j
  induction j with
  | zero =>
    intro k i out put a b hi hk ho
    obtain ⟨k, rfl⟩ : ∃ q, k = q + 1 := ⟨k - 1, by omega⟩
    rw [sizes_Ranges_Add.l0, if_neg (by omega), List.drop_eq_nil_of_le (by omega), addG]
    cases put with
    | true => rw [if_pos rfl, if_pos rfl, List.append_nil]
    | false => rw [if_neg (show ¬ (false = true) by decide), if_neg (show ¬ (false = true) by decide), if_pos (by omega)]
  | succ j ih =>
    intro k i out put a b hi hk ho
    obtain ⟨k, rfl⟩ : ∃ q, k = q + 1 := ⟨k - 1, by omega⟩
    rw [sizes_Ranges_Add.l0, if_pos (by omega), if_pos (by omega), if_pos (by omega), wsucc _ (by omega), drop_rd L i (by omega), addG, mn_min, mx_max]
    generalize rd_T82 L (i : Int) = y
    have ey : (⟨y.f0, y.f1⟩ : S82) = y := rfl
    by_cases c1 : y.f1 < a
    · rw [if_pos c1, if_pos c1, if_pos (by omega), ey, ih k (i + 1) _ put a b (by omega) (by omega) (by rw [List.length_append]; simp only [List.length_cons, List.length_nil]; omega), List.append_assoc]
      rfl
    · rw [if_neg c1, if_neg c1]
      by_cases c2 : y.f0 > b
      · rw [if_pos c2, if_pos c2]
        cases put with
        | true =>
          rw [if_pos rfl, if_pos rfl, if_pos (by omega), ey, ih k (i + 1) _ true a b (by omega) (by omega) (by rw [List.length_append]; simp only [List.length_cons, List.length_nil]; omega), List.append_assoc]
          rfl
        | false =>
          rw [if_neg (show ¬ (false = true) by decide), if_neg (show ¬ (false = true) by decide), if_pos (by omega), Option.bind_some, if_pos (by rw [List.length_append]; simp only [List.length_cons, List.length_nil]; omega), ey, ih k (i + 1) _ true a b (by omega) (by omega) (by rw [List.length_append, List.length_append]; simp only [List.length_cons, List.length_nil]; omega), List.append_assoc, List.append_assoc]
          rfl
      · rw [if_neg c2, if_neg c2]
        exact ih k (i + 1) out put _ _ (by omega) (by omega) (by omega)
theorem add_f (k : Nat) (L : List S82) (hL : L.length ≤ 1000000) (hk : L.length < k) (a b : Int) : sizes_Ranges_Add.f k L a b = some (if canB a b = true then (if a = b then [] else addG L false a b) else []) := by
  unfold sizes_Ranges_Add.f
  rw [can_f, Option.bind_some]
  cases canB a b with
  | false => rfl
  | true =>
    rw [if_pos rfl, if_pos rfl]
    by_cases c : a = b
    · rw [if_pos c, if_pos c]
    · rw [if_neg c, if_neg c]
      have h := add_l0 L hL L.length k 0 [] false a b (by omega) hk (by simp)
      rw [List.drop_zero, List.nil_append] at h
      exact h
theorem gaps_l0 (L : List S82) (hL : L.length ≤ 1000000) (a b : Int) : ∀ (j k i : Nat) (out : List S82) (at_ : Int), i + j = L.length → j < k → out.length ≤ i →
    sizes_Ranges_Gaps.l0 k out at_ L (L.length : Int) (i : Int) a b = some (out ++ gapsG (L.drop i) at_ b) := by
  intro j
  induction j with
  | zero =>
    intro k i out at_ hi hk ho
    obtain ⟨k, rfl⟩ : ∃ q, k = q + 1 := ⟨k - 1, by omega⟩
    rw [sizes_Ranges_Gaps.l0, if_neg (by omega), List.drop_eq_nil_of_le (by omega), gapsG]
    unfold keepR
    by_cases c : at_ < b
    · rw [if_pos c, if_pos c, if_pos (by omega)]
    · rw [if_neg c, if_neg c, List.append_nil]
  | succ j ih =>
    intro k i out at_ hi hk ho
    obtain ⟨k, rfl⟩ : ∃ q, k = q + 1 := ⟨k - 1, by omega⟩
    rw [sizes_Ranges_Gaps.l0, if_pos (by omega), if_pos (by omega), if_pos (by omega), wsucc _ (by omega), drop_rd L i (by omega), gapsG]
    generalize rd_T82 L (i : Int) = y
    by_cases c1 : y.f1 ≤ at_
    · rw [if_pos c1, if_pos c1]
      exact ih k (i + 1) out at_ (by omega) (by omega) (by omega)
    · rw [if_neg c1, if_neg c1]
      by_cases c2 : y.f0 ≥ b
      · rw [if_pos c2, if_pos c2]
        unfold keepR
        by_cases c : at_ < b
        · rw [if_pos c, if_pos c, if_pos (by omega)]
        · rw [if_neg c, if_neg c, List.append_nil]
      · rw [if_neg c2, if_neg c2]
        by_cases c3 : y.f0 > at_
        · rw [if_pos c3, if_pos c3, if_pos (by omega), ih k (i + 1) _ y.f1 (by omega) (by omega) (by rw [List.length_append]; simp only [List.length_cons, List.length_nil]; omega), List.append_assoc]
          rfl
        · rw [if_neg c3, if_neg c3]
          exact ih k (i + 1) out y.f1 (by omega) (by omega) (by omega)
theorem gaps_f (k : Nat) (L : List S82) (hL : L.length ≤ 1000000) (hk : L.length < k) (a b : Int) : sizes_Ranges_Gaps.f k L a b = some (if canB a b = true then gapsG L a b else []) := by
  unfold sizes_Ranges_Gaps.f
  rw [can_f, Option.bind_some]
  cases canB a b with
  | false => rfl
  | true =>
    rw [if_pos rfl, if_pos rfl]
    have h := gaps_l0 L hL a b L.length k 0 [] a (by omega) hk (by simp)
    rw [List.drop_zero, List.nil_append] at h
    exact h
def addR (L : List S82) (a b : Int) : List S82 × Int := if canB a b = true then (if a = b then (L, 0) else if 65536 < (addG L false a b).length then (L, 2) else (addG L false a b, 0)) else (L, 12)
def gapsR (L : List S82) (a b : Int) : List S82 := if canB a b = true then gapsG L a b else []
end Go.Proofs.Ytnkcbkfccbfjpaa.Rng
/- A set of ranges in memory, and what the methods do to it. -/
namespace Go.Proofs.Ytnkcbkfccbfjpaa.Rng
open Go.RowKit Go.Proofs.Ytnkcbkfccbfjpaa.XxhW Go.Proofs.Ytnkcbkfccbfjpaa.RSizesRanges Go.Proofs.YtnkcbkfccbfjpaaW.PrintWords Go.Proofs.YtnkcbkfccbfjpaaW.PrintLast Go.Proofs.YtnkcbkfccbfjpaaW.PrintMore
set_option linter.unusedVariables false
set_option linter.unusedSimpArgs false
/-- At g lies a set, its list made from base on. -/
def IsSet (w : World) (base g : Nat) (L : List S82) : Prop := ∃ v, Holds w g v ∧ Kd.R k82 82 w base (fun _ => True) v L
/-- All but what lies at g is as it was. -/
abbrev Touch (w w' : World) (g : Nat) : Prop := Fr w w' (fun i => i ≠ g)
theorem Touch.of_below {w w' : World} {g : Nat} (h : Below w.heap.size w w') : Touch w w' g := Fr.of_below h _
theorem Touch.below {w0 w w' : World} {g : Nat} (h : Touch w w' g) (hB : Below w0.heap.size w0 w) (hg : w0.heap.size ≤ g) : Below w0.heap.size w0 w' :=
  ((Fr.of_below hB (fun i => i ≠ g)).then h).below (B := w0.heap.size) (fun i hi => ⟨hi, by omega⟩)
theorem IsSet.holds {w : World} {base g : Nat} {L : List S82} (h : IsSet w base g L) : ∃ v, Holds w g v := h.imp fun _ h => h.1
theorem IsSet.below {w w' : World} {base g : Nat} {L : List S82} (h : IsSet w base g L) (hb : Below w.heap.size w w') : IsSet w' base g L := by
  obtain ⟨v, h1, h2⟩ := h
  exact ⟨v, blk_below h1 hb, Kd.R_below h2 hb⟩
/-- What Add and Cut leave of a set. -/
theorem set_post {w : World} {base g : Nat} {L : List S82} (hs : IsSet w base g L) (hb : base ≤ w.heap.size) {a b : Int} {r : List S82} {e : Ending} {w' : World} (h : AddPost w g (canB a b) a b r e w') (R : List S82 × Int)
    (hR : R = if canB a b = true then (if a = b then (L, 0) else if 65536 < r.length then (L, 2) else (r, 0)) else (L, 12)) :
    e = .returned (.int .i64 R.2) ∧ IsSet w' base g R.1 ∧ Touch w w' g := by
  rcases h with ⟨h1, rfl, h3⟩ | ⟨h1, h2, rfl, h4⟩ | ⟨h1, h2, h3, rfl, h5⟩ | ⟨h1, h2, h3, rfl, v, w1, h5, rfl, h6⟩
  · rw [h1, if_neg (by decide)] at hR
    rw [hR]
    exact ⟨rfl, hs.below h3, Touch.of_below h3⟩
  · rw [h1, if_pos rfl, if_pos h2] at hR
    rw [hR]
    exact ⟨rfl, hs.below h4, Touch.of_below h4⟩
  · rw [h1, if_pos rfl, if_neg h2, if_pos h3] at hR
    rw [hR]
    exact ⟨rfl, hs.below h5, Touch.of_below h5⟩
  · rw [h1, if_pos rfl, if_neg h2, if_neg (by omega)] at hR
    rw [hR]
    obtain ⟨u, hu⟩ := hs.holds
    have hu1 : Holds w1 g u := blk_below hu h5
    refine ⟨rfl, ⟨v, blk_set hu1 0 v, ?_⟩, (Fr.of_below h5 _).then (Fr.set ⟨g, 0, none⟩ v)⟩
    exact Kd.R_mono (Kd.R_far (p := ⟨g, 0, none⟩) (Kd.R_types (Kd.R_lower h6 hb) hu1 (by decide)) (fun _ hk => hk.2) v) (fun _ _ => trivial)
theorem add_set {w : World} {base g : Nat} {L : List S82} (hs : IsSet w base g L) (hb : base ≤ w.heap.size) (hL : L.length ≤ 1000000) (a b : Int) :
    Calls Try.prog 72 #[.pointer (some ⟨g, 0, none⟩), .agg #[.int .i64 a, .int .i64 b]] w fun e w' => e = .returned (.int .i64 (addR L a b).2) ∧ IsSet w' base g (addR L a b).1 ∧ Touch w w' g := by
  have hs' := hs
  obtain ⟨v, h1, h2⟩ := hs
  obtain ⟨A, c, rfl, hc, hC⟩ := Kd.R_reads h2
  refine (sizes_Ranges_Add.calls (L.length + 1) g A c L a b _ (canB a b) w (can_f a b) hC hc h1 (add_f (L.length + 1) L hL (by omega) a b)).mono fun e w' h => ?_
  refine set_post hs' hb h _ ?_
  unfold addR
  by_cases c1 : canB a b = true
  · simp only [if_pos c1]
    by_cases c2 : a = b
    · simp only [if_pos c2]
    · simp only [if_neg c2]
  · simp only [if_neg c1]
theorem gaps_set {w : World} {base g : Nat} {L : List S82} (hs : IsSet w base g L) (hL : L.length ≤ 1000000) (a b : Int) :
    Calls Try.prog 73 #[.pointer (some ⟨g, 0, none⟩), .agg #[.int .i64 a, .int .i64 b]] w fun e w' => ∃ v0_ : Value, e = .returned v0_ ∧ Kd.R k82 82 w' w.heap.size (fun _ => True) v0_ (gapsR L a b) ∧ Below w.heap.size w w' := by
  obtain ⟨v, h1, h2⟩ := hs
  obtain ⟨A, c, rfl, hc, hC⟩ := Kd.R_reads h2
  exact sizes_Ranges_Gaps.calls (L.length + 1) g A c L a b _ w hC hc h1 (gaps_f (L.length + 1) L hL (by omega) a b)
end Go.Proofs.Ytnkcbkfccbfjpaa.Rng
/- Missing of volumes (f41), where gather finds a set, or nothing was handed in. -/
namespace Go.Proofs.Ytnkcbkfccbfjpaa.Z
open Go.RowKit Go.Proofs.Ytnkcbkfccbfjpaa.XxhW Go.Proofs.Ytnkcbkfccbfjpaa.Rng Go.Proofs.Ytnkcbkfccbfjpaa.RSizesRanges Go.Proofs.YtnkcbkfccbfjpaaW.PrintWords Go.Proofs.YtnkcbkfccbfjpaaW.PrintLast Go.Proofs.YtnkcbkfccbfjpaaW.PrintMore
set_option linter.unusedVariables false
set_option linter.unusedSimpArgs false
def haveL (v0 : Vol) (P : List (Option (List Int))) : Nat → List S82
  | 0 => []
  | i + 1 => match slot P i with | none => haveL v0 P i | some _ => (addR (haveL v0 P i) (placeP v0 i).1 (placeP v0 i).2).1
theorem haveL_len (v0 : Vol) (P : List (Option (List Int))) : ∀ i, (haveL v0 P i).length ≤ 65536
  | 0 => by simp [haveL]
  | i + 1 => by
    have h := haveL_len v0 P i
    rw [haveL]
    split
    · exact h
    · unfold addR
      split
      · split
        · exact h
        · split
          · exact h
          · dsimp only; omega
      · exact h
set_option maxHeartbeats 8000000 in
set_option maxRecDepth 100000 in
theorem missing_ok (A : Option Addr) (cl nl : Nat) (w : World) (v0 : Vol) (P : List (Option (List Int))) (hc1 : 1 ≤ v0.cnt ∧ v0.cnt ≤ 1000) (hst : 0 ≤ stepV v0 ∧ stepV v0 ≤ 4194304)
    (hg : Calls Try.prog 69 #[.slice A nl cl] w fun e w' => Below w.heap.size w w' ∧ ∃ gw, e = .returned (.tuple #[.pointer (some ⟨gw, 0, none⟩), .int .i64 0]) ∧ Whole w w' gw v0 P) :
    Calls Try.prog 41 #[.slice A nl cl] w fun e w' => ∃ v, e = .returned (.tuple #[v, .int .i64 0]) ∧ Kd.R k82 82 w' w.heap.size (fun _ => True) v (gapsR (haveL v0 P v0.cnt.toNat) 0 v0.whole) ∧ Below w.heap.size w w' := by
  have HG := Aside0.mk hg
  have HF := Aside0.mk (And.intro hc1 hst)
  obtain ⟨c, hcc⟩ : ∃ c : Nat, v0.cnt = (c : Int) := ⟨v0.cnt.toNat, by omega⟩
  have hct : v0.cnt.toNat = c := by omega
  rw [hct]
  have hcb : 1 ≤ c ∧ c ≤ 1000 := by omega
  have HCN := Aside0.mk hcc
  have HCT := Aside0.mk hct
  have HC1 := Aside0.mk hcb
  clear hg hcc hct hc1 hst
  refine hide_post (fun Q HQ => ?_)
  go_enter Try.func41, Try.ntmps41
  go_upto_region 5 with (go_at_call 69; refine HG.out.mono ?_; rintro e w1 ⟨hb, gw, rfl, hw⟩; have HWH := Aside0.mk hw; have HBW := Aside0.mk hb; clear hb hw)
  obtain ⟨gl, cap, ps, hwat⟩ := HWH.out.wat HBW.out HCT.out
  have HW1 := Aside0.mk hwat
  clear hwat HWH HBW
  have HB2 := Aside0.mk (below_alloc (Below.refl w1.heap.size w1) (.cells #[.slice none 0 0] 122))
  have HS2 := Aside0.mk (show IsSet (w1.alloc (.cells #[.slice none 0 0] 122)) w.heap.size w1.heap.size [] from ⟨_, heap_alloc_new w1 _, Kd.R_nil _ _ _ _ _⟩)
  obtain ⟨w2, hw2⟩ : ∃ w2, w2 = w1.alloc (.cells #[.slice none 0 0] 122) := ⟨_, rfl⟩
  rw [← hw2] at HB2 HS2 ⊢
  clear hw2
  have HGE := Aside0.mk (show w1.heap.size ≤ w1.heap.size from Nat.le_refl _)
  have HLE := Aside0.mk HW1.out.bel.size
  obtain ⟨gs, hgs⟩ : ∃ gs, gs = w1.heap.size := ⟨_, rfl⟩
  have HGS := Aside0.mk hgs
  rw [← hgs] at HS2 ⊢
  clear hgs HGE
  have HW2 := Aside0.mk (HW1.out.below HB2.out)
  obtain ⟨i0, hi, _, hsz, _⟩ := info_parts info116
  have hcap := (Kd.R_reads' HW2.out.row).2.1
  have kS : ∀ W : World, (Instr.slice 117 (.slice (some ⟨gl, 0, none⟩) (c + 1) cap) none (some (.int .i64 (c : Int))) none).run Try.prog W = .ok (.slice (some ⟨gl, 0, none⟩) c cap) W := fun W => slice_run 117 116 Try.underlying117 hi hsz _ (c + 1) cap c (by omega) W
  clear hi hsz hcap
  have c8 : w2.drew.cell? ⟨gw, 8, none⟩ = some (.slice (some ⟨gl, 0, none⟩) (c + 1) cap) := cell_of_row w2.drew _ 8 _ 119 (0, 0) HW2.out.blk
  have c2 : w2.drew.cell? ⟨gw, 2, none⟩ = some (.int .i64 (c : Int)) := by rw [← HCN.out]; exact cell_of_row w2.drew _ 2 _ 119 (0, 0) HW2.out.blk
  have HBd := Aside0.mk (below_drew HB2.out)
  have HSd := Aside0.mk (HS2.out.below (below_drew (Below.refl w2.heap.size w2)))
  refine start_ (n := 12) (S := fun w' => w'.cell? ⟨gw, 8, none⟩ = some (.slice (some ⟨gl, 0, none⟩) (c + 1) cap) ∧ w'.cell? ⟨gw, 2, none⟩ = some (.int .i64 (c : Int))) (ds := []) #[false, false, false, false, false, false, false, false, false, false, false, false] (by kernel_rfl) rfl rfl ⟨c8, c2⟩ (fun hHeld => ?_)
  generalize w2.drew = wd at c8 c2 HBd HSd hHeld ⊢
  refine pure_ (i := 0) (N := some 17) (v := ?_) (a' := ?_) #[true, false, false, false, false, false, false, false, false, false, false, false] rfl rfl (by kernel_rfl) (fun _ _ _ h => h) (Or.inl ⟨by rfl, ?_⟩) ?_ ?_
  rotate_left
  · intro w'
    go_simp
    with_reducible rfl
  rotate_left
  · simp only [Act.put, List.setIfInBounds_toArray, List.set_cons_zero, List.set_cons_succ, i64_w, i32_w]
    rfl
  refine pure_ (i := 1) (N := some 18) (v := ?_) (a' := ?_) #[true, true, false, false, false, false, false, false, false, false, false, false] rfl rfl (by kernel_rfl) (fun _ _ _ h => h) (Or.inl ⟨by rfl, ?_⟩) ?_ ?_
  rotate_left
  · intro w'
    go_simp
    with_reducible rfl
  rotate_left
  · simp only [Act.put, List.setIfInBounds_toArray, List.set_cons_zero, List.set_cons_succ, i64_w, i32_w]
    rfl
  refine pure_ (i := 2) (N := some 19) (v := ?_) (a' := ?_) #[true, true, true, false, false, false, false, false, false, false, false, false] rfl rfl (by kernel_rfl) (fun _ _ _ h => h) (Or.inl ⟨by rfl, ?_⟩) ?_ ?_
  rotate_left
  · intro w'
    go_simp
    with_reducible rfl
  rotate_left
  · simp only [Act.put, List.setIfInBounds_toArray, List.set_cons_zero, List.set_cons_succ, i64_w, i32_w]
    rfl
  refine pure_ (i := 4) (N := some 21) (v := ?_) (a' := ?_) #[true, true, true, false, true, false, false, false, false, false, false, false] rfl rfl (by kernel_rfl) (fun _ _ _ h => h) (Or.inl ⟨by rfl, ?_⟩) ?_ ?_
  rotate_left
  · intro w'
    go_simp
    with_reducible rfl
  rotate_left
  · simp only [Act.put, List.setIfInBounds_toArray, List.set_cons_zero, List.set_cons_succ, i64_w, i32_w]
    rfl
  refine pure_ (i := 5) (N := some 22) (v := ?_) (a' := ?_) #[true, true, true, false, true, true, false, false, false, false, false, false] rfl rfl (by kernel_rfl) (fun _ _ _ h => h) (Or.inl ⟨by rfl, ?_⟩) ?_ ?_
  rotate_left
  · intro w'
    go_simp
    with_reducible rfl
  rotate_left
  · simp only [Act.put, List.setIfInBounds_toArray, List.set_cons_zero, List.set_cons_succ, i64_w, i32_w]
    rfl
  refine pure_ (i := 6) (N := some 23) (v := ?_) (a' := ?_) #[true, true, true, false, true, true, true, false, false, false, false, false] rfl rfl (by kernel_rfl) (fun _ _ _ h => h) (Or.inl ⟨by rfl, ?_⟩) ?_ ?_
  rotate_left
  · intro w'
    go_simp
    with_reducible rfl
  rotate_left
  · simp only [Act.put, List.setIfInBounds_toArray, List.set_cons_zero, List.set_cons_succ, i64_w, i32_w]
    rfl
  refine pure_ (i := 7) (N := some 24) (v := ?_) (a' := ?_) #[true, true, true, false, true, true, true, true, false, false, false, false] rfl rfl (by kernel_rfl) (fun _ _ _ h => h) (Or.inl ⟨by rfl, ?_⟩) ?_ ?_
  rotate_left
  · intro w'
    go_simp
    with_reducible rfl
  rotate_left
  · simp only [Act.put, List.setIfInBounds_toArray, List.set_cons_zero, List.set_cons_succ, i64_w, i32_w]
    rfl
  refine pure_ (i := 11) (N := some 28) (v := ?_) (a' := ?_) #[true, true, true, false, true, true, true, true, false, false, false, true] rfl rfl (by kernel_rfl) (fun _ _ _ h => h) (Or.inl ⟨by rfl, ?_⟩) ?_ ?_
  rotate_left
  · intro w'
    go_simp
    with_reducible rfl
  rotate_left
  · simp only [Act.put, List.setIfInBounds_toArray, List.set_cons_zero, List.set_cons_succ, i64_w, i32_w]
    rfl
  refine take_ (i := 3) (N := some 20) (v := ?_) (a' := ?_) #[true, true, true, true, true, true, true, true, false, false, false, true] rfl rfl (by kernel_rfl) (fun _ _ _ h => h) (Or.inl ⟨by rfl, ?_⟩) hHeld ?_ ?_
  rotate_left
  · rintro w' ⟨s0, s1⟩
    go_simp
    with_reducible rfl
  rotate_left
  · simp only [Act.put, List.setIfInBounds_toArray, List.set_cons_zero, List.set_cons_succ, i64_w, i32_w]
    rfl
  refine take_ (i := 8) (N := some 25) (v := ?_) (a' := ?_) #[true, true, true, true, true, true, true, true, true, false, false, true] rfl rfl (by kernel_rfl) (fun _ _ _ h => h) (Or.inl ⟨by rfl, ?_⟩) hHeld ?_ ?_
  rotate_left
  · rintro w' ⟨s0, s1⟩
    go_simp
    with_reducible rfl
  rotate_left
  · simp only [Act.put, List.setIfInBounds_toArray, List.set_cons_zero, List.set_cons_succ, i64_w, i32_w]
    rfl
  refine pure_ (i := 9) (N := some 26) (v := ?_) (a' := ?_) #[true, true, true, true, true, true, true, true, true, true, false, true] rfl rfl (by kernel_rfl) (fun _ _ _ h => h) (Or.inl ⟨by rfl, ?_⟩) ?_ ?_
  rotate_left
  · intro w'
    go_simp
    with_reducible rfl
  rotate_left
  · simp only [Act.put, List.setIfInBounds_toArray, List.set_cons_zero, List.set_cons_succ, i64_w, i32_w]
    rfl
  refine pure_ (i := 10) (N := some 27) (v := ?_) (a' := ?_) #[true, true, true, true, true, true, true, true, true, true, true, true] rfl rfl (by kernel_rfl) (fun _ _ _ h => h) (Or.inl ⟨by rfl, ?_⟩) ?_ ?_
  rotate_left
  · intro w'
    go_simp
    with_reducible rfl
  rotate_left
  · simp only [Act.put, List.setIfInBounds_toArray, List.set_cons_zero, List.set_cons_succ, i64_w, i32_w]
    rfl
  refine done_ (by kernel_rfl) ?_
  go_upto_region 6 with fail
  clear c8 c2 hHeld HS2 HB2 HW2
  obtain ⟨kf, hkf⟩ : ∃ kf, kf = c + 1 := ⟨_, rfl⟩
  have HKF := Aside0.mk hkf
  clear hkf kS
  go_loopg [28] kf (fun kq v28 w' => ∃ i : Nat, v28 = .int .i64 (i : Int) ∧ Aside0 (IsSet w' w.heap.size gs (haveL v0 P i)) ∧ Aside0 (Below w1.heap.size w1 w') ∧ Aside0 (i ≤ c ∧ c < i + kq))
  case atStart => exact ⟨0, by first | rfl | (simp; done), HSd, HBd, ⟨Nat.zero_le _, by have := HKF.out; omega⟩⟩
  case round =>
    obtain ⟨i, rfl, HSI, HBI, HMI⟩ := hrel
    cases gk with
    | zero => exact absurd HMI.out (by omega)
    | succ k1 =>
    have HWR := Aside0.mk (HW1.out.below HBI.out)
    by_cases hi : i < c
    · have hd : decide (i < c) = true := decide_eq_true hi
      have hdi : (i : Int) < (c : Int) := by omega
      obtain ⟨pi, hpi⟩ : ∃ pi, pi = ps.getD i none := ⟨_, rfl⟩
      have am : wr.cell? ⟨gl, i, none⟩ = some (.pointer pi) := by
        have h := (Kd.R_celln (enc := Value.pointer) (h1 := fun _ => rfl) (none : Option Addr) HWR.out.row (i : Int) (by omega) (by omega)).1
        rw [Int.toNat_natCast] at h
        rw [hpi]
        exact h
      rcases HWR.out.mat i (by omega) with h | ⟨adi, Ai, oi, ci, f1, f2, _⟩
      · rw [← hpi] at h
        obtain ⟨rfl, hsl⟩ := h
        have hxa : haveL v0 P (i + 1) = haveL v0 P i := by rw [haveL, hsl]
        have HXA := Aside0.mk hxa
        clear hxa hsl hpi
        go_wp2
        go_roundg k1
        case measure => have := HMI.out; omega
        case rel => exact ⟨i + 1, by first | rfl | (rw [wrap_succ _ (by have := HC1.out; omega)]), ⟨by rw [HXA.out]; exact HSI.out⟩, HBI, ⟨by have := HMI.out; omega, by have := HMI.out; omega⟩⟩
      · rw [← hpi] at f1
        subst f1
        obtain ⟨fr, tq, hft⟩ : ∃ fr tq, placeP v0 i = (fr, tq) := ⟨_, _, rfl⟩
        have hxa : haveL v0 P (i + 1) = (addR (haveL v0 P i) fr tq).1 := by rw [haveL, f2, hft]
        have HXA := Aside0.mk hxa
        have hpc := place_calls v0 gw gl (c + 1) cap i wr HWR.out.blk HF.out.2 (by have := HC1.out; omega) HF.out.1
        rw [hft] at hpc
        have HPC := Aside0.mk hpc
        have HAD := Aside0.mk (fun (W : World) (hs : IsSet W w.heap.size gs (haveL v0 P i)) (hb : w.heap.size ≤ W.heap.size) => add_set hs hb (by have := haveL_len v0 P i; omega) fr tq)
        clear hxa hpi f2 hft hpc
        go_wp2_with (first | (go_at_call 71; refine HPC.out.mono ?_; rintro e w5 ⟨rfl, hb⟩; have HB5 := Aside0.mk hb; clear hb) | (go_at_call 72; refine (HAD.out _ (HSI.out.below HB5.out) (Nat.le_trans HWR.out.bel.size HB5.out.size)).mono ?_; rintro e w6 ⟨rfl, hs, ht⟩; have HS6 := Aside0.mk hs; have HB6 := Aside0.mk (Touch.below ht (below_step HBI.out HB5.out) (Nat.le_of_eq HGS.out.symm)); clear hs ht))
        go_roundg k1
        case measure => have := HMI.out; omega
        case rel => exact ⟨i + 1, by first | rfl | (rw [wrap_succ _ (by have := HC1.out; omega)]), ⟨by rw [HXA.out]; exact HS6.out⟩, HB6, ⟨by have := HMI.out; omega, by have := HMI.out; omega⟩⟩
    · have hd : decide (i < c) = false := decide_eq_false hi
      have hie : i = c := by have := HMI.out; omega
      subst hie
      have c4 : wr.cell? ⟨gw, 4, none⟩ = some (.int .i64 v0.whole) := cell_of_row wr _ 4 _ 119 (0, 0) HWR.out.blk
      have HGP := Aside0.mk (gaps_set HSI.out (by have := haveL_len v0 P i; omega) 0 v0.whole)
      go_wp2_with (go_at_call 73; refine HGP.out.mono ?_; rintro e w7 ⟨v7, rfl, ho, hb⟩; have HO7 := Aside0.mk ho; have HB7 := Aside0.mk hb; clear ho hb)
      exact HQ.out _ _ ⟨_, rfl, Kd.R_lower HO7.out HWR.out.bel.size, below_step HWR.out.bel HB7.out⟩
set_option maxHeartbeats 4000000 in
set_option maxRecDepth 100000 in
theorem missing_bad (A : Option Addr) (cl nl : Nat) (w : World) (er : Int) (he : (er != 0) = true)
    (hg : Calls Try.prog 69 #[.slice A nl cl] w fun e w' => Below w.heap.size w w' ∧ e = .returned (.tuple #[.pointer none, .int .i64 er])) :
    Calls Try.prog 41 #[.slice A nl cl] w fun e w' => ∃ v, e = .returned (.tuple #[v, .int .i64 er]) ∧ Kd.R k82 82 w' w.heap.size (fun _ => True) v ([] : List S82) ∧ Below w.heap.size w w' := by
  have HG := Aside0.mk hg
  clear hg
  go_enter Try.func41, Try.ntmps41
  go_wp2_with (go_at_call 69; refine HG.out.mono ?_; rintro e w1 ⟨hb, rfl⟩; have HB := Aside0.mk hb; clear hb)
  go_ret2
  exact ⟨_, rfl, Kd.R_nil _ _ _ _ _, by repeat (first | exact HB.out | apply below_alloc | apply pw_below_drewN | apply below_drew1)⟩
end Go.Proofs.Ytnkcbkfccbfjpaa.Z
/- Join of volumes (f40), where gather finds a set: the walk. -/
/- Join of volumes (f40), whole: at any bytes. -/
namespace Go.Proofs.Ytnkcbkfccbfjpaa.Z
open Go.RowKit Go.Proofs.Ytnkcbkfccbfjpaa.XxhW Go.Proofs.Ytnkcbkfccbfjpaa.QVolumesCuts Go.Proofs.YtnkcbkfccbfjpaaW.PrintWords Go.Proofs.YtnkcbkfccbfjpaaW.PrintLast Go.Proofs.YtnkcbkfccbfjpaaW.PrintMore
set_option linter.unusedVariables false
set_option linter.unusedSimpArgs false
theorem fillAll_some {v0 : Vol} {G : Nat → List Int → Prop} : ∀ (l : List Vol) (P P' : List (Option (List Int))), fillAll v0 l P = some P' → (∀ v ∈ l, 0 ≤ v.num ∧ v.num.toNat < P.length) → (∀ k o, slot P k = some o → G k o) → (∀ v ∈ l, agree v0 v = true → G v.num.toNat v.b) → (∀ k o, slot P' k = some o → G k o) ∧ P'.length = P.length ∧ ∀ v ∈ l, agree v0 v = true
  | [], P, P', h, _, h1, _ => by
    rw [fillAll] at h
    injection h with h
    subst h
    exact ⟨h1, rfl, fun v hv => absurd hv (by simp)⟩
  | v :: l, P, P', h, hn, h1, h2 => by
    rw [fillAll] at h
    by_cases c : agree v0 v = true ∧ (slot P v.num.toNat = none ∨ slot P v.num.toNat = some v.b)
    · rw [if_pos c] at h
      obtain ⟨g1, g2, g3⟩ := fillAll_some l _ _ h (fun u hu => by rw [List.length_set]; exact hn u (by simp [hu])) (fun k o hk => by
        rw [slot_set _ _ _ _ (hn v (by simp)).2] at hk
        by_cases e : k = v.num.toNat
        · rw [if_pos e] at hk
          injection hk with hk
          rw [e, ← hk]
          exact h2 v (by simp) c.1
        · rw [if_neg e] at hk
          exact h1 k o hk) (fun u hu => h2 u (by simp [hu]))
      refine ⟨g1, by rw [g2, List.length_set], fun u hu => ?_⟩
      rcases List.mem_cons.1 hu with rfl | hu
      · exact c.1
      · exact g3 u hu
    · rw [if_neg c] at h
      exact absurd h (by simp)
theorem agree_iff {v0 v : Vol} : agree v0 v = true ↔ v.set = v0.set ∧ v.cnt = v0.cnt ∧ v.whole = v0.whole ∧ stepV v = stepV v0 := by
  unfold agree
  simp only [Bool.and_eq_true, beq_iff_eq]
  exact ⟨fun h => ⟨h.1.1.1, h.1.1.2, h.1.2, h.2⟩, fun h => ⟨⟨⟨h.1, h.2.1⟩, h.2.2.1⟩, h.2.2.2⟩⟩
/-- What is in a slot: a volume of that number, of the set. -/
def InSlot (v0 : Vol) (k : Nat) (o : List Int) : Prop := ∃ v : Vol, VolOk v (stepV v0) ∧ v.cnt = v0.cnt ∧ v.whole = v0.whole ∧ v.num = (k : Int) ∧ v.b = o
theorem gather_slots (L : List (List Int)) (h : (gatherR getE volOf L).1 = 0) :
    VolOk (gatherR getE volOf L).2.1 (stepV (gatherR getE volOf L).2.1) ∧ (∀ k o, slot (gatherR getE volOf L).2.2 k = some o → InSlot (gatherR getE volOf L).2.1 k o) ∧ (gatherR getE volOf L).2.2.length = (gatherR getE volOf L).2.1.cnt.toNat + 1 := by
  unfold gatherR at h ⊢
  by_cases hE : firstE getE L = 0
  · rw [if_pos hE] at h ⊢
    have hok : ∀ v ∈ L.map volOf, VolOk v (stepV v) := fun v hv => by
      obtain ⟨b, hb, rfl⟩ := List.mem_map.1 hv
      exact getE_ok (firstE_ok getE L hE b hb)
    generalize L.map volOf = M at h hok ⊢
    cases M with
    | nil => exact absurd h (by decide)
    | cons v0 l =>
      dsimp only at h ⊢
      cases hf : fillAll v0 (v0 :: l) (List.replicate (v0.cnt.toNat + 1) none) with
      | none => rw [hf] at h; exact absurd h (by simp)
      | some P =>
        rw [hf] at h
        dsimp only
        have h0 := hok v0 (by simp)
        have hall : ∀ v ∈ (v0 :: l), agree v0 v = true → v.num.toNat < v0.cnt.toNat + 1 := fun v hv ha => by
          have h1 := (hok v hv).num
          have h2 := (agree_iff.1 ha).2.1
          omega
        have key : ∀ (l : List Vol) (P P' : List (Option (List Int))), fillAll v0 l P = some P' → ∀ v ∈ l, agree v0 v = true := by
          intro l
          induction l with
          | nil => intro P P' _ v hv; exact absurd hv (by simp)
          | cons u l ih =>
            intro P P' hf v hv
            rw [fillAll] at hf
            by_cases c : agree v0 u = true ∧ (slot P u.num.toNat = none ∨ slot P u.num.toNat = some u.b)
            · rw [if_pos c] at hf
              rcases List.mem_cons.1 hv with rfl | hv
              · exact c.1
              · exact ih _ _ hf v hv
            · rw [if_neg c] at hf; exact absurd hf (by simp)
        have hag := key _ _ _ hf
        obtain ⟨g1, g2, g3⟩ := fillAll_some (G := InSlot v0) (v0 :: l) _ P hf (fun v hv => ⟨(hok v hv).num.1, by rw [List.length_replicate]; exact hall v hv (hag v hv)⟩) (fun k o hk => by
          exfalso
          unfold slot at hk
          rw [List.getD_eq_getElem?_getD, List.getElem?_replicate] at hk
          split at hk <;> simp at hk) (fun v hv ha => by
          have hs := agree_iff.1 ha
          have hv1 := hok v hv
          rw [hs.2.2.2] at hv1
          exact ⟨v, hv1, hs.2.1, hs.2.2.1, by have := hv1.num; omega, rfl⟩)
        exact ⟨h0, g1, by rw [g2, List.length_replicate]⟩
  · rw [if_neg hE] at h
    exact absurd h hE
theorem mul_pred (a s : Int) : (a - 1) * s = a * s - s := by rw [Int.sub_mul, Int.one_mul]
theorem fit_of {v0 : Vol} {P : List (Option (List Int))} (h0 : VolOk v0 (stepV v0)) (h : ∀ k o, slot P k = some o → InSlot v0 k o) : Fit v0 P := by
  have hc := h0.cnt
  have hw := h0.whole
  obtain ⟨s, hs⟩ : ∃ s, s = stepV v0 := ⟨_, rfl⟩
  have hsz : ∀ k o, slot P k = some o → (k : Int) ≤ v0.cnt ∧ (v0.cnt = 1 → (o.length : Int) = v0.whole) ∧ (v0.cnt ≠ 1 → ((k : Int) = v0.cnt → (o.length : Int) = s) ∧ (o.length : Int) ≤ s) := by
    intro k o hk
    obtain ⟨v, h1, h2, h3, h4, h5⟩ := h k o hk
    rw [← hs] at h1
    have hz := h1.size.1
    rw [h5] at hz
    refine ⟨by have := h1.num; omega, fun e => ?_, fun e => ?_⟩
    · have := (h1.one (by omega)).2.1
      omega
    · obtain ⟨m1, m2, m3, m4, m5, m6, m7⟩ := h1.more (by omega)
      refine ⟨fun e2 => by have := (m5 (by omega)).1; omega, ?_⟩
      have hp : (v.cnt - 1) * s = v.cnt * s - s := mul_pred _ _
      by_cases q1 : v.num = v.cnt
      · have := (m5 q1).1; omega
      · by_cases q2 : v.num = v.cnt - 1
        · have h7 := (m6 q2).1
          rw [q2, Int.mul_comm] at h7
          rw [hp] at h7
          omega
        · have := (m7 (by have := h1.num; omega)).1; omega
  have hst : v0.cnt = 1 → s = 0 := fun e => by rw [hs]; exact (h0.one e).1
  have hmo : v0.cnt ≠ 1 → 1 ≤ s ∧ s ≤ v0.whole ∧ (v0.cnt - 1) * s < v0.whole ∧ v0.whole ≤ v0.cnt * s := fun e => by
    obtain ⟨m1, m2, m3, m4, _⟩ := h0.more e
    rw [← hs] at m1 m2 m3 m4
    exact ⟨m1, m2, m3, m4⟩
  refine ⟨hc, ?_, fun b hb k hk o ho => ?_, fun b hb g hg => ?_⟩
  · rw [← hs]
    by_cases e : v0.cnt = 1
    · rw [hst e]; decide
    · have := hmo e; omega
  · obtain ⟨a1, a2, a3⟩ := hsz _ b hb
    obtain ⟨b1, b2, b3⟩ := hsz k o ho
    by_cases e : v0.cnt = 1
    · have := a2 e; have := b2 e; omega
    · have := (a3 e).1 (by omega); have := (b3 e).2; omega
  · obtain ⟨a1, a2, a3⟩ := hsz _ b hb
    unfold placeP
    by_cases e : v0.cnt = 1
    · rw [if_pos e]
      have := a2 e
      dsimp only
      omega
    · rw [if_neg e, ← hs]
      have := (a3 e).1 (by omega)
      obtain ⟨m1, m2, m3, m4⟩ := hmo e
      have hgs : (g : Int) * s ≤ (v0.cnt - 1) * s := Int.mul_le_mul_of_nonneg_right (by omega) (by omega)
      dsimp only
      generalize (g : Int) * s = x at hgs ⊢
      generalize (v0.cnt - 1) * s = y at hgs m3
      split <;> omega
theorem gather_fit (L : List (List Int)) (h : (gatherR getE volOf L).1 = 0) : Fit (gatherR getE volOf L).2.1 (gatherR getE volOf L).2.2 := by
  obtain ⟨h1, h2, _⟩ := gather_slots L h
  exact fit_of h1 h2
/-- Lists that may be handed to Join. -/
def lawful (L : List (List Int)) : Bool := (L.all fun b => isByte b && decide (b.length ≤ 100000000)) && decide (L.length ≤ 1000000000)
theorem lawful_iff (L : List (List Int)) : lawful L = true ↔ (∀ b ∈ L, isByte b = true ∧ b.length ≤ 100000000) ∧ L.length ≤ 1000000000 := by
  unfold lawful
  rw [Bool.and_eq_true, List.all_eq_true, decide_eq_true_eq]
  refine and_congr ?_ Iff.rfl
  refine forall_congr' fun b => forall_congr' fun _ => ?_
  rw [Bool.and_eq_true, decide_eq_true_eq]
end Go.Proofs.Ytnkcbkfccbfjpaa.Z
/- Missing of volumes (f41), at volumes that belong together. -/
namespace Go.Proofs.Ytnkcbkfccbfjpaa.Z
open Go.RowKit Go.Proofs.Ytnkcbkfccbfjpaa.XxhW Go.Proofs.Ytnkcbkfccbfjpaa.Rng Go.Proofs.Ytnkcbkfccbfjpaa.RSizesRanges Go.Proofs.YtnkcbkfccbfjpaaW.PrintWords Go.Proofs.YtnkcbkfccbfjpaaW.PrintLast Go.Proofs.YtnkcbkfccbfjpaaW.PrintMore
set_option linter.unusedVariables false
set_option linter.unusedSimpArgs false
def missR (L : List (List Int)) : List S82 × Int :=
  if (gatherR getE volOf L).1 = 0 then (gapsR (haveL (gatherR getE volOf L).2.1 (gatherR getE volOf L).2.2 (gatherR getE volOf L).2.1.cnt.toNat) 0 (gatherR getE volOf L).2.1.whole, 0) else ([], (gatherR getE volOf L).1)
def volumes_Missing.f (l0 : List (List Int)) : Option (List S82 × Int) := if lawful l0 = true ∧ ((gatherR getE volOf l0).1 = 0 ∨ l0 = []) then some (missR l0) else none
theorem volumes_Missing.calls (A0 : Option Addr) (c0 : Nat) (l0 : List (List Int)) (r1 : List S82) (r2 : Int) (w : World) (hr0 : Kd.C (Kd.slice 5 (Kd.int .u8)) w A0 l0.length l0) (hc0 : l0.length ≤ c0) (h : volumes_Missing.f l0 = some (r1, r2)) :
    Calls Try.prog 41 #[.slice A0 l0.length c0] w fun e w' => ∃ v0_ : Value, e = .returned (.tuple #[v0_, .int .i64 r2]) ∧ Kd.R k82 82 w' w.heap.size (fun _ => True) v0_ r1 ∧ Below w.heap.size w w' := by
  unfold volumes_Missing.f at h
  by_cases c : lawful l0 = true ∧ ((gatherR getE volOf l0).1 = 0 ∨ l0 = [])
  · rw [if_pos c] at h
    injection h with h
    obtain ⟨q1, q2⟩ := (lawful_iff l0).1 c.1
    have hg := gatherV_calls A0 c0 l0 w hr0 c.2 hc0 (fun b hb => ⟨(q1 b hb).2, (isByte_iff b).1 (q1 b hb).1⟩) q2
    unfold missR at h
    by_cases e : (gatherR getE volOf l0).1 = 0
    · rw [if_pos e] at h
      injection h with h1 h2
      subst h1 h2
      have hf := gather_fit l0 e
      exact missing_ok A0 c0 l0.length w _ _ hf.cnt hf.step (hg.mono fun e' w' ⟨g1, _, g3⟩ => ⟨g1, g3 e⟩)
    · rw [if_neg e] at h
      injection h with h1 h2
      subst h1 h2
      exact missing_bad A0 c0 l0.length w _ (by simpa using e) (hg.mono fun e' w' ⟨g1, g2, _⟩ => ⟨g1, g2 e⟩)
  · rw [if_neg c] at h; exact absurd h (by simp)
end Go.Proofs.Ytnkcbkfccbfjpaa.Z
/- The walk of VolumesMissing (most of it printed by a program of the kit's, turned to contracts of mine). -/
namespace Go.Proofs.Ytnkcbkfccbfjpaa.SVolumesMissing
open Go.RowKit Go.Proofs.YtnkcbkfccbfjpaaW.PrintWords Go.Proofs.YtnkcbkfccbfjpaaW.PrintLast Go.Proofs.YtnkcbkfccbfjpaaW.PrintMore
open Go.Proofs.Ytnkcbkfccbfjpaa.QVolumesCuts
open Go.Proofs.Ytnkcbkfccbfjpaa.Z
open Go.Proofs.Ytnkcbkfccbfjpaa.RSizesRanges hiding errW errW_none errW_some
attribute [local go_sem] max2_int min2_int max_two min_two max_three min_three max_four min_four   -- for this text's walks alone
set_option linter.unusedVariables false
set_option linter.unusedSimpArgs false

/-! ### satchellaw27_copies: function 39 -/
def satchellaw27_copies.l0 : Nat → List (List Int) → List (List Int) → Int → Option ((List (List Int)))
  | 0, _, _, _ => none
  | k + 1, x0, x3, x4 => if x4 < (x0.length : Int) then ((some (([] : List Int) : List Int)).bind fun y246 => (if 0 ≤ x4 then (if y246.length + (rd_L1 x0 x4).length < 140737488355328 then (if x3.length < 5864062014805 then (satchellaw27_copies.l0 k x0 (x3 ++ [(y246 ++ (rd_L1 x0 x4))]) (wrap64 (x4 + 1))) else (none)) else (none)) else (none))) else (some x3)
def satchellaw27_copies.f (k : Nat) (l0 : List (List Int)) : Option ((List (List Int))) := satchellaw27_copies.l0 k l0 (([] : List (List Int))) 0
set_option maxHeartbeats 8000000 in
set_option maxRecDepth 100000 in
theorem satchellaw27_copies.calls (k : Nat) (A0 : Option Addr) (c0 : Nat) (l0 : List (List Int)) (r : List (List Int)) (w : World) (hr0 : Kd.C (Kd.slice 5 (Kd.int .u8)) w A0 l0.length l0) (hc0 : l0.length ≤ c0) (h : satchellaw27_copies.f k l0 = some r) :
    Calls Try.prog 39 #[.slice A0 l0.length c0] w fun e w' => ∃ v0_ : Value, e = .returned (v0_) ∧ Kd.S (Kd.slice 5 (Kd.int .u8)) 22 w' w.heap.size (fun _ => True) v0_ r ∧ Below w.heap.size w w' := by
  have HR0 := Aside0.mk hr0
  have HC0 := Aside0.mk hc0
  clear hr0 hc0
  have HB := Aside0.mk (Below.refl w.heap.size w)
  have H : (satchellaw27_copies.l0 k l0 (([] : List (List Int))) 0) = some r := h
  clear h
  obtain ⟨y243, hy243⟩ : ∃ y_ : List (List Int), y_ = (([] : List (List Int))) := ⟨_, rfl⟩
  replace H : (satchellaw27_copies.l0 k l0 y243 0) = some r := by first | (rw [hy243]; with_reducible exact H) | (have H2_ := (Option.bind_some _ _).symm.trans H; rw [hy243]; with_reducible exact H2_) | (have H2_ := (Option.bind_some _ _).symm.trans H; with_reducible exact H2_) | with_reducible exact H | (rw [hy243]; exact H) | exact H
  have Ny243 := Aside0.mk hy243
  clear hy243
  have H' := Aside0.mk H
  clear H
  go_enter Try.func39, Try.ntmps39
  go_wp2_with (first | ((with_reducible refine gate_dst (N := 5) rfl ?_); refine Kd.S_lit (Kd.slice 5 (Kd.int .u8)) _ 22 ?hg (N := 5) ?hd (xs := ([] : List (List Int))) (inner := []) (ok := fun _ => True) (okp := fun _ => True) ?hr ?hp (fun _ hk => hk) trivial (Below.refl _ _) (Nat.le_refl _) (by simp) ?_; (case hd => rfl); (case hg => rfl); (case hr => first | (go_simp; done) | (go_simp; rfl)); (case hp => exact (Reps.none _ _)); intro v244 w2 ho3 hb hg_ hnew_; clear hg_ hnew_; (first | rw [← Ny243.out] at ho3 | (simp only [Int.reduceToNat] at ho3; rw [← Ny243.out] at ho3)); have n0_ := Aside0.mk (Kd.S_lower ho3 (below_size (by repeat (first | (with_reducible first | exact HB.out | apply below_alloc | apply pw_below_drewN | apply below_drew1) | exact HB.out)))); have n1_ := Aside0.mk (below_step (by repeat (first | (with_reducible first | exact HB.out | apply below_alloc | apply pw_below_drewN | apply below_drew1) | exact HB.out)) hb); clear HB; have HO245 := n0_; have HB := n1_; clear n0_ n1_; clear hb ho3))
  go_loopg [3, 4] k (fun kq v3 v4 w' => ∃ (x3_1 : List (List Int)) (x4_1 : Int), v4 = .int .i64 x4_1 ∧ Aside0 (satchellaw27_copies.l0 kq l0 x3_1 x4_1 = some r) ∧ Aside0 (kq ≤ k) ∧ Aside0 (Kd.S (Kd.slice 5 (Kd.int .u8)) 22 w' w.heap.size (fun _ => True) v3 x3_1) ∧ Aside0 (Below w.heap.size w w'))
  case atStart => exact ⟨(y243), (0), (by first | rfl | (simp; done) | (simp [*]; done)), H', ⟨Nat.le_refl _⟩, ⟨by (with_reducible repeat (first | apply Kd.S_alloc | apply Kd.S_drewN | apply Kd.S_drew)); exact HO245.out⟩, ⟨by repeat (first | (with_reducible first | exact HB.out | apply below_alloc | apply pw_below_drewN | apply below_drew1) | exact HB.out)⟩⟩
  case round =>
    clear H'
    try clear p2
    try clear c3
    obtain ⟨x3_1, x4_1, rfl, HA, HK1, HO_3, HB⟩ := hrel
    cases gk with
    | zero => exact absurd HA.out (by simp [satchellaw27_copies.l0])
    | succ k1 =>
      have H := HA.out
      clear HA
      simp only [satchellaw27_copies.l0] at H
      by_cases c4 : x4_1 < (l0.length : Int)
      · rw [if_pos c4] at H
        have c4b0 : decide (x4_1 < (l0.length : Int)) = true := decide_eq_true c4
        clear c4
        obtain ⟨y246, hy246⟩ : ∃ y_ : List Int, y_ = (([] : List Int)) := ⟨_, rfl⟩
        replace H : (if 0 ≤ x4_1 then (if y246.length + (rd_L1 l0 x4_1).length < 140737488355328 then (if x3_1.length < 5864062014805 then (satchellaw27_copies.l0 k1 l0 (x3_1 ++ [(y246 ++ (rd_L1 l0 x4_1))]) (wrap64 (x4_1 + 1))) else (none)) else (none)) else (none)) = some r := by first | (rw [hy246]; with_reducible exact H) | (have H2_ := (Option.bind_some _ _).symm.trans H; rw [hy246]; with_reducible exact H2_) | (have H2_ := (Option.bind_some _ _).symm.trans H; with_reducible exact H2_) | with_reducible exact H | (rw [hy246]; exact H) | exact H
        have Ny246 := Aside0.mk hy246
        clear hy246
        by_cases c5 : 0 ≤ x4_1
        · rw [if_pos c5] at H
          have c5b0 : decide (0 ≤ x4_1) = true := decide_eq_true c5
          clear c5
          by_cases c6 : y246.length + (rd_L1 l0 x4_1).length < 140737488355328
          · rw [if_pos c6] at H
            have LMc6 := Aside0.mk c6
            clear c6
            obtain ⟨y250, hy250⟩ : ∃ y_ : List Int, y_ = (y246 ++ (rd_L1 l0 x4_1)) := ⟨_, rfl⟩
            replace H : (if x3_1.length < 5864062014805 then (satchellaw27_copies.l0 k1 l0 (x3_1 ++ [y250]) (wrap64 (x4_1 + 1))) else (none)) = some r := by first | (rw [hy250]; with_reducible exact H) | (have H2_ := (Option.bind_some _ _).symm.trans H; rw [hy250]; with_reducible exact H2_) | (have H2_ := (Option.bind_some _ _).symm.trans H; with_reducible exact H2_) | with_reducible exact H | (rw [hy250]; exact H) | exact H
            have Ny250 := Aside0.mk hy250
            clear hy250
            by_cases c7 : x3_1.length < 5864062014805
            · rw [if_pos c7] at H
              have LMc7 := Aside0.mk c7
              clear c7
              obtain ⟨y253, hy253⟩ : ∃ y_ : List (List Int), y_ = (x3_1 ++ [y250]) := ⟨_, rfl⟩
              replace H : (satchellaw27_copies.l0 k1 l0 y253 (wrap64 (x4_1 + 1))) = some r := by first | (rw [hy253]; with_reducible exact H) | (have H2_ := (Option.bind_some _ _).symm.trans H; rw [hy253]; with_reducible exact H2_) | (have H2_ := (Option.bind_some _ _).symm.trans H; with_reducible exact H2_) | with_reducible exact H | (rw [hy253]; exact H) | exact H
              have Ny253 := Aside0.mk hy253
              clear hy253
              have H' := Aside0.mk H
              clear H
              go_wp2_with (first | ((with_reducible refine gate_dst (N := 13) rfl ?_); refine Kd.R_lit (Kd.int .u8) _ 5 ?hg (N := 13) ?hd (xs := ([] : List Int)) (inner := []) (ok := fun _ => True) (okp := fun _ => True) ?hr ?hp (fun _ hk => hk) trivial (Below.refl _ _) (Nat.le_refl _) (by simp) ?_; (case hd => rfl); (case hg => rfl); (case hr => first | (go_simp; done) | (go_simp; rfl)); (case hp => exact (Reps.none _ _)); intro v247 w8 ho9 hb hg_ hnew_; clear hg_ hnew_; (first | rw [← Ny246.out] at ho9 | (simp only [Int.reduceToNat] at ho9; rw [← Ny246.out] at ho9)); have n0_ := Aside0.mk (Kd.S_elder' (by (with_reducible repeat (first | apply Kd.S_alloc | apply Kd.S_drewN | apply Kd.S_drew)); exact HO_3.out) (Kd.R_base ho9) hb); have n1_ := Aside0.mk (Kd.R_lower ho9 (below_size (by repeat (first | (with_reducible first | exact HB.out | apply below_alloc | apply pw_below_drewN | apply below_drew1) | exact HB.out)))); have n2_ := Aside0.mk (below_step (by repeat (first | (with_reducible first | exact HB.out | apply below_alloc | apply pw_below_drewN | apply below_drew1) | exact HB.out)) hb); clear HO_3; clear HB; have HO_3 := n0_; have HO248 := n1_; have HB := n2_; clear n0_ n1_ n2_; clear hb ho9; have p249 : 0 ≤ (x4_1 : Int) := of_decide_eq_true (by first | (with_reducible assumption) | assumption); have q249 : x4_1 < (l0.length : Int) := of_decide_eq_true (by first | (with_reducible assumption) | assumption); obtain ⟨ad249, A249_0, c249_0, e249, hx249_0, hl249_0, hi249_0⟩ := at_L1 HR0.out x4_1 p249 q249; cases e249; replace hx249_0 := (HB.out.cell (World.block_lt_of_cell? w _ hx249_0)).trans hx249_0; have HR249_0 := Aside0.mk hi249_0; have HC249_0 := Aside0.mk hl249_0; clear hi249_0 hl249_0; replace p249 := eq_true p249; replace q249 := eq_true q249) | ((with_reducible refine gate_builtin (b := .append) (xs := #[.tmp 13, .tmp 17]) rfl ?_); at_builtin; refine Kd.R_append_rows (Kd.int .u8) (w0 := w) w.heap.size rfl (.tmp 13) (.tmp 17) 22 5 (.int .u8 0) 1 rfl Try.underlying22 info5 rfl (by decide) (by omega) v247 y246 (rd_L1 l0 x4_1) _ _ _ (fun _ => True) (fun _ => False) rfl rfl ?aO ?aR (fun _ _ h => h) (fun _ h => h.elim) ?aF ?aB ?aS ?aL ?_; (case aR => repeat (first | exact (Kd.C_below HR249_0.out HB.out) | (with_reducible refine Kd.C_alloc ?_ _) | (with_reducible refine Kd.C_drewN ?_ _) | (with_reducible refine Kd.C_drew ?_))); (case aB => exact (by repeat (first | (with_reducible first | exact HB.out | apply below_alloc | apply pw_below_drewN | apply below_drew1) | exact HB.out))); (case aF => exact (fun _ _ => trivial)); (case aO => exact (by (with_reducible repeat (first | apply Kd.R_alloc | apply Kd.R_drewN | apply Kd.R_drew)); exact HO248.out)); (case aS => exact (below_size (by repeat (first | (with_reducible first | exact HB.out | apply below_alloc | apply pw_below_drewN | apply below_drew1) | exact HB.out)))); (case aL => have := LMc6.out; omega); intro v251 w10 ho hb hg hat; rw [← Ny250.out] at ho; have n0_ := Aside0.mk (Kd.S_after (ok := (fun _ => True)) (by (with_reducible repeat (first | apply Kd.S_alloc | apply Kd.S_drewN | apply Kd.S_drew)); exact HO_3.out) hg hat); have n1_ := Aside0.mk (hb); have n2_ := Aside0.mk (ho); clear HO_3; clear HB; clear HO248; have HO_3 := n0_; have HB := n1_; have HO252 := n2_; clear n0_ n1_ n2_; clear ho hb hg hat; obtain ⟨Ao12, co12, eo12⟩ := Kd.R_slice HO252.out; subst eo12) | ((with_reducible refine gate_builtin (b := .append) (xs := #[.tmp 12, .tmp 19]) rfl ?_); at_builtin; refine Kd.S_append (Kd.slice 5 (Kd.int .u8)) (w0 := w) w.heap.size rfl (.tmp 12) (.tmp 19) 28 22 (.slice none 0 0) 24 rfl Try.underlying28 info22 rfl (by decide) (by omega) u3 x3_1 y250 [.slice Ao12 y250.length co12] (fun _ => True) (fun k_ => some k_ = (.slice Ao12 y250.length co12 : Value).ownBlock) rfl rfl ?aP (fun k_ hk_ => ((Kd.R_mono (ok' := fun k_ => ((fun _ => True)) k_ ∧ some k_ ≠ (u3 : Value).ownBlock) (Kd.R_apart' (HO252.out) (Kd.S_typed HO_3.out) (by decide)) (fun k_ hk => ⟨trivial, hk.2⟩))).1 k_ hk_.symm) ?aF ?aO ?aB ?aS ?aL ?_; (case aP => exact Kd.M_row (Kd.R_mono (Kd.R_tight rfl (Kd.R_mono (ok' := fun k_ => ((fun _ => True)) k_ ∧ some k_ ≠ (u3 : Value).ownBlock) (Kd.R_apart' (HO252.out) (Kd.S_typed HO_3.out) (by decide)) (fun k_ hk => ⟨trivial, hk.2⟩))) (fun _ h_ => h_))); (case aB => exact (by repeat (first | (with_reducible first | exact HB.out | apply below_alloc | apply pw_below_drewN | apply below_drew1) | exact HB.out))); (case aF => exact (fun _ _ => trivial)); (case aO => exact (by (with_reducible repeat (first | apply Kd.S_alloc | apply Kd.S_drewN | apply Kd.S_drew)); exact Kd.S_mono HO_3.out (fun k_ hk => ⟨trivial, fun e_ => hk.2 e_⟩))); (case aS => exact (below_size (by repeat (first | (with_reducible first | exact HB.out | apply below_alloc | apply pw_below_drewN | apply below_drew1) | exact HB.out)))); (case aL => have := LMc7.out; omega); intro v254 w11 ho hb hg hat; rw [← Ny253.out] at ho; have n0_ := Aside0.mk (hb); have n1_ := Aside0.mk (ho); clear HB; clear HO_3; clear HO252; have HB := n0_; have HO255 := n1_; clear n0_ n1_; clear ho hb hg hat))
              go_roundg k1
              case measure => have := HK1.out; omega
              case rel => exact ⟨(y253), (wrap64 (x4_1 + 1)), (by first | rfl | (simp; done) | (simp [*]; done)), H', ⟨by have := HK1.out; omega⟩, ⟨by (with_reducible repeat (first | apply Kd.S_alloc | apply Kd.S_drewN | apply Kd.S_drew)); exact HO255.out⟩, ⟨by repeat (first | (with_reducible first | exact HB.out | apply below_alloc | apply pw_below_drewN | apply below_drew1) | exact HB.out)⟩⟩
            · rw [if_neg c7] at H
              exact absurd H (by simp)
          · rw [if_neg c6] at H
            exact absurd H (by simp)
        · rw [if_neg c5] at H
          exact absurd H (by simp)
      · rw [if_neg c4] at H
        have c4b0 : decide (x4_1 < (l0.length : Int)) = false := decide_eq_false c4
        clear c4
        obtain rfl := Option.some.inj H
        go_wp2
        go_ret
        exact ⟨_, by first | rfl | (simp [errW_none, errW_some] <;> rfl) | (simp [*, errW_none, errW_some] <;> rfl), by (with_reducible repeat (first | apply Kd.S_alloc | apply Kd.S_drewN | apply Kd.S_drew)); exact HO_3.out, by repeat (first | (with_reducible first | exact HB.out | apply below_alloc | apply pw_below_drewN | apply below_drew1) | exact HB.out)⟩

/-! ### satchellaw27_VolumesMissing: function 12 -/
mutual
def satchellaw27_VolumesMissing.l0 : Nat → List Bool → List (List Int) → Int → List (List Int) → Int → List Int → Int → Int → Bool → Option (Bool)
  | 0, _, _, _, _, _, _, _, _, _ => none
  | k + 1, x1, x5, x6, x7, x8, x276000, x276001, x276002, x276003 => if x8 < (x5.length : Int) then (if x8 < (x1.length : Int) then (if 0 ≤ x8 then (if rdOf false x1 x8 = true then (if x7.length < 5864062014805 then (satchellaw27_VolumesMissing.l0 k x1 x5 x6 (x7 ++ [rd_L1 x5 x8]) (wrap64 (x8 + 1)) x276000 x276001 x276002 x276003) else (none)) else (satchellaw27_VolumesMissing.l0 k x1 x5 x6 x7 (wrap64 (x8 + 1)) x276000 x276001 x276002 x276003)) else (none)) else (satchellaw27_VolumesMissing.l0 k x1 x5 x6 x7 (wrap64 (x8 + 1)) x276000 x276001 x276002 x276003)) else ((satchellaw27_copies.f k x7).bind fun t294 => ((volumes_Missing.f t294).bind fun bt297 => (if x6 = 0 then (satchellaw27_VolumesMissing.j1 k x7 bt297.1 bt297.2 ((x7.length : Int) == 0) x276000 x276001 x276002 x276003) else (satchellaw27_VolumesMissing.j1 k x7 bt297.1 bt297.2 true x276000 x276001 x276002 x276003))))
def satchellaw27_VolumesMissing.j1 : Nat → List (List Int) → List (S82) → Int → Bool → List Int → Int → Int → Bool → Option (Bool)
  | 0, _, _, _, _, _, _, _, _ => none
  | k + 1, x7, x9, x10, x70, x276000, x276001, x276002, x276003 => if x70 = true then (if x10 = 272 then (some ((x9.length : Int) == 0)) else (some false)) else (if x10 = 0 then (if 0 ≤ (x276000.length : Int) then (if ((x276000.length : Int) : Int).toNat ≤ 35184372088832 then (satchellaw27_VolumesMissing.l1 k x7 x9 (List.replicate ((x276000.length : Int) : Int).toNat 0) 0 x276000 x276001 x276002 x276003) else (none)) else (none)) else (some false))
def satchellaw27_VolumesMissing.l1 : Nat → List (List Int) → List (S82) → List Int → Int → List Int → Int → Int → Bool → Option (Bool)
  | 0, _, _, _, _, _, _, _, _ => none
  | k + 1, x7, x9, x11, x12, x276000, x276001, x276002, x276003 => if x12 < (x9.length : Int) then (if 0 ≤ x12 then (satchellaw27_VolumesMissing.l2 k x7 x9 x11 x12 ((rd_T82 x9 x12).f0) x276000 x276001 x276002 x276003) else (none)) else (satchellaw27_VolumesMissing.l3 k x7 x11 0 x276000 x276001 x276002 x276003)
def satchellaw27_VolumesMissing.l2 : Nat → List (List Int) → List (S82) → List Int → Int → Int → List Int → Int → Int → Bool → Option (Bool)
  | 0, _, _, _, _, _, _, _, _, _ => none
  | k + 1, x7, x9, x11, x12, x13, x276000, x276001, x276002, x276003 => if 0 ≤ x12 then (if x12 < (x9.length : Int) then (if x13 < ((rd_T82 x9 x12).f1) then (if x13 < 0 then (some false) else (if x13 ≥ (x11.length : Int) then (some false) else (if 0 ≤ x13 then (if x13 < (x11.length : Int) then (satchellaw27_VolumesMissing.l2 k x7 x9 (x11.set (x13 : Int).toNat (wrap64 ((rd x11 x13) + 1))) x12 (wrap64 (x13 + 1)) x276000 x276001 x276002 x276003) else (none)) else (none)))) else (satchellaw27_VolumesMissing.l1 k x7 x9 x11 (wrap64 (x12 + 1)) x276000 x276001 x276002 x276003)) else (none)) else (none)
def satchellaw27_VolumesMissing.l3 : Nat → List (List Int) → List Int → Int → List Int → Int → Int → Bool → Option (Bool)
  | 0, _, _, _, _, _, _, _ => none
  | k + 1, x7, x11, x14, x276000, x276001, x276002, x276003 => if x14 < (x7.length : Int) then (if 0 ≤ x14 then ((volumes_Read.f (rd_L1 x7 x14)).bind fun bt309 => (if bt309.2.2.2.2.2.2.2.2 = 0 then (if bt309.2.2.2.2.2.2.1 = (bt309.2.2.2.2.2.2.2.1.length : Int) then (satchellaw27_VolumesMissing.j5 k x7 x11 x14 bt309.2.2.2.2.2.2.2.1 (bt309.2.2.2.2.1 != (x276000.length : Int)) x276000 x276001 x276002 x276003 bt309.1 bt309.2.1 bt309.2.2.1 bt309.2.2.2.1 bt309.2.2.2.2.1 bt309.2.2.2.2.2.1 bt309.2.2.2.2.2.2.1) else (satchellaw27_VolumesMissing.j5 k x7 x11 x14 bt309.2.2.2.2.2.2.2.1 true x276000 x276001 x276002 x276003 bt309.1 bt309.2.1 bt309.2.2.1 bt309.2.2.2.1 bt309.2.2.2.2.1 bt309.2.2.2.2.2.1 bt309.2.2.2.2.2.2.1)) else (satchellaw27_VolumesMissing.j5 k x7 x11 x14 bt309.2.2.2.2.2.2.2.1 true x276000 x276001 x276002 x276003 bt309.1 bt309.2.1 bt309.2.2.1 bt309.2.2.2.1 bt309.2.2.2.2.1 bt309.2.2.2.2.2.1 bt309.2.2.2.2.2.2.1))) else (none)) else (satchellaw27_VolumesMissing.l5 k x11 0)
def satchellaw27_VolumesMissing.j5 : Nat → List (List Int) → List Int → Int → List Int → Bool → List Int → Int → Int → Bool → Int → Int → Int → Bool → Int → Int → Int → Option (Bool)
  | 0, _, _, _, _, _, _, _, _, _, _, _, _, _, _, _, _ => none
  | k + 1, x7, x11, x14, x16, x149, x276000, x276001, x276002, x276003, x321000, x321001, x321002, x321003, x321004, x321005, x321006 => if x149 = true then (some false) else (satchellaw27_VolumesMissing.l4 k x7 x11 x14 x16 x321005 x276000 x276001 x276002 x276003 x321000 x321001 x321002 x321003 x321004 x321005 x321006)
def satchellaw27_VolumesMissing.l4 : Nat → List (List Int) → List Int → Int → List Int → Int → List Int → Int → Int → Bool → Int → Int → Int → Bool → Int → Int → Int → Option (Bool)
  | 0, _, _, _, _, _, _, _, _, _, _, _, _, _, _, _, _ => none
  | k + 1, x7, x11, x14, x16, x18, x276000, x276001, x276002, x276003, x321000, x321001, x321002, x321003, x321004, x321005, x321006 => if x18 < (wrap64 (x321005 + x321006)) then (satchellaw27_VolumesMissing.j7 k x7 x11 x14 x16 x18 (!x321003) x276000 x276001 x276002 x276003 x321000 x321001 x321002 x321003 x321004 x321005 x321006) else (satchellaw27_VolumesMissing.j7 k x7 x11 x14 x16 x18 false x276000 x276001 x276002 x276003 x321000 x321001 x321002 x321003 x321004 x321005 x321006)
def satchellaw27_VolumesMissing.j7 : Nat → List (List Int) → List Int → Int → List Int → Int → Bool → List Int → Int → Int → Bool → Int → Int → Int → Bool → Int → Int → Int → Option (Bool)
  | 0, _, _, _, _, _, _, _, _, _, _, _, _, _, _, _, _, _ => none
  | k + 1, x7, x11, x14, x16, x18, x163, x276000, x276001, x276002, x276003, x321000, x321001, x321002, x321003, x321004, x321005, x321006 => if x163 = true then (if x18 < 0 then (some false) else (if x18 ≥ (x11.length : Int) then (some false) else (if 0 ≤ (wrap64 (x18 - x321005)) then (if (wrap64 (x18 - x321005)) < (x16.length : Int) then (if 0 ≤ x18 then (if x18 < (x276000.length : Int) then (if (rd x16 (wrap64 (x18 - x321005))) = (rd x276000 x18) then (if x18 < (x11.length : Int) then (satchellaw27_VolumesMissing.l4 k x7 (x11.set (x18 : Int).toNat (wrap64 ((rd x11 x18) + 1))) x14 x16 (wrap64 (x18 + 1)) x276000 x276001 x276002 x276003 x321000 x321001 x321002 x321003 x321004 x321005 x321006) else (none)) else (some false)) else (none)) else (none)) else (none)) else (none)))) else (satchellaw27_VolumesMissing.l3 k x7 x11 (wrap64 (x14 + 1)) x276000 x276001 x276002 x276003)
def satchellaw27_VolumesMissing.l5 : Nat → List Int → Int → Option (Bool)
  | 0, _, _ => none
  | k + 1, x11, x19 => if x19 < (x11.length : Int) then (if 0 ≤ x19 then (if (rd x11 x19) = 1 then (satchellaw27_VolumesMissing.l5 k x11 (wrap64 (x19 + 1))) else (some false)) else (none)) else (some true)
end
def satchellaw27_VolumesMissing.f (k : Nat) (l0_0 : List Int) (a0_1 : Int) (a0_2 : Int) (a0_3 : Bool) (l1 : List Bool) : Option (Bool) := (some (([] : List Int) : List Int)).bind fun y276 => (if y276.length + l0_0.length < 140737488355328 then ((volumes_Cut.f k (y276 ++ l0_0) a0_1 a0_2 a0_3).bind fun bt282 => (satchellaw27_VolumesMissing.l0 k l1 bt282.1 bt282.2 (([] : List (List Int))) 0 l0_0 a0_1 a0_2 a0_3)) else (none))
def satchellaw27_VolumesMissing.T1 : Bool × List (List Nat × List Nat) := (true, [([], []), ([], []), ([1], [1]), ([0, 2], [0, 2]), ([], []), ([4], [4]), ([], []), ([6], [6]), ([], []), ([8], [8]), ([3, 5, 7, 9, 3], [3, 5, 7, 9]), ([10], [10]), ([11], [11]), ([11], [11]), ([12, 10, 0, 1, 2, 3, 4, 5, 6, 7, 8, 9, 10, 11, 12], [12]), ([13, 14, 0, 1, 2, 3, 4, 5, 6, 7, 8, 9, 10, 11, 12, 13, 14], [13])])
def satchellaw27_VolumesMissing.B1 : List Nat := [0, 0, 2, 7, 0, 16, 0, 64, 0, 256, 1023, 2047, 4095, 4095, 8191, 32767]
theorem satchellaw27_VolumesMissing.tab1 : rtab .any (opsOf Try.f12 1) = satchellaw27_VolumesMissing.T1 := by kernel_rfl
theorem satchellaw27_VolumesMissing.bits1 : waitsOk satchellaw27_VolumesMissing.T1.2 satchellaw27_VolumesMissing.B1 = true := by kernel_rfl
def satchellaw27_VolumesMissing.T32 : Bool × List (List Nat × List Nat) := (true, [([], []), ([0], [0]), ([1], [1]), ([2], [2]), ([2], [2]), ([4, 2], [2, 4]), ([3, 5, 2], [2, 3, 5]), ([2, 6], [2, 6]), ([7, 2], [7]), ([8], [8]), ([8], [8]), ([8], [8]), ([11, 8], [8, 11]), ([10, 12, 8], [8, 10, 12]), ([9, 13, 8], [8, 9, 13]), ([14, 8], [8, 14]), ([8], [8]), ([16, 8], [8, 16]), ([8], [8]), ([17, 18, 8], [8, 17, 18]), ([19, 8], [8, 19]), ([15, 20, 8], [8, 15, 20]), ([8, 21], [8, 21])])
def satchellaw27_VolumesMissing.B32 : List Nat := [0, 1, 3, 7, 7, 23, 63, 127, 255, 511, 511, 511, 2559, 7679, 16383, 32767, 511, 66047, 511, 459263, 983551, 2097151, 4194303]
theorem satchellaw27_VolumesMissing.tab32 : rtab .any (opsOf Try.f12 32) = satchellaw27_VolumesMissing.T32 := by kernel_rfl
theorem satchellaw27_VolumesMissing.bits32 : waitsOk satchellaw27_VolumesMissing.T32.2 satchellaw27_VolumesMissing.B32 = true := by kernel_rfl

end Go.Proofs.Ytnkcbkfccbfjpaa.SVolumesMissing
