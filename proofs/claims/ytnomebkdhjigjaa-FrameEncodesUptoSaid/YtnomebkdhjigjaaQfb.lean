/- Contracts and plain facts (texts of mine, and printed ones, made one; what nothing leads to is left out). -/
import Derived.Test.YtnomebkdhjigjaaProg
import Derived.Below
import Derived.Deep.Draws
import Derived.Deep.AppendLies
import Derived.Maps.AppendAt
import Derived.OwnWalk
import Derived.Laws.BytesArg
import Derived.Laws.MakeOwn
import Derived.Laws.OwnMore
import Derived.Deep.OwnRows
import Derived.Tactics
import Derived.Lib.ConvBytes
import Derived.Laws.Slices
import Derived.WalkKit
import Derived.KernelRfl
import Derived.RowKit3
import Derived.Deep.LoopGhost
import Derived.Deep.QuietTactic
import Derived.BigQuiet
import Derived.WideLaws
import Derived.Deep.DeepCutAuto
import Derived.Deep.CutBlock
import Derived.Deep.RegionHeld3
import Derived.Laws.Rows
import Derived.Lib.AppendStr
import Derived.ArgAppend
import Derived.Laws.IdiomCopy
import Derived.OrdersHeld
import Derived.Laws.BitsLemmas
import Derived.RowKit
import Derived.StillTail
import Derived.Deep.Quiet
import Derived.WalkSpells
import Derived.Lib.Hide
import Derived.Maps.OwnSet
import Derived.Maps.Views
import Derived.WideKeyPair
import Derived.Lib.AppendZeros
import Derived.Test.YtnomebkdhjigjaaQfa
namespace Go.Proofs.Ytnomebkdhjigjaa.GFrameEncodes
open Go.RowKit Go.Proofs.YtnomebkdhjigjaaW.PrintWords Go.Proofs.YtnomebkdhjigjaaW.PrintLast Go.Proofs.YtnomebkdhjigjaaW.PrintMore
attribute [local go_sem] max2_int min2_int max_two min_two max_three min_three max_four min_four   -- for this text's walks alone
set_option linter.unusedVariables false
set_option linter.unusedSimpArgs false

def errW : Option Int → Value
  | none => .nilIface
  | some c => .iface 0 (.int .i64 c)
theorem errW_none : errW none = .nilIface := rfl
theorem errW_some (c : Int) : errW (some c) = .iface 0 (.int .i64 c) := rfl

theorem info5 : (Try.prog.info? 5).map (fun i => (i.zero, i.size, i.bytes)) = some (some (.int .u8 0), 1, 1) := by kernel_rfl
theorem info22 : (Try.prog.info? 22).map (fun i => (i.zero, i.size, i.bytes)) = some (some (.slice none 0 0), 1, 24) := by kernel_rfl
def rd_L1 (xs : List (List Int)) (i : Int) : (List Int) := xs.getD i.toNat ([] : List Int)
theorem at_L1 {w : World} {A : Option Addr} {n : Nat} {xs : List (List Int)} (h : Kd.C (Kd.slice 5 (Kd.int .u8)) w A n xs) (i : Int) (h0 : 0 ≤ i) (h1 : i < n) : ∃ ad A0 c0, A = some ad ∧ w.cell? (ad.add i.toNat) = some (.slice A0 (rd_L1 xs i).length c0) ∧ (rd_L1 xs i).length ≤ c0 ∧ (Kd.int .u8).C w A0 (rd_L1 xs i).length (rd_L1 xs i) := by
  obtain ⟨ad, c, e, _, hK, hc0⟩ := Kd.C_get h ([] : List Int) i h0 h1
  have hc : ∀ j u, c[j]? = some u → w.cell? (ad.add (i.toNat * 1 + j)) = some u := hc0
  obtain ⟨A0, c0, rfl, l0, g0⟩ := hK
  exact ⟨ad, A0, c0, e, by have hq := hc 0 _ rfl; rwa [Nat.mul_one, Nat.add_zero] at hq, l0, g0⟩

/-! #### struct type 130 -/
structure S130 where
  f0 : Bool
  f1 : Int
def z130 : S130 := ⟨false, (0 : Int)⟩
def k130 : Kd S130 := Kd.iso (Kd.pair Kd.bool (Kd.int .u8)) (fun x : S130 => (x.f0, x.f1))
theorem k130_open {w : World} {x : S130} {cs : List Value} (h : k130.K w x cs) : cs = [.bool x.f0, .int .u8 x.f1] := by
  obtain ⟨_, _, rfl, rfl, rfl⟩ := h
  exact rfl
theorem k130_mkM (w : World) (base : Nat) (ok : Nat → Prop) (x : S130)  : k130.M w base ok x [.bool x.f0, .int .u8 x.f1] := ⟨[.bool x.f0], [.int .u8 x.f1], rfl, rfl, rfl⟩
def rd_T130 (xs : List S130) (i : Int) : S130 := xs.getD i.toNat z130
theorem at_T130 {w : World} {A : Option Addr} {n : Nat} {xs : List S130} (h : Kd.C k130 w A n xs) (i : Int) (h0 : 0 ≤ i) (h1 : i < n) : ∃ ad , A = some ad ∧ w.cell? (ad.add (i.toNat * 2)) = some (.bool (rd_T130 xs i).f0) ∧ w.cell? ⟨(ad.add (i.toNat * 2)).block, (ad.add (i.toNat * 2)).off + 1, none⟩ = some (.int .u8 (rd_T130 xs i).f1) := by
  obtain ⟨ad, c, e, _, hK, hc0⟩ := Kd.C_get h z130 i h0 h1
  have hc : ∀ j u, c[j]? = some u → w.cell? (ad.add (i.toNat * 2 + j)) = some u := hc0
  obtain rfl := k130_open hK
  exact ⟨ad, e, hc 0 _ rfl, by rw [← add_field _ _ 1 (by omega)]; exact hc 1 _ rfl⟩

end Go.Proofs.Ytnomebkdhjigjaa.GFrameEncodes
namespace Go.Proofs.Ytnomebkdhjigjaa.PLzMakes
open Go.RowKit Go.Proofs.YtnomebkdhjigjaaW.PrintWords Go.Proofs.YtnomebkdhjigjaaW.PrintLast Go.Proofs.YtnomebkdhjigjaaW.PrintMore
attribute [local go_sem] max2_int min2_int max_two min_two max_three min_three max_four min_four   -- for this text's walks alone
set_option linter.unusedVariables false
set_option linter.unusedSimpArgs false

def errW : Option Int → Value
  | none => .nilIface
  | some c => .iface 0 (.int .i64 c)
theorem errW_none : errW none = .nilIface := rfl
theorem errW_some (c : Int) : errW (some c) = .iface 0 (.int .i64 c) := rfl

/-! #### struct type 44 -/
end Go.Proofs.Ytnomebkdhjigjaa.PLzMakes
/- Texts of mine made one: Fr, Sp, Xq, La, Lb, Lu. -/
/- Frames of worlds: what stays across calls; rows of one's own across them. -/
namespace Go.Proofs.Ytnomebkdhjigjaa.W
open Go.RowKit Go.Proofs.YtnomebkdhjigjaaW.PrintWords Go.Proofs.YtnomebkdhjigjaaW.PrintLast Go.Proofs.YtnomebkdhjigjaaW.PrintMore
set_option linter.unusedVariables false
set_option linter.unusedSimpArgs false
/-- Behind what happened, the world is as it was at the blocks that ok holds of. -/
structure Fr (w w' : World) (ok : Nat → Prop) : Prop where
  os : w'.os = w.os
  tape : w'.tape = w.tape
  output : w'.output = w.output
  size : w.heap.size ≤ w'.heap.size
  block : ∀ i, i < w.heap.size → ok i → w'.heap[i]? = w.heap[i]?
theorem Fr.refl (w : World) (ok : Nat → Prop) : Fr w w ok := ⟨rfl, rfl, rfl, Nat.le_refl _, fun _ _ _ => rfl⟩
theorem Fr.then {w w1 w2 : World} {ok : Nat → Prop} (h : Fr w w1 ok) (h' : Fr w1 w2 ok) : Fr w w2 ok :=
  ⟨h'.os.trans h.os, h'.tape.trans h.tape, h'.output.trans h.output, Nat.le_trans h.size h'.size, fun i hi ho => (h'.block i (Nat.lt_of_lt_of_le hi h.size) ho).trans (h.block i hi ho)⟩
theorem Fr.mono {w w1 : World} {ok ok' : Nat → Prop} (h : Fr w w1 ok) (hk : ∀ i, i < w.heap.size → ok' i → ok i) : Fr w w1 ok' := ⟨h.os, h.tape, h.output, h.size, fun i hi ho => h.block i hi (hk i hi ho)⟩
theorem Fr.of_grown {w w1 : World} {row : Option Nat} (h : w.grownBy w1 row) : Fr w w1 (fun i => some i ≠ row) := ⟨h.os, h.tape, h.output, h.size, fun i hi ho => h.block i hi ho⟩
theorem Fr.of_below {w w1 : World} (h : Below w.heap.size w w1) (ok : Nat → Prop) : Fr w w1 ok := ⟨h.os, h.tape, h.output, h.size, fun i hi _ => h.block i hi⟩
theorem Fr.below {w w1 : World} {ok : Nat → Prop} {B : Nat} (h : Fr w w1 ok) (hk : ∀ i, i < B → i < w.heap.size ∧ ok i) : Below B w w1 := ⟨h.os, h.tape, h.output, h.size, fun i hi => h.block i (hk i hi).1 (hk i hi).2⟩
theorem Fr.heap {w w1 : World} {ok : Nat → Prop} (h : Fr w w1 ok) {i : Nat} {o : Obj} (hb : w.heap[i]? = some o) (hi : ok i) : w1.heap[i]? = some o := (h.block i (blk_lt hb) hi).trans hb
theorem Fr.cell {w w1 : World} {ok : Nat → Prop} (h : Fr w w1 ok) {p : Addr} {u : Value} (hc : w.cell? p = some u) (hi : ok p.block) : w1.cell? p = some u := by
  have := h.block p.block (World.block_lt_of_cell? w p hc) hi
  simpa [World.cell?, this] using hc
theorem own_lower {w : World} {base base' : Nat} {e : TypeId} {size n : Nat} {v : Value} {xs : List Value} (h : w.ownsRow base e size v n xs) (hb : base' ≤ base) : w.ownsRow base' e size v n xs := by
  refine ⟨h.1, ?_⟩
  rcases h.2 with h | ⟨g, cap, cur, a, b, c⟩
  · exact .inl h
  · exact .inr ⟨g, cap, cur, a, Nat.le_trans hb b, c⟩

/-- A row of one's own outlives whatever leaves its block. -/
theorem own_fr {w w' : World} {B : Nat} {e : TypeId} {size n : Nat} {rv : Value} {xs : List Value} {ok : Nat → Prop} (f : Fr w w' ok) (h : w.ownsRow B e size rv n xs) (hk : ∀ i, some i = rv.ownBlock → ok i) : w'.ownsRow B e size rv n xs := by
  refine ⟨h.1, ?_⟩
  rcases h.2 with h1 | ⟨g, cap, cur, rfl, h2, h3, h4⟩
  · exact .inl h1
  · exact .inr ⟨g, cap, cur, rfl, h2, f.heap h3 (hk g rfl), h4⟩
theorem own_ge {w : World} {B : Nat} {e : TypeId} {size n : Nat} {rv : Value} {xs : List Value} (h : w.ownsRow B e size rv n xs) (i : Nat) (hi : some i = rv.ownBlock) : B ≤ i ∧ i < w.heap.size := by
  rcases h.2 with ⟨rfl, _⟩ | ⟨g, cap, cur, rfl, h2, h3, h4⟩
  · cases hi
  · injection hi with hi
    subst hi
    exact ⟨h2, blk_lt h3⟩
theorem Fr.all {w w1 : World} (h : Below w.heap.size w w1) : Fr w w1 (fun _ => True) := Fr.of_below h _
theorem Fr.drewN {w : World} (n : Nat) (ok : Nat → Prop) : Fr w (w.drewN n) ok := Fr.of_below (pw_below_drewN (Below.refl _ _) n) _
theorem Fr.alloc {w : World} (o : Obj) (ok : Nat → Prop) : Fr w (w.alloc o) ok := Fr.of_below (below_alloc (Below.refl _ _) o) _
end Go.Proofs.Ytnomebkdhjigjaa.W
/- Separate things in memory, each with the blocks that it stands on: what is done to one leaves the others. -/
namespace Go.Proofs.Ytnomebkdhjigjaa.QTail
section
variable {P : Program} {ops : Array Oper} {md : Region.Mode} {C : World → Prop}

/-- f operations of the head come up, in whatever order. -/
def headQ (P : Program) (md : Region.Mode) (ops : Array Oper) (C : World → Prop) (n : Nat) (L : Array Bool → Act → Prop) : Nat → Array Bool → Act → Prop
  | 0, listed, a => L listed a
  | f + 1, listed, a => Region.ready md ops listed ≠ [] ∧ ∀ i ∈ Region.ready md ops listed, i < n ∧ qOp P ops C i (headQ P md ops C n L f (listed.setIfInBounds i true)) a

theorem any_of_headQ {n g : Nat} {L : Array Bool → Act → Prop} {Q : Exit → Act → World → Prop} (hL : ∀ listed a w, C w → L listed a → wpAny P md ops Q g listed a w) (f : Nat) :
    ∀ (listed : Array Bool) (a : Act) (w : World), C w → headQ P md ops C n L f listed a → wpAny P md ops Q (f + g) listed a w := by
  induction f with
  | zero => intro listed a w hw h; rw [Nat.zero_add]; exact hL _ _ _ hw h
  | succ f ih =>
    intro listed a w hw h
    have e : f + 1 + g = (f + g) + 1 := by omega
    rw [e]
    refine ⟨fun h0 => absurd h0 h.1, fun i hi => wpOp_of_qOp hw (fun a' w' hw' h' => ih _ a' w' hw' h') (h.2 i hi).2⟩

theorem headQ_take {n i : Nat} {oi : Oper} {v : Value} {L : Array Bool → Act → Prop} (hi : ops[i]? = some oi) (hsel : ∀ (j : Nat) (o : Oper) cs b, ops[j]? = some o → o.op ≠ .select cs b)
    (hs : Region.sinkB md ops n = true) (hc : Region.chainB md ops n = true) (hn : n < ops.size) (hin : i < n) (hdone : ∀ listed a, L listed a → ∀ j ∈ Region.ready md ops listed, n ≤ j) (f : Nat) :
    ∀ (listed : Array Bool) (a : Act), HeadInv md ops n listed →
      (∀ j oj, ops[j]? = some oj → j ≠ i → listed.getD j true = false → (∀ e ∈ oj.after, Region.binds md e = true → e.on ≠ i) → oi.apart ops oj = true) →
      i ∈ Region.ready md ops listed → YieldsIn P ops C oi v a → headQ P md ops C n L f (listed.setIfInBounds i true) (a.put oi.dst v) → headQ P md ops C n L (f + 1) listed a := by
  induction f with
  | zero =>
    intro listed a inv _ hr hy H
    have hun := (mem_ready.1 hr).1
    have hhead : ∀ j ∈ Region.ready md ops listed, j < n := fun j hj => Nat.lt_of_not_le fun h => tail_waits hs hc hn inv _ i rfl hin hun j h hj
    refine ⟨fun h => (by rw [h] at hr; cases hr), fun j hj => ⟨hhead j hj, ?_⟩⟩
    by_cases hji : j = i
    · subst hji; exact hy.qOp hi H
    · have h1 := hdone _ _ H j (ready_mono hj hji)
      have h2 := hhead j hj
      omega
  | succ f ih =>
    intro listed a inv hfree hr hy H
    have hun := (mem_ready.1 hr).1
    have hhead : ∀ j ∈ Region.ready md ops listed, j < n := fun j hj => Nat.lt_of_not_le fun h => tail_waits hs hc hn inv _ i rfl hin hun j h hj
    refine ⟨fun h => (by rw [h] at hr; cases hr), fun j hj => ⟨hhead j hj, ?_⟩⟩
    by_cases hji : j = i
    · subst hji; exact hy.qOp hi H
    · have h1 := (H.2 j (ready_mono hj hji)).2
      obtain ⟨hjun, oj, hoj, hall⟩ := mem_ready.1 hj
      have hnot : ∀ e ∈ oj.after, Region.binds md e = true → e.on ≠ i := fun e he hb heq => by
        have h1 := hall e he hb
        rw [heq, getD_both hun] at h1
        cases h1
      have h2 := qOp_put hoj (hfree j oj hoj hji hjun hnot) (fun cs b => hsel i oi cs b hi) (fun cs b => hsel j oj cs b hoj) hy h1
      refine qOp_mono (fun a' h3 => ih (listed.setIfInBounds j true) a' (inv.set hj (hhead j hj)) (fun k ok hk hki hk2 hno => hfree k ok hk hki ?_ hno) (ready_mono hr (Ne.symm hji)) h3.1 ?_) h2
      · by_cases hjk : j = k
        · subst hjk; exact hjun
        · rw [getD_set_ne true hjk] at hk2; exact hk2
      · rw [Array.setIfInBounds_comm _ _ hji]
        exact h3.2

theorem headQ_lex {n g : Nat} {Lq : Act → Prop} (hsel : Region.noSelect ops = true) (hs : Region.sinkB md ops n = true) (hc : Region.chainB md ops n = true) (hn : n < ops.size) :
    ∀ (l : List Oper) (k : Nat) (listed : Array Bool) (a : Act), (∀ j, j < l.length → l[j]? = ops[k + j]?) → k + l.length = n → HeadInv md ops n listed →
    Region.lexHead md ops g l.length k listed = true → wpQuiet P ops C Lq l a → headQ P md ops C n (fun listed' a' => Region.seqB md ops g n listed' = true ∧ Lq a') l.length listed a
  | [], k, listed, a, _, hk, _, hB, h => by
    obtain rfl : k = n := by simpa using hk
    exact ⟨by simpa [Region.lexHead] using hB, h⟩
  | o :: l, k, listed, a, hl, hk, inv, hB, h => by
    have h0 : ops[k]? = some o := by simpa using (hl 0 (by simp)).symm
    simp only [List.length_cons] at hk
    simp only [List.length_cons, Region.lexHead, Bool.and_eq_true] at hB
    obtain ⟨⟨hr, hf⟩, hB'⟩ := hB
    have hr' : k ∈ Region.ready md ops listed := by simpa using hr
    have hst : qOp P ops C k (wpQuiet P ops C Lq l) a := by unfold qOp; simp only [h0]; exact h
    obtain ⟨v, hy, hK⟩ := yieldsIn_of_qOp h0 hst
    refine headQ_take h0 (Region.noSelect_spec hsel) hs hc hn (by omega) (fun listed' a' hL => seqB_ready hL.1) l.length listed a inv (Region.free_spec h0 hf) hr' hy ?_
    exact headQ_lex hsel hs hc hn l (k + 1) _ _ (fun j hj => by have := hl (j + 1) (by simp; omega); simpa [Nat.add_assoc, Nat.add_comm 1 j] using this) (by omega) (inv.set hr' (by omega)) hB' hK

/-- The region: n operations that only read, in the class C of worlds; then the rest, in its one order. -/
theorem wp_region_tail {id : Nat} {Q : Exit → Act → World → Prop} {a : Act} {w : World} {l : List Oper} (n : Nat) (hm : P.follows .mixedOrders = true) (hB : Region.lexTailB .any l.toArray n = true) (hC : C w.drew)
    (h : wpQuiet P l.toArray C (fun a' => ∀ w', C w' → wpList P l.toArray Q (l.drop n) a' w') (l.take n) a) : (Code.region id l.toArray true).wp P Q a w := by
  simp only [Region.lexTailB, Bool.and_eq_true, decide_eq_true_eq] at hB
  obtain ⟨⟨⟨⟨hsel, hn⟩, hs⟩, hc⟩, hlex⟩ := hB
  have hn' : n < l.length := by simpa using hn
  have htl : (l.take n).length = n := by simp; omega
  have hdl : (l.drop n).length = l.toArray.size - n := by simp
  have inv0 : HeadInv .any l.toArray n (Array.replicate l.toArray.size false) :=
    ⟨by simp, fun j oj _ hl => (by rw [getD_replicate_false] at hl; cases hl), fun t _ ht => getD_in (by simpa using ht) (getD_replicate_false _ _)⟩
  have H := headQ_lex (md := .any) (g := l.toArray.size - n) hsel hs hc hn (l.take n) 0 _ a (fun j hj => by
    have hj' : j < n := by rw [htl] at hj; exact hj
    simp [hj']) (by simpa using htl) inv0 (by rw [htl]; exact hlex) h
  refine wp_region_any hm ?_
  have hall := any_of_headQ (Q := Q) (g := l.toArray.size - n) (fun listed a' w' hw' hL => by
    have hseq := wpAny_of_seq (md := .any) (Q' := Q) (l.drop n) n listed a' w' (fun j => by simp [List.getElem?_drop]) (by rw [hdl]; exact hL.1) (hL.2 w' hw')
    rwa [hdl] at hseq) _ _ _ _ hC H
  rw [htl] at hall
  rw [show n + (l.toArray.size - n) = l.toArray.size from by omega] at hall
  exact hall
end
end Go.Proofs.Ytnomebkdhjigjaa.QTail
/- Contracts of slices.Clone at []byte and of lz's player: newPlayer, room, reaches, copies, plain, over what it holds. Conditions: lengths below 2^40. -/
namespace Go.Proofs.Ytnomebkdhjigjaa.W
open Go.RowKit Go.Proofs.YtnomebkdhjigjaaW.PrintWords Go.Proofs.YtnomebkdhjigjaaW.PrintLast Go.Proofs.YtnomebkdhjigjaaW.PrintMore
set_option linter.unusedVariables false
set_option linter.unusedSimpArgs false
theorem info5 : (Try.prog.info? 5).map (fun i => (i.zero, i.size, i.bytes)) = some (some (.int .u8 0), 1, 1) := by kernel_rfl

theorem own_reads' {w : World} {base : Nat} {v : Value} {l : List Int} (h : w.ownsRow base 5 1 v l.length (nums .u8 l)) : ∃ A c, v = .slice A l.length c ∧ ReadsInt w .u8 A l.length l ∧ l.length ≤ c := by
  obtain ⟨A, c, e, hr⟩ := own_reads h
  refine ⟨A, c, e, hr, ?_⟩
  rcases h.2 with ⟨rfl, h0⟩ | ⟨g, cap, cur, rfl, _, _, h1, _⟩
  · omega
  · cases e
    exact h1
/-- A match is copied, byte by byte. -/
def copied (back : Nat) : Nat → List Int → List Int
  | 0, all => all
  | n + 1, all => copied back n (all ++ [all.getD (all.length - back) 0])
end Go.Proofs.Ytnomebkdhjigjaa.W
/- Contracts of lz's newPlayer and plain, and of the reader's more. Conditions: lengths below 2^40, bytes are bytes. -/
namespace Go.Proofs.Ytnomebkdhjigjaa.W
open Go.RowKit Go.Proofs.YtnomebkdhjigjaaW.PrintWords Go.Proofs.YtnomebkdhjigjaaW.PrintLast Go.Proofs.YtnomebkdhjigjaaW.PrintMore
set_option linter.unusedVariables false
set_option linter.unusedSimpArgs false
def Byt (l : List Int) : Prop := ∀ i, 0 ≤ l.getD i 0 ∧ l.getD i 0 < 256
theorem Byt.drop {l : List Int} (h : Byt l) (k : Nat) : Byt (l.drop k) := fun i => by
  have e : (l.drop k).getD i 0 = l.getD (k + i) 0 := by simp [List.getD_eq_getElem?_getD, List.getElem?_drop]
  rw [e]
  exact h _
/-- What of the bytes ahead counts. -/
def window (l : List Int) : List Int := if 65536 ≤ l.length then l.drop (l.length - 65535) else l
theorem window_len (l : List Int) : (window l).length ≤ 65535 ∧ (window l).length ≤ l.length := by
  unfold window
  split
  · rw [List.length_drop]; omega
  · omega
/-- Bytes of a number beyond its half: their sum and how many; none: they end too soon. -/
def ext : List Int → Option (Int × Nat)
  | [] => none
  | x :: r => if x < 255 then some (x, 1) else match ext r with
    | none => none
    | some (s, k) => some (x + s, k + 1)
/-- A number at a place: what it is and where it ends. -/
def num (b : List Int) (n : Int) (k : Nat) : Option (Int × Nat) := if n < 15 then some (n, k) else match ext (b.drop k) with
  | none => none
  | some (s, j) => some (n + s, k + j)
theorem ext_len : ∀ (l : List Int) (s : Int) (k : Nat), ext l = some (s, k) → 1 ≤ k ∧ k ≤ l.length := by
  intro l
  induction l with
  | nil => intro s k h; cases h
  | cons x r ih =>
    intro s k h
    rw [ext] at h
    by_cases c : x < 255
    · rw [if_pos c] at h
      cases h
      simp
    · rw [if_neg c] at h
      cases e : ext r with
      | none => rw [e] at h; cases h
      | some p =>
        obtain ⟨s', k'⟩ := p
        rw [e] at h
        cases h
        have := ih s' k' e
        simp only [List.length_cons]
        omega
theorem ext_bound : ∀ (l : List Int) (s : Int) (k : Nat), Byt l → ext l = some (s, k) → 0 ≤ s ∧ s ≤ 255 * (k : Int) := by
  intro l
  induction l with
  | nil => intro s k _ h; cases h
  | cons x r ih =>
    intro s k hb h
    have h0 := hb 0
    simp at h0
    rw [ext] at h
    by_cases c : x < 255
    · rw [if_pos c] at h
      cases h
      omega
    · rw [if_neg c] at h
      cases e : ext r with
      | none => rw [e] at h; cases h
      | some p =>
        obtain ⟨s', k'⟩ := p
        rw [e] at h
        cases h
        have := ih s' k' (hb.drop 1) e
        omega
theorem num_bound {b : List Int} {n : Int} {k : Nat} {s : Int} {j : Nat} (hb : Byt b) (h0 : 0 ≤ n) (h1 : n ≤ 15) (hk : k ≤ b.length) (h : num b n k = some (s, j)) : k ≤ j ∧ j ≤ b.length ∧ 0 ≤ s ∧ s ≤ 15 + 255 * (b.length : Int) := by
  unfold num at h
  by_cases c : n < 15
  · rw [if_pos c] at h
    cases h
    omega
  · rw [if_neg c] at h
    cases e : ext (b.drop k) with
    | none => rw [e] at h; cases h
    | some p =>
      obtain ⟨s', k'⟩ := p
      rw [e] at h
      cases h
      have a := ext_len _ _ _ e
      have d := ext_bound _ _ _ (hb.drop k) e
      rw [List.length_drop] at a
      omega
def moreK (b : List Int) (n : Int) (k : Nat) : Nat := match num b n k with
  | none => b.length
  | some (_, j) => j
end Go.Proofs.Ytnomebkdhjigjaa.W
/- Bytes that are bytes; a row that is read, as the print says it. Plain facts of reading. -/
namespace Go.Proofs.Ytnomebkdhjigjaa.W
open Go.RowKit Go.Proofs.YtnomebkdhjigjaaW.PrintWords Go.Proofs.YtnomebkdhjigjaaW.PrintLast Go.Proofs.YtnomebkdhjigjaaW.PrintMore
set_option linter.unusedVariables false
set_option linter.unusedSimpArgs false
def bytesB (l : List Int) : Bool := l.all fun x => decide (0 ≤ x ∧ x < 256)
theorem reads_of_C {w : World} {A : Option Addr} {l : List Int} (h : Kd.C (Kd.int .u8) w A l.length l) : ReadsInt w .u8 A l.length l :=
  ⟨rfl, h.2.1, fun h0 => by
    obtain ⟨ad, e, hc⟩ := Kd.at_int h 0 (by omega) (by omega)
    refine ⟨ad, e, fun i hi => ?_⟩
    obtain ⟨ad', e', hc'⟩ := Kd.at_int h (i : Int) (by omega) (by omega)
    rw [e] at e'
    cases e'
    simpa [rd] using hc'⟩
/-- What room answers. -/
def roomE (all : List Int) (bg most n : Int) : Int := if n > most - ((all.length : Int) - bg) then 32 else 0
end Go.Proofs.Ytnomebkdhjigjaa.W
/- Texts of mine made one: Xm, Xq, Xa, Xb, Xc, Xd, Xe, Xf, Xg, Xh. -/
/- Sums of 32 bits (XXH32) and of 64 bits (XXH64) as plain functions of numbers and lists: what the program's digests and the document's reference come to. No Go, no memory. -/
namespace Go.Proofs.Ytnomebkdhjigjaa.X
set_option linter.unusedVariables false
/-- element i of a list of numbers, 0 beyond -/
def at' (l : List Int) (i : Nat) : Int := l.getD i 0
def rot32 (x : Int) (k : Nat) : Int := (x * 2 ^ k) % 4294967296 + x / 2 ^ (32 - k)
def le32 (l : List Int) : Int := at' l 0 + at' l 1 * 256 + at' l 2 * 65536 + at' l 3 * 16777216
def step32 (v w : Int) : Int := rot32 ((v + w * 2246822519) % 4294967296) 13 * 2654435761 % 4294967296
structure V4 where
  a : Int
  b : Int
  c : Int
  d : Int
def init32 (s : Int) : V4 := ⟨(((s + 2654435761) % 4294967296) + 2246822519) % 4294967296, (s + 2246822519) % 4294967296, s, (s - 2654435761) % 4294967296⟩
def stripe32 (v : V4) (l : List Int) : V4 := ⟨step32 v.a (le32 l), step32 v.b (le32 (l.drop 4)), step32 v.c (le32 (l.drop 8)), step32 v.d (le32 (l.drop 12))⟩
def run32 : Nat → V4 → List Int → V4
  | 0, v, _ => v
  | n + 1, v, l => run32 n (stripe32 v l) (l.drop 16)
def merge32 (v : V4) : Int := (rot32 v.a 1 + rot32 v.b 7 + rot32 v.c 12 + rot32 v.d 18) % 4294967296
def word32 (h w : Int) : Int := rot32 ((h + w * 3266489917) % 4294967296) 17 * 668265263 % 4294967296
def byte32 (h b : Int) : Int := rot32 ((h + b * 374761393) % 4294967296) 11 * 2654435761 % 4294967296
def words32 : Nat → Int → List Int → Int
  | 0, h, _ => h
  | n + 1, h, l => words32 n (word32 h (le32 l)) (l.drop 4)
def bytes32 (h : Int) (l : List Int) : Int := l.foldl byte32 h
def fin32 (h : Int) : Int :=
  let h1 := (Go.bits .xor .u32 h (h / 32768) * 2246822519) % 4294967296
  let h2 := (Go.bits .xor .u32 h1 (h1 / 8192) * 3266489917) % 4294967296
  Go.bits .xor .u32 h2 (h2 / 65536)
/-- the rest behind the last whole stripe -/
def rest (u : Nat) (l : List Int) : List Int := l.drop (u * (l.length / u))
def tail32 (h : Int) (r : List Int) : Int := fin32 (bytes32 (words32 (r.length / 4) h r) (rest 4 r))
def sum32 (s : Int) (l : List Int) : Int :=
  let h := if 16 ≤ l.length then merge32 (run32 (l.length / 16) (init32 s) l) else (s + 374761393) % 4294967296
  tail32 ((h + (l.length : Int) % 4294967296) % 4294967296) (rest 16 l)
end Go.Proofs.Ytnomebkdhjigjaa.X
/- A region that draws its order, all of whose operations but the last few only read (their calls may draw), the last few standing in one forced order: one walk in the text's order serves every order. No condition but the two closed facts on the region. -/
/- Contracts of small functions of xxh: RotateLeft32, get32. -/
namespace Go.Proofs.Ytnomebkdhjigjaa.XxhW
open Go.RowKit Go.Proofs.YtnomebkdhjigjaaW.PrintWords Go.Proofs.YtnomebkdhjigjaaW.PrintLast Go.Proofs.YtnomebkdhjigjaaW.PrintMore
set_option linter.unusedVariables false
set_option linter.unusedSimpArgs false

theorem wraps_u64 (n : Int) (h0 : 0 ≤ n) (h1 : n < 18446744073709551616) : IntKind.u64.wrap n = n := by
  simp [IntKind.wrap, IntKind.bits, IntKind.signed]; omega
theorem wraps_u32 (n : Int) (h0 : 0 ≤ n) (h1 : n < 4294967296) : IntKind.u32.wrap n = n := by rw [IntKind.wrap_u32]; omega
theorem and31 (k : Int) (h0 : 0 ≤ k) (h1 : k < 32) : Go.bits .and .u64 k 31 = k := by
  have := bits_mask .u64 64 (by decide) (fun n a b => wraps_u64 n a (by simpa using b)) 5 (by decide) k h0 (by omega)
  rw [show (2 : Int) ^ 5 - 1 = 31 by decide] at this
  rw [this]; omega

theorem rot_parts (W k : Nat) (x M : Int) (hk : k ≤ W) (hM : M = 2 ^ W) (h0 : 0 ≤ x) (h1 : x < M) :
    ((x * 2 ^ k) % M) % 2 ^ k = 0 ∧ 0 ≤ (x * 2 ^ k) % M ∧ (x * 2 ^ k) % M < M ∧ 0 ≤ x / 2 ^ (W - k) ∧ x / 2 ^ (W - k) < 2 ^ k ∧ x / 2 ^ (W - k) < M := by
  have hp : (0 : Int) < 2 ^ k := Int.pow_pos (by decide)
  have hq : (0 : Int) < 2 ^ (W - k) := Int.pow_pos (by decide)
  have hm : (2 : Int) ^ (W - k) * 2 ^ k = M := by rw [hM, ← Int.pow_add, Nat.sub_add_cancel hk]
  have hMp : 0 < M := by omega
  have hlt : x / 2 ^ (W - k) < 2 ^ k := by
    apply Int.ediv_lt_of_lt_mul hq
    rw [Int.mul_comm, hm]; exact h1
  have hle : (2 : Int) ^ k ≤ M := by
    rw [← hm]
    have := Int.mul_le_mul_of_nonneg_right (show (1 : Int) ≤ 2 ^ (W - k) by omega) (Int.le_of_lt hp)
    omega
  refine ⟨?_, Int.emod_nonneg _ (by omega), Int.emod_lt_of_pos _ hMp, Int.ediv_nonneg h0 (Int.le_of_lt hq), hlt, by omega⟩
  rw [← hm, Int.emod_emod_of_dvd _ (Int.dvd_mul_left _ _)]
  exact Int.mul_emod_left _ _

theorem rot32_or (x : Int) (k : Nat) (hk : k ≤ 32) (h0 : 0 ≤ x) (h1 : x < 4294967296) : Go.bits .or .u32 (x * 2 ^ k % 4294967296) (x / 2 ^ (32 - k)) = X.rot32 x k := by
  obtain ⟨a, b, c, d, e, g⟩ := rot_parts 32 k x 4294967296 hk (by decide) h0 h1
  exact bits_join .u32 32 (by decide) (fun n a b => wraps_u32 n a (by simpa using b)) k _ _ b a (by simpa using c) d e (by simpa using g)

theorem rotl32_calls (x k : Int) (w : World) (h0 : 0 < k) (h1 : k < 32) (h2 : 0 ≤ x) (h3 : x < 4294967296) :
    Calls Try.prog 114 #[.int .u32 x, .int .i64 k] w fun e w' => e = .returned (.int .u32 (X.rot32 x k.toNat)) ∧ w' = w := by
  have hw := wraps_u64 k (by omega) (by omega)
  have hk := and31 k (by omega) h1
  have hs := wraps_u64 (32 - k) (by omega) (by omega)
  have hk0 : 0 ≤ k := by omega
  have HE := Lib.hid (rot32_or x k.toNat (by omega) h2 h3)
  have HT := Lib.hid (show (32 - k).toNat = 32 - k.toNat by omega)
  go_enter Try.func114, Try.ntmps114
  go_wp2
  go_ret
  refine ⟨congrArg (fun z => Ending.returned (.int .u32 z)) ?_, rfl⟩
  show Go.bits .or .u32 (x * 2 ^ k.toNat % 4294967296) (x / 2 ^ (32 - k).toNat) = _
  rw [HT.out, HE.out]

theorem add_pos (ad : Addr) (i : Nat) (h : 0 < i) : ad.add i = ⟨ad.block, ad.off + i, none⟩ := by
  unfold Addr.add; split
  · omega
  · rfl
theorem add_add (ad : Addr) (i j : Nat) : (ad.add i).add j = ad.add (i + j) := by
  unfold Addr.add
  by_cases hi : i = 0
  · subst hi; simp
  · by_cases hj : j = 0
    · subst hj; simp
    · simp [hi, hj, Nat.add_assoc]
/-- bytes: each from 0 to 255 -/
def Bytes (l : List Int) : Prop := ∀ i, 0 ≤ X.at' l i ∧ X.at' l i < 256
theorem at_drop (l : List Int) (k i : Nat) : X.at' (l.drop k) i = X.at' l (k + i) := by
  simp [X.at', List.getD_eq_getElem?_getD, List.getElem?_drop]
theorem Bytes.drop {l : List Int} (h : Bytes l) (k : Nat) : Bytes (l.drop k) := fun i => by rw [at_drop]; exact h _
/-- from ad on lie the bytes l -/
def Rd (w : World) (ad : Addr) (l : List Int) : Prop := ∀ i, i < l.length → w.cell? (ad.add i) = some (.int .u8 (X.at' l i))
theorem Rd.drop {w : World} {ad : Addr} {l : List Int} (h : Rd w ad l) (k : Nat) : Rd w (ad.add k) (l.drop k) := fun i hi => by
  rw [add_add, at_drop]
  exact h _ (by simp at hi; omega)
theorem Rd.take {w : World} {ad : Addr} {l : List Int} (h : Rd w ad l) (k : Nat) : Rd w ad (l.take k) := fun i hi => by
  simp at hi
  rw [h i (by omega)]
  have h1 : i < k := by omega
  simp [X.at', List.getD_eq_getElem?_getD, h1]
theorem Rd.drewN {w : World} {ad : Addr} {l : List Int} (h : Rd w ad l) (n : Nat) : Rd (w.drewN n) ad l := fun i hi => h i hi

theorem u32_range (x : Int) : 0 ≤ IntKind.u32.wrap x ∧ IntKind.u32.wrap x < 4294967296 := by rw [IntKind.wrap_u32]; omega
theorem or_up (k : IntKind) (j : Nat) (hj : j ≤ k.bits) (hk : ∀ n : Int, 0 ≤ n → n < 2 ^ j → k.wrap n = n) (i : Nat)
    (x y : Int) (hx₀ : 0 ≤ x) (hx : x % 2 ^ i = 0) (hx₁ : x < 2 ^ j) (hy₀ : 0 ≤ y) (hy : y < 2 ^ i) (hy₁ : y < 2 ^ j) : Go.bits .or k y x = y + x := by
  have h := bits_join k j hj hk i x y hx₀ hx hx₁ hy₀ hy hy₁
  obtain ⟨a, rfl⟩ := Int.eq_ofNat_of_zero_le hx₀
  obtain ⟨b, rfl⟩ := Int.eq_ofNat_of_zero_le hy₀
  have ha : a < 2 ^ j := by exact_mod_cast hx₁
  have hb : b < 2 ^ j := by exact_mod_cast hy₁
  rw [(bits_nat k j hj hk b a hb ha).2, Nat.or_comm, ← (bits_nat k j hj hk a b ha hb).2, h, Int.add_comm]
theorem or32 (i : Nat) (x y : Int) (h0 : 0 ≤ x) (hx : x % 2 ^ i = 0) (h1 : x < 4294967296) (h2 : 0 ≤ y) (h3 : y < 2 ^ i) (h4 : y < 4294967296) : Go.bits .or .u32 y x = y + x :=
  or_up .u32 32 (by decide) (fun n a b => wraps_u32 n a (by simpa using b)) i x y h0 hx (by simpa using h1) h2 h3 (by simpa using h4)
theorem le32_or (l : List Int) (hb : Bytes l) : Go.bits .or .u32 (Go.bits .or .u32 (Go.bits .or .u32 (X.at' l 0) (X.at' l 1 * 256)) (X.at' l 2 * 65536)) (X.at' l 3 * 16777216) = X.le32 l := by
  have b0 := hb 0
  have b1 := hb 1
  have b2 := hb 2
  have b3 := hb 3
  rw [or32 8 (X.at' l 1 * 256) (X.at' l 0) (by omega) (by omega) (by omega) (by omega) (by omega) (by omega)]
  rw [or32 16 (X.at' l 2 * 65536) _ (by omega) (by omega) (by omega) (by omega) (by omega) (by omega)]
  rw [or32 24 (X.at' l 3 * 16777216) _ (by omega) (by omega) (by omega) (by omega) (by omega) (by omega)]
  rfl
theorem get32_calls (ad : Addr) (n c : Nat) (l : List Int) (w : World) (hr : Rd w ad l) (hn : n = l.length) (h4 : 4 ≤ l.length) (hb : Bytes l) :
    Calls Try.prog 115 #[.slice (some ad) n c] w fun e w' => e = .returned (.int .u32 (X.le32 l)) ∧ ∃ m, w' = w.drewN m := by
  subst hn
  have h0 := hr 0 (by omega)
  have h1 := hr 1 (by omega)
  have h2 := hr 2 (by omega)
  have h3 := hr 3 (by omega)
  rw [Addr.add_zero'] at h0
  rw [add_pos _ _ (by omega)] at h1 h2 h3
  obtain ⟨p0, q0⟩ := hb 0
  obtain ⟨p1, q1⟩ := hb 1
  obtain ⟨p2, q2⟩ := hb 2
  obtain ⟨p3, q3⟩ := hb 3
  have l0 : 0 < l.length := by omega
  have l1 : 1 < l.length := by omega
  have l2 : 2 < l.length := by omega
  have l3 : 3 < l.length := by omega
  have m0 : (0 : Int) < (l.length : Int) := by omega
  have m1 : (1 : Int) < (l.length : Int) := by omega
  have m2 : (2 : Int) < (l.length : Int) := by omega
  have m3 : (3 : Int) < (l.length : Int) := by omega
  have HE := Lib.hid (le32_or l hb)
  clear hb hr
  go_enter Try.func115, Try.ntmps115
  go_wp2
  go_quiet (fail)
  go_wp2
  go_ret
  exact ⟨congrArg (fun z => Ending.returned (.int .u32 z)) HE.out, _, rfl⟩

/-- A digest of 32 bits lies at block g: what waits, how many came, the seed, four sums. -/
def IsD (w : World) (g : Nat) (r : Value) (n s : Int) (v : X.V4) : Prop :=
  w.heap[g]? = some (.cells #[r, .int .u64 n, .int .u32 s, .int .u32 v.a, .int .u32 v.b, .int .u32 v.c, .int .u32 v.d] 150 (0, 0))

theorem IsD.at {w : World} {g : Nat} {r : Value} {n s : Int} {v : X.V4} (h : IsD w g r n s v) (i : Nat) (u : Value) (hu : (#[r, .int .u64 n, .int .u32 s, .int .u32 v.a, .int .u32 v.b, .int .u32 v.c, .int .u32 v.d] : Array Value)[i]? = some u) :
    w.cell? ⟨g, i, none⟩ = some u ∧ w.frozen? ⟨g, i, none⟩ = false := ⟨(cell_of_row w g i _ 150 (0, 0) h).trans hu, blk_frozen h i⟩
/-- A store into the digest's block, behind draws: what it does to the digest, to others' cells, and to the world. -/
theorem put_world {w : World} {g : Nat} {t : TypeId} {cs : Array Value} (h : w.heap[g]? = some (.cells cs t (0, 0))) (m i : Nat) (u : Value) :
    ((w.drewN m).setCell ⟨g, i, none⟩ u).heap[g]? = some (.cells (cs.setIfInBounds i u) t (0, 0)) ∧ (∀ p : Addr, p.block ≠ g → ((w.drewN m).setCell ⟨g, i, none⟩ u).cell? p = w.cell? p) ∧
    w.grownBy ((w.drewN m).setCell ⟨g, i, none⟩ u) (some g) := by
  refine ⟨blk_set (w := w.drewN m) h i _, fun p hp => ?_, ?_⟩
  · have := Below.heap_setCell (w.drewN m) ⟨g, i, none⟩ u p.block hp
    have e : (w.drewN m).heap = w.heap := rfl
    rw [e] at this
    simp only [World.cell?, this]
  · refine ⟨rfl, rfl, rfl, by simp [World.setCell, World.drewN], fun j _ hj => ?_⟩
    exact Below.heap_setCell (w.drewN m) ⟨g, i, none⟩ u j (fun e => hj (congrArg some e))
theorem Rd.of_cells {w w1 : World} {ad : Addr} {l : List Int} (h : Rd w ad l) (hk : ∀ p : Addr, p.block = ad.block → w1.cell? p = w.cell? p) : Rd w1 ad l := fun i hi => by
  rw [hk _ (by unfold Addr.add; split <;> rfl)]; exact h i hi
theorem grown_then {w w1 w2 : World} {r : Option Nat} (h : w.grownBy w1 r) (h' : w1.grownBy w2 r) : w.grownBy w2 r :=
  ⟨h'.os.trans h.os, h'.tape.trans h.tape, h'.output.trans h.output, Nat.le_trans h.size h'.size, fun i hi hr => (h'.block i (Nat.lt_of_lt_of_le hi h.size) hr).trans (h.block i hi hr)⟩

set_option maxHeartbeats 4000000 in
theorem takes1_calls (ad : Addr) (c : Nat) (l : List Int) (bx g : Nat) (r : Value) (n s : Int) (v : X.V4) (w : World) (hr : Rd w ad l) (hl : l.length = 16) (hc : 16 ≤ c) (hb : Bytes l)
    (hx : w.cell? ⟨bx, 0, none⟩ = some (.pointer (some ⟨g, 0, none⟩))) (hd : IsD w g r n s v) (hne : bx ≠ g) (hag : ad.block ≠ g) :
    Calls Try.prog 113 #[.slice (some ad) 16 c, .pointer (some ⟨bx, 0, none⟩)] w fun e w' => e = .returned (.tuple #[]) ∧ IsD w' g r n s (X.stripe32 v l) ∧ w.grownBy w' (some g) := by
  have z0 : IntKind.i64.wrap 0 = 0 := by decide
  have z4 : IntKind.i64.wrap 4 = 4 := by decide
  have z8 : IntKind.i64.wrap 8 = 8 := by decide
  have z12 : IntKind.i64.wrap 12 = 12 := by decide
  have n4 : ¬ c = 4 := by omega
  have n8 : ¬ c = 8 := by omega
  have n12 : ¬ c = 12 := by omega
  have m4 : (4 : Int) ≤ (c : Int) := by omega
  obtain ⟨x0, f0⟩ := IsD.at hd 3 _ rfl
  have HD := Lib.hid hd
  have HG := Lib.hid (World.grownBy.refl w (some g))
  clear hd
  go_enter Try.func113, Try.ntmps113
  go_wp2
  refine wp_loop_rounds 5 ?_
  rw [rounds_succ]
  go_wp2
  refine QTail.wp_region_tail (C := fun w' => ∃ n, w' = w.drewN n) 20 (by kernel_rfl) (by kernel_rfl) ⟨1, rfl⟩ ?_
  simp only [List.take_succ_cons, List.take_zero, List.drop_succ_cons, List.drop_zero]
  repeat (quiet_step (first | (go_at_call 115; exact Calls.quiet_of (get32_calls ad _ _ l _ (hr.drewN _) hl.symm (by simp [hl]) (hb))) | (go_at_call 114; exact Calls.quiet_of_same (rotl32_calls _ 13 _ (by omega) (by omega) (u32_range _).1 (u32_range _).2))))
  refine wpQuiet_nil ?_
  intro _ hw'
  obtain ⟨nq, hw''⟩ := hw'
  subst hw''
  go_wp2
  obtain ⟨w1, hw1⟩ : ∃ z, z = (w.drewN nq).setCell ⟨g, 3, none⟩ (.int .u32 (X.step32 v.a (X.le32 l))) := ⟨_, rfl⟩
  have P1 := put_world HD.out nq 3 (.int .u32 (X.step32 v.a (X.le32 l)))
  rw [← hw1] at P1
  unfold X.step32 at hw1
  rw [← hw1]
  clear hw1
  obtain ⟨D1, K1, G1⟩ := P1
  have HD1 := Lib.hid (show IsD w1 g r n s ⟨X.step32 v.a (X.le32 l), v.b, v.c, v.d⟩ from D1)
  have HG1 := Lib.hid (grown_then HG.out G1)
  have r1 := Lib.hid (Rd.of_cells hr (fun p hp => K1 p (by rw [hp]; exact hag)))
  have hx1 := (K1 ⟨bx, 0, none⟩ hne).trans hx
  clear x0 f0 D1 K1 G1 HD HG hx
  have HD := HD1
  have HG := HG1
  have R1 := r1
  clear HD1 HG1 r1 hr
  obtain ⟨x0, f0⟩ := IsD.at HD.out 4 _ rfl
  have hr1 : Rd w1 ⟨ad.block, ad.off + 4, none⟩ (l.drop 4) := by
    have := R1.out.drop 4
    rwa [add_pos _ _ (by omega)] at this
  rw [rounds_succ]
  go_wp2
  refine QTail.wp_region_tail (C := fun w' => ∃ n, w' = w1.drewN n) 20 (by kernel_rfl) (by kernel_rfl) ⟨1, rfl⟩ ?_
  simp only [List.take_succ_cons, List.take_zero, List.drop_succ_cons, List.drop_zero]
  repeat (quiet_step (first | (go_at_call 115; exact Calls.quiet_of (get32_calls ⟨ad.block, ad.off + 4, none⟩ _ _ (l.drop 4) _ (hr1.drewN _) (by simp [hl]) (by simp [hl]) (hb.drop 4))) | (go_at_call 114; exact Calls.quiet_of_same (rotl32_calls _ 13 _ (by omega) (by omega) (u32_range _).1 (u32_range _).2))))
  refine wpQuiet_nil ?_
  intro _ hw'
  obtain ⟨nq, hw''⟩ := hw'
  subst hw''
  go_wp2
  obtain ⟨w2, hw2⟩ : ∃ z, z = (w1.drewN nq).setCell ⟨g, 4, none⟩ (.int .u32 (X.step32 v.b (X.le32 (l.drop 4)))) := ⟨_, rfl⟩
  have P2 := put_world HD.out nq 4 (.int .u32 (X.step32 v.b (X.le32 (l.drop 4))))
  rw [← hw2] at P2
  unfold X.step32 at hw2
  rw [← hw2]
  clear hw2
  obtain ⟨D2, K2, G2⟩ := P2
  have HD2 := Lib.hid (show IsD w2 g r n s ⟨X.step32 v.a (X.le32 l), X.step32 v.b (X.le32 (l.drop 4)), v.c, v.d⟩ from D2)
  have HG2 := Lib.hid (grown_then HG.out G2)
  have r2 := Lib.hid (Rd.of_cells R1.out (fun p hp => K2 p (by rw [hp]; exact hag)))
  have hx2 := (K2 ⟨bx, 0, none⟩ hne).trans hx1
  clear x0 f0 D2 K2 G2 HD HG hx1
  have HD := HD2
  have HG := HG2
  have R2 := r2
  clear HD2 HG2 r2 R1
  obtain ⟨x0, f0⟩ := IsD.at HD.out 5 _ rfl
  have hr2 : Rd w2 ⟨ad.block, ad.off + 8, none⟩ (l.drop 8) := by
    have := R2.out.drop 8
    rwa [add_pos _ _ (by omega)] at this
  rw [rounds_succ]
  go_wp2
  refine QTail.wp_region_tail (C := fun w' => ∃ n, w' = w2.drewN n) 20 (by kernel_rfl) (by kernel_rfl) ⟨1, rfl⟩ ?_
  simp only [List.take_succ_cons, List.take_zero, List.drop_succ_cons, List.drop_zero]
  repeat (quiet_step (first | (go_at_call 115; exact Calls.quiet_of (get32_calls ⟨ad.block, ad.off + 8, none⟩ _ _ (l.drop 8) _ (hr2.drewN _) (by simp [hl]) (by simp [hl]) (hb.drop 8))) | (go_at_call 114; exact Calls.quiet_of_same (rotl32_calls _ 13 _ (by omega) (by omega) (u32_range _).1 (u32_range _).2))))
  refine wpQuiet_nil ?_
  intro _ hw'
  obtain ⟨nq, hw''⟩ := hw'
  subst hw''
  go_wp2
  obtain ⟨w3, hw3⟩ : ∃ z, z = (w2.drewN nq).setCell ⟨g, 5, none⟩ (.int .u32 (X.step32 v.c (X.le32 (l.drop 8)))) := ⟨_, rfl⟩
  have P3 := put_world HD.out nq 5 (.int .u32 (X.step32 v.c (X.le32 (l.drop 8))))
  rw [← hw3] at P3
  unfold X.step32 at hw3
  rw [← hw3]
  clear hw3
  obtain ⟨D3, K3, G3⟩ := P3
  have HD3 := Lib.hid (show IsD w3 g r n s ⟨X.step32 v.a (X.le32 l), X.step32 v.b (X.le32 (l.drop 4)), X.step32 v.c (X.le32 (l.drop 8)), v.d⟩ from D3)
  have HG3 := Lib.hid (grown_then HG.out G3)
  have r3 := Lib.hid (Rd.of_cells R2.out (fun p hp => K3 p (by rw [hp]; exact hag)))
  have hx3 := (K3 ⟨bx, 0, none⟩ hne).trans hx2
  clear x0 f0 D3 K3 G3 HD HG hx2
  have HD := HD3
  have HG := HG3
  have R3 := r3
  clear HD3 HG3 r3 R2
  obtain ⟨x0, f0⟩ := IsD.at HD.out 6 _ rfl
  have hr3 : Rd w3 ⟨ad.block, ad.off + 12, none⟩ (l.drop 12) := by
    have := R3.out.drop 12
    rwa [add_pos _ _ (by omega)] at this
  rw [rounds_succ]
  go_wp2
  refine QTail.wp_region_tail (C := fun w' => ∃ n, w' = w3.drewN n) 20 (by kernel_rfl) (by kernel_rfl) ⟨1, rfl⟩ ?_
  simp only [List.take_succ_cons, List.take_zero, List.drop_succ_cons, List.drop_zero]
  repeat (quiet_step (first | (go_at_call 115; exact Calls.quiet_of (get32_calls ⟨ad.block, ad.off + 12, none⟩ _ _ (l.drop 12) _ (hr3.drewN _) (by simp [hl]) (by simp [hl]) (hb.drop 12))) | (go_at_call 114; exact Calls.quiet_of_same (rotl32_calls _ 13 _ (by omega) (by omega) (u32_range _).1 (u32_range _).2))))
  refine wpQuiet_nil ?_
  intro _ hw'
  obtain ⟨nq, hw''⟩ := hw'
  subst hw''
  go_wp2
  obtain ⟨w4, hw4⟩ : ∃ z, z = (w3.drewN nq).setCell ⟨g, 6, none⟩ (.int .u32 (X.step32 v.d (X.le32 (l.drop 12)))) := ⟨_, rfl⟩
  have P4 := put_world HD.out nq 6 (.int .u32 (X.step32 v.d (X.le32 (l.drop 12))))
  rw [← hw4] at P4
  unfold X.step32 at hw4
  rw [← hw4]
  clear hw4
  obtain ⟨D4, K4, G4⟩ := P4
  have HD4 := Lib.hid (show IsD w4 g r n s ⟨X.step32 v.a (X.le32 l), X.step32 v.b (X.le32 (l.drop 4)), X.step32 v.c (X.le32 (l.drop 8)), X.step32 v.d (X.le32 (l.drop 12))⟩ from D4)
  have HG4 := Lib.hid (grown_then HG.out G4)
  have r4 := Lib.hid (Rd.of_cells R3.out (fun p hp => K4 p (by rw [hp]; exact hag)))
  have hx4 := (K4 ⟨bx, 0, none⟩ hne).trans hx3
  clear x0 f0 D4 K4 G4 HD HG hx3
  have HD := HD4
  have HG := HG4
  have R4 := r4
  clear HD4 HG4 r4 R3
  rw [rounds_succ]
  go_wp2
  go_end0
  exact ⟨rfl, HD.out, HG.out⟩
end Go.Proofs.Ytnomebkdhjigjaa.XxhW
/- Contract of slices.Clone at []byte: the same bytes, in memory of the call's own. Condition: fewer than 2^47 bytes. -/
namespace Go.Proofs.Ytnomebkdhjigjaa.XxhW
open Go.RowKit Go.Proofs.YtnomebkdhjigjaaW.PrintWords Go.Proofs.YtnomebkdhjigjaaW.PrintLast Go.Proofs.YtnomebkdhjigjaaW.PrintMore
set_option linter.unusedVariables false
set_option linter.unusedSimpArgs false
theorem info5 : (Try.prog.info? 5).map (fun i => (i.zero, i.size, i.bytes)) = some (some (.int .u8 0), 1, 1) := by kernel_rfl

theorem clone_nil (n c : Nat) (w : World) : Calls Try.prog 52 #[.slice none n c] w fun e w' => e = .returned (.slice none 0 0) ∧ w' = w := by
  have hq := @Lib.run_eql_slice_nil Try.prog
  go_enter Try.func52, Try.ntmps52
  go_wp2
  go_ret
  exact ⟨rfl, rfl⟩

theorem clone_some (ad : Addr) (c : Nat) (l : List Int) (w : World) (hr : ReadsInt w .u8 (some ad) l.length l) (hl : l.length ≤ 140737488355327) :
    Calls Try.prog 52 #[.slice (some ad) l.length c] w fun e w' => ∃ v, e = .returned v ∧ w'.ownsRow w.heap.size 5 1 v l.length (nums .u8 l) ∧ Below w.heap.size w w' := by
  have hq := @Lib.run_eql_slice_nil Try.prog
  have hb : Below w.heap.size w (w.alloc (.cells #[] 5)) := below_alloc (Below.refl _ _) _
  have ho : (w.alloc (.cells #[] 5)).ownsRow w.heap.size 5 1 (.slice (some ⟨w.heap.size, 0, none⟩) 0 0) ([] : List Int).length (nums .u8 []) := own_lit w w.heap.size 5 .u8 [] (Nat.le_refl _) (by simp)
  go_enter Try.func52, Try.ntmps52
  go_wp2_with (first | (at_builtin; refine print_append_row (w0 := w) w.heap.size rfl (.tmp 5) (.tmp 6) 22 5 .u8 1 rfl Try.underlying22 info5 (by decide) (.slice (some ⟨w.heap.size, 0, none⟩) 0 0) [] l (some ad) l.length c rfl rfl ho (hr.below hb) hb (by simp) (by simp; omega) ?_; intro v1 w1 hO hB hG hA))
  go_ret
  exact ⟨v1, rfl, by simpa using hO, hB⟩

/-- Whatever the slice: what it reads is owned by the result. -/
theorem clone_any (A : Option Addr) (c : Nat) (l : List Int) (w : World) (hr : ReadsInt w .u8 A l.length l) (hl : l.length ≤ 140737488355327) :
    Calls Try.prog 52 #[.slice A l.length c] w fun e w' => ∃ A' c', e = .returned (.slice A' l.length c') ∧ w'.ownsRow w.heap.size 5 1 (.slice A' l.length c') l.length (nums .u8 l) ∧ Below w.heap.size w w' := by
  cases A with
  | some ad =>
    refine (clone_some ad c l w hr hl).mono fun e w' ⟨v, he, ho, hb⟩ => ?_
    obtain ⟨A', c', rfl⟩ := own_slice ho
    exact ⟨A', c', he, ho, hb⟩
  | none =>
    have h0 : l.length = 0 := by
      rcases Nat.eq_zero_or_pos l.length with h | h
      · exact h
      · obtain ⟨ad, e, _⟩ := hr.2.2 h; cases e
    obtain rfl : l = [] := List.eq_nil_of_length_eq_zero h0
    exact (clone_nil _ c w).mono fun e w' ⟨he, hw⟩ => by
      subst he hw
      exact ⟨_, _, rfl, own_nil _ _ _ _, Below.refl _ _⟩
end Go.Proofs.Ytnomebkdhjigjaa.XxhW
/- Contract of xxh's pieces, at digests of 32 bits: what waited and what came is taken in whole stripes, what is left waits. Conditions: the lengths stay below 2^47; bytes are bytes. -/
namespace Go.Proofs.Ytnomebkdhjigjaa.XxhW
open Go.RowKit Go.Proofs.YtnomebkdhjigjaaW.PrintWords Go.Proofs.YtnomebkdhjigjaaW.PrintLast Go.Proofs.YtnomebkdhjigjaaW.PrintMore
set_option linter.unusedVariables false
set_option linter.unusedSimpArgs false
/-- Behind what happened, the world is as it was at the blocks that ok holds of. -/
structure Fr (w w' : World) (ok : Nat → Prop) : Prop where
  os : w'.os = w.os
  tape : w'.tape = w.tape
  output : w'.output = w.output
  size : w.heap.size ≤ w'.heap.size
  block : ∀ i, i < w.heap.size → ok i → w'.heap[i]? = w.heap[i]?
theorem Fr.then {w w1 w2 : World} {ok : Nat → Prop} (h : Fr w w1 ok) (h' : Fr w1 w2 ok) : Fr w w2 ok :=
  ⟨h'.os.trans h.os, h'.tape.trans h.tape, h'.output.trans h.output, Nat.le_trans h.size h'.size, fun i hi ho => (h'.block i (Nat.lt_of_lt_of_le hi h.size) ho).trans (h.block i hi ho)⟩
theorem Fr.mono {w w1 : World} {ok ok' : Nat → Prop} (h : Fr w w1 ok) (hk : ∀ i, i < w.heap.size → ok' i → ok i) : Fr w w1 ok' := ⟨h.os, h.tape, h.output, h.size, fun i hi ho => h.block i hi (hk i hi ho)⟩
/-- The second step speaks of the blocks that stood ahead of the first alone. -/
theorem Fr.then' {w w1 w2 : World} {ok ok' : Nat → Prop} (h : Fr w w1 ok) (h' : Fr w1 w2 ok') (hk : ∀ i, i < w.heap.size → ok i → ok' i) : Fr w w2 ok :=
  ⟨h'.os.trans h.os, h'.tape.trans h.tape, h'.output.trans h.output, Nat.le_trans h.size h'.size, fun i hi ho => (h'.block i (Nat.lt_of_lt_of_le hi h.size) (hk i hi ho)).trans (h.block i hi ho)⟩
theorem Fr.of_grown {w w1 : World} {row : Option Nat} (h : w.grownBy w1 row) : Fr w w1 (fun i => some i ≠ row) := ⟨h.os, h.tape, h.output, h.size, fun i hi ho => h.block i hi ho⟩
theorem Fr.of_below {w w1 : World} (h : Below w.heap.size w w1) (ok : Nat → Prop) : Fr w w1 ok := ⟨h.os, h.tape, h.output, h.size, fun i hi _ => h.block i hi⟩
theorem Fr.below {w w1 : World} {ok : Nat → Prop} {B : Nat} (h : Fr w w1 ok) (hk : ∀ i, i < B → i < w.heap.size ∧ ok i) : Below B w w1 := ⟨h.os, h.tape, h.output, h.size, fun i hi => h.block i (hk i hi).1 (hk i hi).2⟩
theorem Fr.set {w : World} (p : Addr) (u : Value) : Fr w (w.setCell p u) (fun i => i ≠ p.block) := ⟨rfl, rfl, rfl, by simp [World.setCell], fun i _ hi => Below.heap_setCell w p u i hi⟩
theorem Fr.heap {w w1 : World} {ok : Nat → Prop} (h : Fr w w1 ok) {i : Nat} {o : Obj} (hb : w.heap[i]? = some o) (hi : ok i) : w1.heap[i]? = some o := (h.block i (blk_lt hb) hi).trans hb
theorem Fr.cell {w w1 : World} {ok : Nat → Prop} (h : Fr w w1 ok) {p : Addr} {u : Value} (hc : w.cell? p = some u) (hi : ok p.block) : w1.cell? p = some u := by
  have := h.block p.block (World.block_lt_of_cell? w p hc) hi
  simpa [World.cell?, this] using hc
theorem add_block (ad : Addr) (i : Nat) : (ad.add i).block = ad.block := by unfold Addr.add; split <;> rfl
theorem reads_fr {w w1 : World} {ok : Nat → Prop} (h : Fr w w1 ok) {k : IntKind} {A : Option Addr} {n : Nat} {l : List Int} (hr : ReadsInt w k A n l) (hi : ∀ ad, A = some ad → 0 < n → ok ad.block) : ReadsInt w1 k A n l :=
  ⟨hr.1, hr.2.1, fun h0 => by
    obtain ⟨ad, e, hc⟩ := hr.2.2 h0
    exact ⟨ad, e, fun j hj => h.cell (hc j hj) (by rw [add_block]; exact hi ad e h0)⟩⟩
theorem rd_of_reads {w : World} {ad : Addr} {n : Nat} {l : List Int} (hr : ReadsInt w .u8 (some ad) n l) : Rd w ad l := fun i hi => by
  obtain ⟨ad', e, hc⟩ := hr.2.2 (by have := hr.1; omega)
  cases e
  exact hc i (by have := hr.1; omega)

/-- Bytes that are read lie in no block whose cells are no bytes. -/
theorem apart_of_reads {w : World} {k : IntKind} {ad : Addr} {n g : Nat} {t : TypeId} {l : List Int} {cs : Array Value} (hr : ReadsInt w k (some ad) n l) (h0 : 0 < n) (hd : w.heap[g]? = some (.cells cs t (0, 0)))
    (hcs : ∀ (o : Nat) (k' : IntKind) (z : Int), cs[o]? = some (.int k' z) → k' ≠ k) : ad.block ≠ g := by
  intro hq
  obtain ⟨ad', e', hc⟩ := hr.2.2 h0
  cases e'
  have hc0 := hc 0 h0
  rw [Addr.add_zero'] at hc0
  unfold World.cell? at hc0
  rw [hq, hd] at hc0
  simp only at hc0
  split at hc0
  · cases hc0
  · exact hcs _ _ _ hc0 rfl

/-- n rounds and one more. -/
theorem run_snoc (j : Nat) : ∀ (v : X.V4) (l : List Int), X.run32 (j + 1) v l = X.stripe32 (X.run32 j v l) (l.drop (16 * j)) := by
  induction j with
  | zero => intro v l; rfl
  | succ j ih =>
    intro v l
    rw [X.run32, ih]
    rw [X.run32, List.drop_drop]
    congr 2
    omega

theorem Bytes.take {l : List Int} (h : Bytes l) (k : Nat) : Bytes (l.take k) := fun i => by
  have := h i
  by_cases hi : i < k
  · simpa [X.at', List.getD_eq_getElem?_getD, List.getElem?_take, hi] using this
  · simp [X.at', List.getD_eq_getElem?_getD, List.getElem?_take, hi]
theorem le_take (l : List Int) (k m : Nat) (h : k + 4 ≤ m) : X.le32 ((l.take m).drop k) = X.le32 (l.drop k) := by
  have e : ∀ i, i < 4 → X.at' ((l.take m).drop k) i = X.at' (l.drop k) i := fun i hi => by
    have : k + i < m := by omega
    simp [X.at', List.getD_eq_getElem?_getD, List.getElem?_take, List.getElem?_drop, this]
  simp only [X.le32, e 0 (by omega), e 1 (by omega), e 2 (by omega), e 3 (by omega)]
theorem stripe_take (v : X.V4) (l : List Int) (h : 16 ≤ l.length) : X.stripe32 v (l.take 16) = X.stripe32 v l := by
  have e0 := le_take l 0 16 (by omega)
  simp only [List.drop_zero] at e0
  simp only [X.stripe32, e0, le_take l 4 16 (by omega), le_take l 8 16 (by omega), le_take l 12 16 (by omega)]
theorem own_lower {w : World} {base base' : Nat} {e : TypeId} {size n : Nat} {v : Value} {xs : List Value} (h : w.ownsRow base e size v n xs) (hb : base' ≤ base) : w.ownsRow base' e size v n xs := by
  refine ⟨h.1, ?_⟩
  rcases h.2 with h | ⟨g, cap, cur, a, b, c⟩
  · exact .inl h
  · exact .inr ⟨g, cap, cur, a, Nat.le_trans hb b, c⟩

/-- What waits reads as this; it lies apart from block g. -/
def Waits (w : World) (g : Nat) (A : Option Addr) (n c : Nat) (l : List Int) : Prop := ReadsInt w .u8 A n l ∧ n ≤ c

theorem own_waits {w : World} {base g : Nat} {v : Value} {l : List Int} (h : w.ownsRow base 5 1 v l.length (nums .u8 l)) : ∃ A c, v = .slice A l.length c ∧ Waits w g A l.length c l := by
  obtain ⟨A, c, e, hr⟩ := own_reads h
  refine ⟨A, c, e, hr, ?_⟩
  rcases h.2 with ⟨hv, h0⟩ | ⟨q, cap, cur, hv, _, _, hn, _⟩
  · rw [h0]; exact Nat.zero_le _
  · rw [hv] at e; injection e with _ _ e3; omega
theorem apart_D {w : World} {ad : Addr} {n g m c : Nat} {A : Option Addr} {N s : Int} {v : X.V4} {l : List Int} (hr : ReadsInt w .u8 (some ad) n l) (h0 : 0 < n) (hd : IsD w g (.slice A m c) N s v) : ad.block ≠ g :=
  apart_of_reads hr h0 hd (fun o k z h => by
    rcases o with _ | _ | _ | _ | _ | _ | _ | o <;> simp at h
    all_goals (obtain ⟨rfl, _⟩ := h; decide))

set_option maxHeartbeats 4000000 in
set_option maxRecDepth 100000 in
theorem pieces_calls (A : Option Addr) (c : Nat) (b rl : List Int) (bx g base N : Nat) (rv : Value) (s : Int) (v : X.V4) (w : World) (hr : ReadsInt w .u8 A b.length b) (hb : Bytes (rl ++ b))
    (hx : w.heap[bx]? = some (.cells #[.pointer (some ⟨g, 0, none⟩)] 133 (0, 0))) (hd : IsD w g rv N s v) (ho : w.ownsRow base 5 1 rv rl.length (nums .u8 rl)) (hbase : base ≤ w.heap.size)
    (hl : rl.length + b.length ≤ 140737488355327) (hN : N ≤ 4611686018427387904) :
    Calls Try.prog 112 #[.pointer (some ⟨g, 0, none⟩), .slice A b.length c, .int .i64 16, .func (.func 113) #[] #[.pointer (some ⟨bx, 0, none⟩)]] w fun e w' => e = .returned (.tuple #[]) ∧
      ∃ rv', IsD w' g rv' ((N + b.length : Nat) : Int) s (X.run32 ((rl ++ b).length / 16) v (rl ++ b)) ∧ w'.ownsRow w.heap.size 5 1 rv' (X.rest 16 (rl ++ b)).length (nums .u8 (X.rest 16 (rl ++ b))) ∧
        Fr w w' (fun i => i ≠ g ∧ some i ≠ rv.ownBlock) := by
  obtain ⟨al, eal⟩ : ∃ al, al = rl ++ b := ⟨_, rfl⟩
  rw [← eal] at hb ⊢
  have hal : al.length = rl.length + b.length := by rw [eal]; simp
  have Hal := Aside0.mk hal
  have Heal := Aside0.mk eal
  clear hal eal
  have hneg : bx ≠ g := blk_ne hx hd (by decide)
  obtain ⟨x0, f0⟩ := IsD.at hd 0 rv rfl
  obtain ⟨x1, f1⟩ := IsD.at hd 1 (.int .u64 N) rfl
  have n0 : (0 : Int) ≤ (N : Int) := by omega
  have nb0 : (0 : Int) ≤ (b.length : Int) := by omega
  have nb1 : (b.length : Int) ≤ 140737488355327 := by omega
  have nn : (N : Int) ≤ 4611686018427387904 := by omega
  have F1 : Fr w (w.setCell ⟨g, 1, none⟩ (.int .u64 ((N : Int) + (b.length : Int)))) (fun i => i ≠ g) := Fr.set ⟨g, 1, none⟩ _
  have D1 : (w.setCell ⟨g, 1, none⟩ (.int .u64 ((N : Int) + (b.length : Int)))).heap[g]? = some (.cells #[rv, .int .u64 ((N : Int) + (b.length : Int)), .int .u32 s, .int .u32 v.a, .int .u32 v.b, .int .u32 v.c, .int .u32 v.d] 150 (0, 0)) := blk_set hd 1 _
  have hag : ∀ ad, A = some ad → 0 < b.length → ad.block ≠ g := fun ad e h0 => apart_of_reads (e ▸ hr) h0 hd (fun o k z h => by
    rcases o with _ | _ | _ | _ | _ | _ | _ | o <;> simp at h
    · rcases ho.2 with ⟨hv, _⟩ | ⟨_, _, _, hv, _⟩ <;> rw [hv] at h <;> cases h
    all_goals (obtain ⟨rfl, _⟩ := h; decide))
  have hne : some g ≠ rv.ownBlock := own_ne ho (show w.heap[g]? = some (.cells _ 150 (0, 0)) from hd) (by decide)
  have O1 : (w.setCell ⟨g, 1, none⟩ (.int .u64 ((N : Int) + (b.length : Int)))).ownsRow base 5 1 rv rl.length (nums .u8 rl) := own_setCell ho hne _
  have hrv : ∃ A n c, rv = .slice A n c := by obtain ⟨A, c, e⟩ := own_slice ho; exact ⟨_, _, _, e⟩
  have hrow : some bx ≠ rv.ownBlock := own_ne ho hx (by decide)
  have HR1 := Aside0.mk (reads_fr F1 hr (fun ad e h0 => hag ad e h0))
  have HO1 := Aside0.mk O1
  have HD1 := Aside0.mk D1
  have HF1 := Aside0.mk F1
  have HB1 := Aside0.mk (Nat.le_trans hbase F1.size)
  clear O1 D1 F1 hag hr ho
  go_enter Try.func112, Try.ntmps112
  go_wp2_with (first | (at_builtin; refine print_append_row (w0 := (w.setCell ⟨g, 1, none⟩ (.int .u64 ((N : Int) + (b.length : Int))))) base rfl (.tmp 22) (.tmp 23) 22 5 .u8 1 rfl Try.underlying22 info5 (by decide) rv rl b A b.length c rfl rfl HO1.out HR1.out (Below.refl _ _) HB1.out (by omega) ?_; intro v1 w2 hO hB hG hA; rw [← Heal.out] at hO; have HD2 := Aside0.mk (blk_grown HD1.out hG hne); have x2 : w2.cell? ⟨g, 0, none⟩ = some rv := cell_of_row w2 g 0 _ 150 (0, 0) HD2.out; have f2 : w2.frozen? ⟨g, 0, none⟩ = false := blk_frozen HD2.out 0; obtain ⟨A2, c2, ev, hW⟩ := own_waits (g := g) hO; subst ev; have HW2 := Aside0.mk hW; clear hW; have HO2 := Aside0.mk hO; have HG2 := Aside0.mk hG; have HA2 := Aside0.mk hA; clear hO hB hG hA))
  have e9 : ((N : Int) + (b.length : Int)) = ((N + b.length : Nat) : Int) := by omega
  obtain ⟨w3, hw3⟩ : ∃ z, z = w2.setCell ⟨g, 0, none⟩ (.slice A2 al.length c2) := ⟨_, rfl⟩
  rw [← hw3]
  have F3 : Fr w w3 (fun i => i ≠ g ∧ some i ≠ rv.ownBlock) := by
    rw [hw3]
    exact ((HF1.out.mono (fun i _ h => h.1)).then' (Fr.of_grown HG2.out) (fun i _ h => h.2)).then' (Fr.set ⟨g, 0, none⟩ _) (fun i _ h => h.1)
  have D3 : IsD w3 g (.slice A2 al.length c2) (N + b.length : Nat) s (X.run32 0 v al) := by
    rw [hw3, ← e9]; exact blk_set HD2.out 0 _
  have W3 : Waits w3 g A2 (al.length - 16 * 0) c2 (al.drop (16 * 0)) := by
    rw [hw3]
    exact ⟨reads_fr (Fr.set ⟨g, 0, none⟩ _) HW2.out.1 (fun ad e h0 => apart_of_reads (e ▸ HW2.out.1) h0 HD2.out (fun o k z h => by
      rcases o with _ | _ | _ | _ | _ | _ | _ | o <;> simp at h
      · exact absurd h (by rcases hrv with ⟨_, _, _, e⟩; rw [e]; simp)
      all_goals (obtain ⟨rfl, _⟩ := h; decide))), HW2.out.2⟩
  clear e9 hw3 HA2 HG2 HO2 HW2 HD2 HF1 HD1 HO1 HR1 HB1 x2 f2 x0 f0 x1 f1
  have HF := Aside0.mk F3
  have HD := Aside0.mk D3
  have HW := Aside0.mk W3
  clear F3 D3 W3
  go_loopg [] (al.length / 16) (fun kq wc => ∃ (j : Nat) (A' : Option Addr) (c' : Nat), kq + j = al.length / 16 ∧ Aside0 (IsD wc g (.slice A' (al.length - 16 * j) c') (N + b.length : Nat) s (X.run32 j v al)) ∧
    Aside0 (Waits wc g A' (al.length - 16 * j) c' (al.drop (16 * j))) ∧ Aside0 (Fr w wc (fun i => i ≠ g ∧ some i ≠ rv.ownBlock)))
  case atStart => exact ⟨0, A2, c2, by omega, HD, HW, HF⟩
  case round =>
    clear HD HW HF
    obtain ⟨j, A', c', hk, HD, HW, HF⟩ := hrel
    obtain ⟨L, eL⟩ : ∃ L, L = al.drop (16 * j) := ⟨_, rfl⟩
    have eLl : al.length - 16 * j = L.length := by rw [eL]; simp
    rw [eLl] at HD HW
    rw [← eL] at HW
    have HeL := Aside0.mk eL
    have HeLl := Aside0.mk eLl
    have hLs : L.length ≤ 140737488355327 := by have := Hal.out; omega
    have hLb : Bytes L := by rw [eL]; exact hb.drop _
    have HLb := Aside0.mk hLb
    clear eL eLl hLb
    have HbX := Aside0.mk (HF.out.heap hx ⟨hneg, fun e => hrow e⟩)
    have hbx : wr.cell? ⟨bx, 0, none⟩ = some (.pointer (some ⟨g, 0, none⟩)) := cell_of_one HbX.out
    obtain ⟨y0, g0⟩ := IsD.at HD.out 0 (.slice A' L.length c') rfl
    have hLc : L.length ≤ c' := HW.out.2
    cases gk with
    | zero =>
      have hlt : L.length < 16 := by have := HeLl.out; have := Nat.div_add_mod al.length 16; have := Nat.mod_lt al.length (show 0 < 16 by decide); omega
      have hlt' : (L.length : Int) < 16 := by omega
      have Hk := Aside0.mk hk
      have HLs := Aside0.mk hLs
      have HLc := Aside0.mk hLc
      clear hk hd hrv hb hl hN hLc hbase
      go_wp2_with (first | ((with_reducible refine gate_callee (f := 52) rfl ?_); refine goesL_ (some 56) rfl rfl Try.func52 (by kernel_rfl) rfl #[.slice A' L.length c'] rfl (by (try simp only [List.map_toArray, List.map_cons, List.map_nil]); first | done | rfl) ?_; refine (clone_any A' c' L _ HW.out.1 hLs).mono ?_; rintro e w5 ⟨A5, c5, rfl, hO5, hB5⟩; refine ⟨_, rfl, ?_⟩; have HO5 := Aside0.mk hO5; have HB5 := Aside0.mk hB5; have HD5 := Aside0.mk (show w5.heap[g]? = some (.cells _ 150 (0, 0)) from (hB5.block g (blk_lt HD.out)).trans HD.out); have f5 : w5.frozen? ⟨g, 0, none⟩ = false := blk_frozen HD5.out 0; have x5 : w5.cell? ⟨g, 0, none⟩ = some (.slice A' L.length c') := cell_of_row w5 g 0 _ 150 (0, 0) HD5.out; clear hO5 hB5))
      go_end0
      have eM : j = al.length / 16 := by have := Hk.out; omega
      have eR : X.rest 16 al = L := by rw [X.rest, ← eM]; exact HeL.out.symm
      refine ⟨rfl, .slice A5 L.length c5, ?_, ?_, ?_⟩
      · rw [← eM]; exact blk_set HD5.out 0 _
      · rw [eR]
        have hne5 : some g ≠ (Value.slice A5 L.length c5).ownBlock := own_ne HO5.out HD5.out (by decide)
        have := own_setCell (p := ⟨g, 0, none⟩) HO5.out hne5 (.slice A5 L.length c5)
        exact own_lower this HF.out.size
      · exact (HF.out.then' (Fr.of_below HB5.out (fun _ => True)) (fun _ _ _ => trivial)).then' (Fr.set ⟨g, 0, none⟩ _) (fun i _ h => h.1)
    | succ k1 =>
      have hge : 16 ≤ L.length := by have := HeLl.out; have := Nat.div_mul_le_self al.length 16; omega
      have hge' : (16 : Int) ≤ (L.length : Int) := by omega
      have hc16 : (16 : Int) ≤ (c' : Int) := by omega
      obtain ⟨ad, rfl, _⟩ := HW.out.1.2.2 (by omega)
      have hadg : ad.block ≠ g := apart_D HW.out.1 (by omega) HD.out
      have HT := Aside0.mk (Rd.take (rd_of_reads HW.out.1) 16)
      have HTl := Aside0.mk (show (L.take 16).length = 16 by simp; omega)
      have HTb := Aside0.mk (HLb.out.take 16)
      have HstripeL := Aside0.mk (stripe_take (X.run32 j v al) L hge)
      have HdropL := Aside0.mk (show al.drop (16 * (j + 1)) = L.drop 16 by rw [HeL.out, List.drop_drop, Nat.mul_succ])
      obtain ⟨i05, hi05, _, hsz5, _⟩ := info_parts info5
      obtain ⟨A1, hcut, hA1⟩ := print_cut (P := Try.prog) 22 5 .i64 Try.underlying22 hi05 hsz5 (some ad) L.length c' 16 hge
      have HA1 := Aside0.mk hA1
      have hcut' : ∀ W : World, (Instr.slice 22 (.slice (some ad) L.length c') (some (.int .i64 16)) none none).run Try.prog W = .ok (.slice A1 (L.length - 16) (c' - 16)) W := hcut
      clear hA1 hi05 hsz5 hcut
      go_wp2_with (first | (go_at_call 113; refine (takes1_calls ad c' (L.take 16) bx g (.slice (some ad) L.length c') ((N + b.length : Nat) : Int) s (X.run32 j v al) _ HT.out HTl.out (by omega) HTb.out hbx HD.out hneg hadg).mono ?_; rintro e w4 ⟨rfl, hD4, hG4⟩; have HD4 := Aside0.mk hD4; have F4' := Aside0.mk ((Fr.of_grown hG4).mono (ok' := fun i => i ≠ g) (fun i _ h e => h (by injection e))); have x4 : w4.cell? ⟨g, 0, none⟩ = some (.slice (some ad) L.length c') := (IsD.at hD4 0 _ rfl).1; have f4 : w4.frozen? ⟨g, 0, none⟩ = false := (IsD.at hD4 0 (.slice (some ad) L.length c') rfl).2; clear hD4 hG4))
      go_roundg k1
      case measure => omega
      case rel =>
        have F4 := F4'.out
        have e1 : al.length - 16 * (j + 1) = L.length - 16 := by have := HeLl.out; omega
        refine ⟨j + 1, A1, c' - 16, by omega, ⟨?_⟩, ⟨?_⟩, ⟨?_⟩⟩
        · rw [run_snoc, ← HeL.out, ← HstripeL.out, e1]
          exact blk_set HD4.out 0 _
        · rw [e1, HdropL.out]
          exact ⟨reads_fr (F4.then (Fr.set ⟨g, 0, none⟩ _)) (HA1.out _ _ _ hLc HW.out.1) (fun ad' e h0 => apart_D (e ▸ HA1.out _ _ _ hLc HW.out.1) h0 HD.out), by omega⟩
        · exact (HF.out.then' F4 (fun i _ h => h.1)).then' (Fr.set ⟨g, 0, none⟩ _) (fun i _ h => h.1)
end Go.Proofs.Ytnomebkdhjigjaa.XxhW
/- Contracts of xxh's begun32 and takes (32 bits). Conditions: the lengths stay below 2^47; bytes are bytes. -/
namespace Go.Proofs.Ytnomebkdhjigjaa.XxhW
open Go.RowKit Go.Proofs.YtnomebkdhjigjaaW.PrintWords Go.Proofs.YtnomebkdhjigjaaW.PrintLast Go.Proofs.YtnomebkdhjigjaaW.PrintMore
set_option linter.unusedVariables false
set_option linter.unusedSimpArgs false
theorem IsD.alloc {w : World} {g : Nat} {r : Value} {n s : Int} {v : X.V4} (h : IsD w g r n s v) (o : Obj) : IsD (w.alloc o) g r n s v :=
  (below_alloc (Below.refl _ _) o).block g (blk_lt h) |>.trans h

theorem begun_calls (s : Int) (w : World) (h0 : 0 ≤ s) (h1 : s < 4294967296) :
    Calls Try.prog 95 #[.int .u32 s] w fun e w' => e = .returned (.pointer (some ⟨w.heap.size, 0, none⟩)) ∧ IsD w' w.heap.size (.slice none 0 0) 0 s (X.init32 s) ∧ Below w.heap.size w w' := by
  go_enter Try.func95, Try.ntmps95
  go_wp2
  go_ret
  refine ⟨rfl, ?_, below_alloc (Below.refl _ _) _⟩
  have := heap_alloc_new w (.cells #[.slice none 0 0, .int .u64 0, .int .u32 s, .int .u32 (X.init32 s).a, .int .u32 (X.init32 s).b, .int .u32 (X.init32 s).c, .int .u32 (X.init32 s).d] 150)
  simpa [IsD, X.init32] using this

set_option maxHeartbeats 1000000 in
theorem takes_calls (A : Option Addr) (c : Nat) (b rl : List Int) (g base N : Nat) (rv : Value) (s : Int) (v : X.V4) (w : World) (hr : ReadsInt w .u8 A b.length b) (hb : Bytes (rl ++ b))
    (hd : IsD w g rv N s v) (ho : w.ownsRow base 5 1 rv rl.length (nums .u8 rl)) (hbase : base ≤ w.heap.size) (hl : rl.length + b.length ≤ 140737488355327) (hN : N ≤ 4611686018427387904) :
    Calls Try.prog 96 #[.pointer (some ⟨g, 0, none⟩), .slice A b.length c] w fun e w' => e = .returned (.tuple #[]) ∧
      ∃ rv', IsD w' g rv' ((N + b.length : Nat) : Int) s (X.run32 ((rl ++ b).length / 16) v (rl ++ b)) ∧ w'.ownsRow w.heap.size 5 1 rv' (X.rest 16 (rl ++ b)).length (nums .u8 (X.rest 16 (rl ++ b))) ∧
        Fr w w' (fun i => i ≠ g ∧ some i ≠ rv.ownBlock) := by
  have hB := below_alloc (Below.refl w.heap.size w) (.cells #[.pointer (some ⟨g, 0, none⟩)] 133)
  have HC := Aside0.mk (pieces_calls A c b rl w.heap.size g base N rv s v (w.alloc (.cells #[.pointer (some ⟨g, 0, none⟩)] 133)) (hr.below hB) hb (heap_alloc_new _ _) (hd.alloc _) (ho.alloc _)
    (Nat.le_trans hbase hB.size) hl hN)
  clear hr hd ho hb
  go_enter Try.func96, Try.ntmps96
  go_wp2_with (first | (go_at_call 112; refine HC.out.mono ?_; rintro e w' ⟨rfl, hp⟩; have HP := Aside0.mk hp; clear hp))
  go_end0
  obtain ⟨rv', d, o, f⟩ := HP.out
  exact ⟨rfl, rv', d, own_lower o hB.size, (Fr.of_below hB (fun i => i ≠ g ∧ some i ≠ rv.ownBlock)).then' f (fun _ _ h => h)⟩
end Go.Proofs.Ytnomebkdhjigjaa.XxhW
/- Contract of xxh's sum (32 bits): what a digest comes to; the digest is only read. Conditions: bytes are bytes, words are words of 32 bits, fewer than 2^47 bytes wait. -/
namespace Go.Proofs.Ytnomebkdhjigjaa.XxhW
open Go.RowKit Go.Proofs.YtnomebkdhjigjaaW.PrintWords Go.Proofs.YtnomebkdhjigjaaW.PrintLast Go.Proofs.YtnomebkdhjigjaaW.PrintMore
set_option linter.unusedVariables false
set_option linter.unusedSimpArgs false
def W32 (x : Int) : Prop := 0 ≤ x ∧ x < 4294967296
structure Good (v : X.V4) : Prop where
  a : W32 v.a
  b : W32 v.b
  c : W32 v.c
  d : W32 v.d
theorem w32_mod (x : Int) : W32 (x % 4294967296) := ⟨by omega, by omega⟩
theorem good_init (s : Int) (h : W32 s) : Good (X.init32 s) := ⟨w32_mod _, w32_mod _, h, w32_mod _⟩
theorem good_stripe (v : X.V4) (l : List Int) : Good (X.stripe32 v l) := ⟨w32_mod _, w32_mod _, w32_mod _, w32_mod _⟩
theorem good_run (n : Nat) : ∀ (v : X.V4) (l : List Int), Good v → Good (X.run32 n v l) := by
  induction n with
  | zero => intro v l h; exact h
  | succ n ih => intro v l h; exact ih _ _ (good_stripe _ _)
theorem words_snoc (j : Nat) : ∀ (h : Int) (l : List Int), X.words32 (j + 1) h l = X.word32 (X.words32 j h l) (X.le32 (l.drop (4 * j))) := by
  induction j with
  | zero => intro h l; rfl
  | succ j ih =>
    intro h l
    rw [X.words32, ih, X.words32, List.drop_drop]
    congr 3
    omega
theorem words_range (j : Nat) : ∀ (h : Int) (l : List Int), W32 h → W32 (X.words32 j h l) := by
  induction j with
  | zero => intro h l hh; exact hh
  | succ j ih => intro h l hh; exact ih _ _ (w32_mod _)
theorem bytes_snoc (h : Int) (l : List Int) (i : Nat) (hi : i < l.length) : X.bytes32 h (l.take (i + 1)) = X.byte32 (X.bytes32 h (l.take i)) (X.at' l i) := by
  unfold X.bytes32
  rw [List.take_succ_eq_append_getElem hi, List.foldl_append]
  simp [X.at', List.getD_eq_getElem?_getD, List.getElem?_eq_getElem hi]
theorem bytes_range (l : List Int) : ∀ (h : Int), W32 h → W32 (X.bytes32 h l) := by
  induction l with
  | nil => intro h hh; exact hh
  | cons b l ih => intro h hh; exact ih _ (w32_mod _)

/-- How the sum begins. -/
def head32 (N : Nat) (s : Int) (v : X.V4) : Int := if 16 ≤ N then X.merge32 v else (s + 374761393) % 4294967296

set_option maxHeartbeats 8000000 in
set_option maxRecDepth 100000 in
theorem sum_calls (A : Option Addr) (c g N : Nat) (l : List Int) (s : Int) (v : X.V4) (w : World) (hd : IsD w g (.slice A l.length c) N s v) (hr : ReadsInt w .u8 A l.length l) (hlc : l.length ≤ c)
    (hb : Bytes l) (hv : Good v) (hs : W32 s) (hN : N ≤ 4611686018427387904) (hl : l.length ≤ 140737488355327) :
    Calls Try.prog 97 #[.pointer (some ⟨g, 0, none⟩)] w fun e w' => e = .returned (.int .u32 (X.tail32 ((head32 N s v + (N : Int) % 4294967296) % 4294967296) l)) ∧ ∃ m, w' = w.drewN m := by
  have x0 := (IsD.at hd 0 (.slice A l.length c) rfl).1
  have x1 := (IsD.at hd 1 (.int .u64 N) rfl).1
  have x2 := (IsD.at hd 2 (.int .u32 s) rfl).1
  have x3 := (IsD.at hd 3 (.int .u32 v.a) rfl).1
  have x4 := (IsD.at hd 4 (.int .u32 v.b) rfl).1
  have x5 := (IsD.at hd 5 (.int .u32 v.c) rfl).1
  have x6 := (IsD.at hd 6 (.int .u32 v.d) rfl).1
  obtain ⟨va, vb, vc, vd⟩ := hv
  have n0 : (0 : Int) ≤ (N : Int) := by omega
  have n1 : (N : Int) ≤ 4611686018427387904 := by omega
  have HR := Aside0.mk hr
  have HB := Aside0.mk hb
  clear hr hd hb
  obtain ⟨h1, eh1⟩ : ∃ z, z = (head32 N s v + (N : Int) % 4294967296) % 4294967296 := ⟨_, rfl⟩
  rw [← eh1]
  have Hh := Aside0.mk eh1
  have hh1 : W32 h1 := by rw [eh1]; exact w32_mod _
  have Hw := Aside0.mk hh1
  clear eh1 hh1
  obtain ⟨i05, hi05, _, hsz5, _⟩ := info_parts info5
  have H2 := Aside0.mk hs
  go_enter Try.func97, Try.ntmps97
  go_upto_if 17 with (fail)
  go_cut [3] (fun v3 wc => v3 = .int .u32 (head32 N s v) ∧ ∃ m, wc = w.drewN m)
  case first =>
    by_cases hbig : 16 ≤ N
    · have hbig' : (16 : Int) ≤ (N : Int) := by omega
      have HH := Aside0.mk (show head32 N s v = X.merge32 v from if_pos hbig)
      go_wp2
      go_quiet (first | (go_at_call 114; exact Calls.quiet_of_same (rotl32_calls _ _ _ (by decide) (by decide) va.1 va.2)) | (go_at_call 114; exact Calls.quiet_of_same (rotl32_calls _ _ _ (by decide) (by decide) vb.1 vb.2)) | (go_at_call 114; exact Calls.quiet_of_same (rotl32_calls _ _ _ (by decide) (by decide) vc.1 vc.2)) | (go_at_call 114; exact Calls.quiet_of_same (rotl32_calls _ _ _ (by decide) (by decide) vd.1 vd.2)))
      go_wp2
      go_meet
      case rel => exact ⟨congrArg (Value.int .u32) (by rw [HH.out]; unfold X.merge32; omega), _, rfl⟩
    · have hbig' : (N : Int) < 16 := by omega
      have HH := Aside0.mk (show head32 N s v = (s + 374761393) % 4294967296 from if_neg hbig)
      go_wp2
      go_meet
      case rel => exact ⟨by rw [HH.out], 0, rfl⟩
  case rest =>
    obtain ⟨rfl, mc, rfl⟩ := hcut
    have x0' : (w.drewN mc).cell? ⟨g, 0, none⟩ = some (.slice A l.length c) := x0
    have x1' : (w.drewN mc).cell? ⟨g, 1, none⟩ = some (.int .u64 N) := x1
    go_upto_region 5 with (fail)
    go_cut [3, 4] (fun v3 v4 wc => v3 = .int .u32 h1 ∧ v4 = .slice A l.length c ∧ ∃ m, wc = w.drewN m)
    case first =>
      go_wp2
      go_meet
      case rel => exact ⟨congrArg (Value.int .u32) (by rw [Hh.out]), rfl, _, rfl⟩
    case rest =>
    obtain ⟨rfl, rfl, mc2, rfl⟩ := hcut
    clear x0' x1'
    go_wp2
    go_loopg [3, 4] (l.length / 4) (fun kq v3 v4 wc => ∃ (j : Nat) (A' : Option Addr) (c' : Nat) (h : Int), kq + j = l.length / 4 ∧ v3 = .int .u32 h ∧ Aside0 (h = X.words32 j h1 l) ∧ v4 = .slice A' (l.length - 4 * j) c' ∧
      Aside0 (ReadsInt w .u8 A' (l.length - 4 * j) (l.drop (4 * j))) ∧ l.length - 4 * j ≤ c' ∧ ∃ m, wc = w.drewN m)
    case atStart => exact ⟨0, A, c, h1, by omega, rfl, ⟨rfl⟩, rfl, HR, by simpa using hlc, _, rfl⟩
    case round =>
      obtain ⟨j, A', c', h, hk, rfl, HE, rfl, HA, hnc, m, rfl⟩ := hrel
      obtain ⟨L, eL⟩ : ∃ L, L = l.drop (4 * j) := ⟨_, rfl⟩
      have eLl : l.length - 4 * j = L.length := by rw [eL]; simp
      rw [eLl] at HA hnc ⊢
      rw [← eL] at HA
      have HeL := Aside0.mk eL
      have HeLl := Aside0.mk eLl
      have Hk := Aside0.mk hk
      have HLb := Aside0.mk (show Bytes L by rw [eL]; exact HB.out.drop _)
      have hLs : L.length ≤ 140737488355327 := by omega
      have hW := words_range j h1 l Hw.out
      rw [← HE.out] at hW
      obtain ⟨hW0, hW1⟩ := hW
      clear eL eLl hk
      cases gk with
      | zero =>
        have hlt : (L.length : Int) < 4 := by have := HeLl.out; have := Hk.out; have := Nat.div_add_mod l.length 4; have := Nat.mod_lt l.length (show 0 < 4 by decide); omega
        have HF := Aside0.mk (show h = X.words32 (l.length / 4) h1 l ∧ L = X.rest 4 l by
          have := Hk.out
          obtain rfl : j = l.length / 4 := by omega
          exact ⟨HE.out, HeL.out⟩)
        clear HeL HeLl Hk HE
        go_wp2
        go_loopg [3, 72] L.length (fun kq v3 v72 wc => ∃ (i : Nat) (q : Int), kq + i = L.length ∧ v3 = .int .u32 q ∧ Aside0 (q = X.bytes32 h (L.take i)) ∧ v72 = .int .i64 i ∧ ∃ m', wc = w.drewN m')
        case atStart => exact ⟨0, h, by omega, rfl, ⟨by rw [List.take_zero]; rfl⟩, rfl, _, rfl⟩
        case round =>
          obtain ⟨i, q, hk, rfl, HQ, rfl, m', rfl⟩ := hrel
          have hQ := bytes_range (L.take i) h ⟨hW0, hW1⟩
          rw [← HQ.out] at hQ
          obtain ⟨hQ0, hQ1⟩ := hQ
          have Hk := Aside0.mk hk
          clear hk
          cases gk with
          | zero =>
            have hi : i = L.length := by have := Hk.out; omega
            subst hi
            go_wp2
            go_ret
            refine ⟨congrArg (fun z => Ending.returned (.int .u32 z)) ?_, _, rfl⟩
            obtain ⟨f1, f2⟩ := HF.out
            have f3 := HQ.out
            rw [List.take_length] at f3
            rw [X.tail32, ← f1, ← f2, ← f3]
            rfl
          | succ k1 =>
            have hi : i < L.length := by have := Hk.out; omega
            have hi' : (i : Int) < (L.length : Int) := by omega
            have hi0 : (0 : Int) ≤ (i : Int) := by omega
            obtain ⟨ad, rfl, hc⟩ := HA.out.2.2 (by omega)
            have hci : w.cell? (ad.add i) = some (.int .u8 (X.at' L i)) := hc i hi
            obtain ⟨b0, b1⟩ := HLb.out i
            clear hc
            go_wp2_with (first | (go_at_call 114; refine (rotl32_calls _ 11 _ (by decide) (by decide) (w32_mod _).1 (w32_mod _).2).mono ?_; rintro e w' ⟨rfl, rfl⟩))
            go_roundg k1
            case measure => omega
            case rel =>
              refine ⟨i + 1, _, by have := Hk.out; omega, rfl, ⟨?_⟩, by go_num, _, rfl⟩
              rw [bytes_snoc _ _ _ hi, ← HQ.out]
              rfl
      | succ k1 =>
        have hge : 4 ≤ L.length := by have := HeLl.out; have := Hk.out; have := Nat.div_mul_le_self l.length 4; omega
        have hge' : (4 : Int) ≤ (L.length : Int) := by omega
        obtain ⟨ad, rfl, _⟩ := HA.out.2.2 (by omega)
        obtain ⟨A1, hcut, hA1⟩ := print_cut (P := Try.prog) 22 5 .i64 Try.underlying22 hi05 hsz5 (some ad) L.length c' 4 hge
        have HA1 := Aside0.mk hA1
        have hcut' : ∀ W : World, (Instr.slice 22 (.slice (some ad) L.length c') (some (.int .i64 4)) none none).run Try.prog W = .ok (.slice A1 (L.length - 4) (c' - 4)) W := hcut
        clear hA1 hcut
        go_wp2_with (first | (go_at_call 115; refine (get32_calls ad L.length c' L _ ((rd_of_reads HA.out).drewN _) rfl hge HLb.out).mono ?_; rintro e w' ⟨rfl, m', rfl⟩) | (go_at_call 114; refine (rotl32_calls _ 17 _ (by decide) (by decide) (w32_mod _).1 (w32_mod _).2).mono ?_; rintro e w' ⟨rfl, rfl⟩))
        go_roundg k1
        case measure => omega
        case rel =>
          have e1 : l.length - 4 * (j + 1) = L.length - 4 := by have := HeLl.out; omega
          refine ⟨j + 1, A1, c' - 4, _, by have := Hk.out; omega, rfl, ⟨?_⟩, by rw [e1], ⟨?_⟩, by omega, _, rfl⟩
          · rw [words_snoc, ← HeL.out, ← HE.out]; rfl
          · rw [e1, show l.drop (4 * (j + 1)) = L.drop 4 by rw [HeL.out, List.drop_drop, Nat.mul_succ]]
            exact HA1.out _ _ _ hnc HA.out
end Go.Proofs.Ytnomebkdhjigjaa.XxhW
/- Contract of xxh.Sum32: the sum of 32 bits as a plain function of the seed and the bytes. Conditions: the seed is a word of 32 bits, bytes are bytes, fewer than 2^47 of them. -/
namespace Go.Proofs.Ytnomebkdhjigjaa.XxhW
open Go.RowKit Go.Proofs.YtnomebkdhjigjaaW.PrintWords Go.Proofs.YtnomebkdhjigjaaW.PrintLast Go.Proofs.YtnomebkdhjigjaaW.PrintMore
set_option linter.unusedVariables false
set_option linter.unusedSimpArgs false
theorem bytes_rest {l : List Int} (h : Bytes l) (u : Nat) : Bytes (X.rest u l) := h.drop _
theorem rest_le (u : Nat) (l : List Int) : (X.rest u l).length ≤ l.length := by unfold X.rest; simp

theorem sum_eq (s : Int) (l : List Int) : X.sum32 s l = X.tail32 ((head32 l.length s (X.run32 (l.length / 16) (X.init32 s) l) + (l.length : Int) % 4294967296) % 4294967296) (X.rest 16 l) := by
  unfold X.sum32 head32
  rfl
/-- The first bytes of a new digest. -/
theorem takes_first (A : Option Addr) (c : Nat) (l : List Int) (g : Nat) (s : Int) (w1 : World) (hr : ReadsInt w1 .u8 A l.length l) (hb : Bytes l) (hl : l.length ≤ 140737488355327) (hd : IsD w1 g (.slice none 0 0) 0 s (X.init32 s)) :
    Calls Try.prog 96 #[.pointer (some ⟨g, 0, none⟩), .slice A l.length c] w1 fun e w' => e = .returned (.tuple #[]) ∧ ∃ A' c', IsD w' g (.slice A' (X.rest 16 l).length c') (l.length : Int) s (X.run32 (l.length / 16) (X.init32 s) l) ∧
      Waits w' g A' (X.rest 16 l).length c' (X.rest 16 l) ∧ Fr w1 w' (fun i => i ≠ g) := by
  have h := takes_calls A c l [] g w1.heap.size 0 (.slice none 0 0) s (X.init32 s) w1 hr hb hd (own_nil _ _ _ _) (Nat.le_refl _) (by rw [List.length_nil, Nat.zero_add]; exact hl) (Nat.zero_le _)
  rw [List.nil_append, Nat.zero_add] at h
  refine h.mono fun e w' ⟨he, rv, hd2, ho2, hf2⟩ => ⟨he, ?_⟩
  obtain ⟨A2, c2, rfl, hw2⟩ := own_waits (g := g) ho2
  exact ⟨A2, c2, hd2, hw2, hf2.mono (fun i _ hi => ⟨hi, by simp [Value.ownBlock]⟩)⟩

set_option maxHeartbeats 1000000 in
set_option maxRecDepth 100000 in
theorem Sum32_calls (A : Option Addr) (c : Nat) (l : List Int) (s : Int) (w : World) (hr : ReadsInt w .u8 A l.length l) (hb : Bytes l) (hs : W32 s) (hl : l.length ≤ 140737488355327) :
    Calls Try.prog 63 #[.int .u32 s, .slice A l.length c] w fun e w' => e = .returned (.int .u32 (X.sum32 s l)) ∧ Below w.heap.size w w' := by
  have H1 := Aside0.mk (begun_calls s w hs.1 hs.2)
  have HR := Aside0.mk hr
  have HL := Aside0.mk hl
  have HS := Aside0.mk hs
  have HB0 := Aside0.mk hb
  clear hr hs hl hb
  go_enter Try.func63, Try.ntmps63
  go_wp2_with fail
  refine H1.out.mono ?_
  rintro e w1 ⟨rfl, hd1, hb1⟩
  have HB1 := Aside0.mk hb1
  have HT := Aside0.mk (takes_first A c l w.heap.size s w1 (HR.out.below hb1) HB0.out HL.out hd1)
  clear hd1 hb1
  go_wp2_with fail
  refine HT.out.mono ?_
  rintro e w2 ⟨rfl, A2, c2, hd2, hw2, hf2⟩
  have HF2 := Aside0.mk hf2
  have HQ := Aside0.mk (sum_calls A2 c2 w.heap.size l.length (X.rest 16 l) s (X.run32 (l.length / 16) (X.init32 s) l) w2 hd2 hw2.1 hw2.2 (bytes_rest HB0.out 16) (good_run _ _ _ (good_init s HS.out)) HS.out (Nat.le_trans HL.out (by decide)) (Nat.le_trans (rest_le _ _) HL.out))
  rw [← sum_eq s l] at HQ
  clear hd2 hf2 hw2
  go_wp2_with fail
  refine HQ.out.mono ?_
  rintro e w3 ⟨rfl, m, rfl⟩
  go_wp2
  go_ret
  exact ⟨rfl, pw_below_drewN (HB1.out.trans (HF2.out.below (B := w.heap.size) (fun i hi => ⟨Nat.lt_of_lt_of_le hi HB1.out.size, Nat.ne_of_lt hi⟩))) m⟩
end Go.Proofs.Ytnomebkdhjigjaa.XxhW
/- Contracts of the reference's rot32 and low32. Conditions: the count lies between 1 and 31, words are words, bytes are bytes. -/
namespace Go.Proofs.Ytnomebkdhjigjaa.XxhW
open Go.RowKit Go.Proofs.YtnomebkdhjigjaaW.PrintWords Go.Proofs.YtnomebkdhjigjaaW.PrintLast Go.Proofs.YtnomebkdhjigjaaW.PrintMore
set_option linter.unusedVariables false
set_option linter.unusedSimpArgs false
theorem rot32_range (x : Int) (k : Nat) (hk : k ≤ 32) (h : W32 x) : W32 (X.rot32 x k) := by
  obtain ⟨a, b, c, d, e, g⟩ := rot_parts 32 k x 4294967296 hk (by decide) h.1 h.2
  obtain ⟨q, hq⟩ : ∃ q, q = (x * 2 ^ k) % 4294967296 := ⟨_, rfl⟩
  obtain ⟨p, hp⟩ : ∃ p, p = (2 : Int) ^ k := ⟨_, rfl⟩
  have hm : ∃ t : Int, (4294967296 : Int) = t * p := ⟨2 ^ (32 - k), by rw [hp, ← Int.pow_add, Nat.sub_add_cancel hk]; decide⟩
  unfold X.rot32
  rw [← hq] at a b c ⊢
  rw [← hp] at a e
  refine ⟨by omega, ?_⟩
  obtain ⟨t, ht⟩ := hm
  have hdv : q = p * (q / p) := by
    have := Int.mul_ediv_add_emod q p
    rw [a] at this; omega
  have hpp : 0 < p := by rw [hp]; exact Int.pow_pos (by decide)
  have hlt : q / p < t := by
    rcases Int.lt_or_le (q / p) t with h | h
    · exact h
    · have := Int.mul_le_mul_of_nonneg_left h (Int.le_of_lt hpp)
      rw [Int.mul_comm p t, ← ht, ← hdv] at this
      omega
  have := Int.mul_le_mul_of_nonneg_left (show q / p ≤ t - 1 by omega) (Int.le_of_lt hpp)
  rw [← hdv, Int.mul_sub, Int.mul_comm p t, ← ht, Int.mul_one] at this
  omega

theorem rrot32_calls (x k : Int) (w : World) (h0 : 0 < k) (h1 : k < 32) (h2 : 0 ≤ x) (h3 : x < 4294967296) :
    Calls Try.prog 117 #[.int .u32 x, .int .i64 k] w fun e w' => e = .returned (.int .u32 (X.rot32 x k.toNat)) ∧ ∃ m, w' = w.drewN m := by
  have hk0 : 0 ≤ k := by omega
  have hk1 : 0 ≤ 32 - k := by omega
  have hk2 : k ≤ 32 := by omega
  have hk3 : 32 - k ≤ 32 := by omega
  have hs : IntKind.i64.wrap (32 - k) = 32 - k := IntWalk.i64_in _ ⟨by omega, by omega⟩
  have HT := Aside0.mk (show (32 - k).toNat = 32 - k.toNat by omega)
  have HE := Aside0.mk (rot32_range x k.toNat (by omega) ⟨h2, h3⟩)
  go_enter Try.func117, Try.ntmps117
  go_wp2
  go_quiet (fail)
  go_wp2
  go_ret
  refine ⟨congrArg (fun z => Ending.returned (.int .u32 z)) ?_, _, rfl⟩
  have h := HE.out
  have hT := HT.out
  unfold X.rot32 at h ⊢
  obtain ⟨h4, h5⟩ := h
  rw [← hT] at h4 h5 ⊢
  exact Int.emod_eq_of_lt h4 h5

theorem low32_calls (ad : Addr) (n c : Nat) (l : List Int) (w : World) (hr : Rd w ad l) (hn : n = l.length) (h4 : 4 ≤ l.length) (hb : Bytes l) :
    Calls Try.prog 118 #[.slice (some ad) n c] w fun e w' => e = .returned (.int .u32 (X.le32 l)) ∧ ∃ m, w' = w.drewN m := by
  subst hn
  have h0 := hr 0 (by omega)
  have h1 := hr 1 (by omega)
  have h2 := hr 2 (by omega)
  have h3 := hr 3 (by omega)
  rw [Addr.add_zero'] at h0
  rw [add_pos _ _ (by omega)] at h1 h2 h3
  obtain ⟨p0, q0⟩ := hb 0
  obtain ⟨p1, q1⟩ := hb 1
  obtain ⟨p2, q2⟩ := hb 2
  obtain ⟨p3, q3⟩ := hb 3
  have l0 : 0 < l.length := by omega
  have l1 : 1 < l.length := by omega
  have l2 : 2 < l.length := by omega
  have l3 : 3 < l.length := by omega
  have m0 : (0 : Int) < (l.length : Int) := by omega
  have m1 : (1 : Int) < (l.length : Int) := by omega
  have m2 : (2 : Int) < (l.length : Int) := by omega
  have m3 : (3 : Int) < (l.length : Int) := by omega
  clear hb hr
  go_enter Try.func118, Try.ntmps118
  go_wp2
  go_quiet (fail)
  go_wp2
  go_ret
  exact ⟨congrArg (fun z => Ending.returned (.int .u32 z)) (by unfold X.le32; first | rfl | omega), _, rfl⟩
end Go.Proofs.Ytnomebkdhjigjaa.XxhW
/- Contract of the reference's Sum32: the sum of 32 bits as a plain function of the seed and the bytes. Conditions: the seed is a word of 32 bits, bytes are bytes, fewer than 2^47 of them. -/
namespace Go.Proofs.Ytnomebkdhjigjaa.XxhW
open Go.RowKit Go.Proofs.YtnomebkdhjigjaaW.PrintWords Go.Proofs.YtnomebkdhjigjaaW.PrintLast Go.Proofs.YtnomebkdhjigjaaW.PrintMore
set_option linter.unusedVariables false
set_option linter.unusedSimpArgs false
theorem reads_drawn {w : World} {k : IntKind} {A : Option Addr} {n : Nat} {l : List Int} (h : ReadsInt w k A n l) (m : Nat) : ReadsInt (w.drewN m) k A n l := h
/-- Four words in an array at block g. -/
def IsV (w : World) (g : Nat) (v : X.V4) : Prop := w.heap[g]? = some (.cells #[.int .u32 v.a, .int .u32 v.b, .int .u32 v.c, .int .u32 v.d] 146 (0, 0))
theorem IsV.at {w : World} {g : Nat} {v : X.V4} (h : IsV w g v) (i : Nat) (u : Value) (hu : (#[.int .u32 v.a, .int .u32 v.b, .int .u32 v.c, .int .u32 v.d] : Array Value)[i]? = some u) :
    w.cell? ⟨g, i, none⟩ = some u ∧ w.frozen? ⟨g, i, none⟩ = false := ⟨(cell_of_row w g i _ 146 (0, 0) h).trans hu, blk_frozen h i⟩
theorem apart_V {w : World} {ad : Addr} {n g : Nat} {v : X.V4} {l : List Int} (hr : ReadsInt w .u8 (some ad) n l) (h0 : 0 < n) (hd : IsV w g v) : ad.block ≠ g :=
  apart_of_reads hr h0 hd (fun o k z h => by
    rcases o with _ | _ | _ | _ | o <;> simp at h
    all_goals (obtain ⟨rfl, _⟩ := h; decide))
theorem small_rest (l : List Int) (h : l.length < 16) : X.rest 16 l = l := by unfold X.rest; rw [Nat.div_eq_of_lt h]; rfl

set_option maxHeartbeats 16000000 in
set_option maxRecDepth 100000 in
theorem rSum32_calls (A : Option Addr) (c : Nat) (l : List Int) (s : Int) (w : World) (hr : ReadsInt w .u8 A l.length l) (hlc : l.length ≤ c) (hb : Bytes l) (hs : W32 s) (hl : l.length ≤ 140737488355327) :
    Calls Try.prog 102 #[.int .u32 s, .slice A l.length c] w fun e w' => e = .returned (.int .u32 (X.sum32 s l)) ∧ Below w.heap.size w w' := by
  have HR := Aside0.mk hr
  have HB := Aside0.mk hb
  have HS := Aside0.mk hs
  obtain ⟨hs0, hs1⟩ := hs
  clear hr hb
  have hl0 : (0 : Int) ≤ (l.length : Int) := by omega
  have hl1 : (l.length : Int) ≤ 140737488355327 := by omega
  obtain ⟨i05, hi05, _, hsz5, _⟩ := info_parts info5
  go_enter Try.func102, Try.ntmps102
  go_upto_if 14 with (fail)
  go_cut [5, 6] (fun v5 v6 wc => v5 = .int .u32 (head32 l.length s (X.run32 (l.length / 16) (X.init32 s) l)) ∧ ∃ (A' : Option Addr) (c' : Nat), v6 = .slice A' (X.rest 16 l).length c' ∧ Aside0 (ReadsInt wc .u8 A' (X.rest 16 l).length (X.rest 16 l)) ∧ (X.rest 16 l).length ≤ c' ∧ Aside0 (Below w.heap.size w wc))
  case first =>
    by_cases hbig : 16 ≤ l.length
    · have hbig' : (16 : Int) ≤ (l.length : Int) := by omega
      have HH := Aside0.mk (show head32 l.length s (X.run32 (l.length / 16) (X.init32 s) l) = X.merge32 (X.run32 (l.length / 16) (X.init32 s) l) from if_pos hbig)

      go_upto_region 4 with (fail)
      go_cut [6, 7] (fun v6 v7 wc => v6 = .slice A l.length c ∧ v7 = .pointer (some ⟨w.heap.size, 0, none⟩) ∧ Aside0 (IsV wc w.heap.size (X.init32 s)) ∧ Aside0 (Below w.heap.size w wc))
      case first =>
        go_wp2
        go_meet
        case rel =>
          refine ⟨rfl, rfl, ⟨?_⟩, ⟨below_alloc (Below.refl _ _) _⟩⟩
          have := heap_alloc_new w (.cells #[.int .u32 (X.init32 s).a, .int .u32 (X.init32 s).b, .int .u32 (X.init32 s).c, .int .u32 (X.init32 s).d] 146)
          simpa [IsV, X.init32] using this
      case rest =>
      obtain ⟨rfl, rfl, HV0, HB0⟩ := hcut
      go_wp2
      go_loopg [6] (l.length / 16) (fun kq v6 wd => ∃ (j : Nat) (A' : Option Addr) (c' : Nat) (v : X.V4), kq + j = l.length / 16 ∧ v6 = .slice A' (l.length - 16 * j) c' ∧ Aside0 (v = X.run32 j (X.init32 s) l) ∧ Aside0 (IsV wd w.heap.size v) ∧
        Aside0 (ReadsInt wd .u8 A' (l.length - 16 * j) (l.drop (16 * j))) ∧ l.length - 16 * j ≤ c' ∧ Aside0 (Below w.heap.size w wd))
      case atStart => exact ⟨0, A, c, _, by omega, rfl, ⟨rfl⟩, HV0, ⟨HR.out.below HB0.out⟩, by simpa using hlc, HB0⟩
      case round =>
        clear HV0 HB0
        obtain ⟨j, A', c', v, hk, rfl, HE, HD, HA, hnc, HBW⟩ := hrel
        obtain ⟨L, eL⟩ : ∃ L, L = l.drop (16 * j) := ⟨_, rfl⟩
        have eLl : l.length - 16 * j = L.length := by rw [eL]; simp
        rw [eLl] at HA hnc ⊢
        rw [← eL] at HA
        have HeL := Aside0.mk eL
        have HeLl := Aside0.mk eLl
        have Hk := Aside0.mk hk
        have HLb := Aside0.mk (show Bytes L by rw [eL]; exact HB.out.drop _)
        have hLs : L.length ≤ 140737488355327 := by omega
        have HvG := Aside0.mk (show Good v by rw [HE.out]; exact good_run _ _ _ (good_init s HS.out))
        clear eL eLl hk
        cases gk with
        | zero =>
          have hlt : (L.length : Int) < 16 := by have := HeLl.out; have := Hk.out; have := Nat.div_add_mod l.length 16; have := Nat.mod_lt l.length (show 0 < 16 by decide); omega
          have x0 := (IsV.at HD.out 0 (.int .u32 v.a) rfl).1
          have x1 := (IsV.at HD.out 1 (.int .u32 v.b) rfl).1
          have x2 := (IsV.at HD.out 2 (.int .u32 v.c) rfl).1
          have x3 := (IsV.at HD.out 3 (.int .u32 v.d) rfl).1
          go_wp2
          go_quiet (first | (go_at_call 117; exact Calls.quiet_of (rrot32_calls _ _ _ (by decide) (by decide) HvG.out.a.1 HvG.out.a.2)) | (go_at_call 117; exact Calls.quiet_of (rrot32_calls _ _ _ (by decide) (by decide) HvG.out.b.1 HvG.out.b.2)) | (go_at_call 117; exact Calls.quiet_of (rrot32_calls _ _ _ (by decide) (by decide) HvG.out.c.1 HvG.out.c.2)) | (go_at_call 117; exact Calls.quiet_of (rrot32_calls _ _ _ (by decide) (by decide) HvG.out.d.1 HvG.out.d.2)))
          go_wp2
          go_meet
          case rel =>
            have ej : j = l.length / 16 := by have := Hk.out; omega
            have er : X.rest 16 l = L := by rw [X.rest, ← ej]; exact HeL.out.symm
            rw [er]
            refine ⟨congrArg (Value.int .u32) ?_, A', c', rfl, ⟨reads_drawn HA.out _⟩, hnc, ⟨pw_below_drewN HBW.out _⟩⟩
            rw [HH.out, ← ej, ← HE.out]
            unfold X.merge32
            omega
        | succ k1 =>
          have hge : 16 ≤ L.length := by have := HeLl.out; have := Hk.out; have := Nat.div_mul_le_self l.length 16; omega
          have hge' : (16 : Int) ≤ (L.length : Int) := by omega
          obtain ⟨ad, rfl, _⟩ := HA.out.2.2 (by omega)
          have hag : ad.block ≠ w.heap.size := apart_V HA.out (by omega) HD.out
          have hc16 : (16 : Int) ≤ (c' : Int) := by omega
          have n4 : ¬ c' = 4 := by omega
          have n8 : ¬ c' = 8 := by omega
          have n12 : ¬ c' = 12 := by omega
          have z0 : IntKind.i64.wrap 0 = 0 := by decide
          have z4 : IntKind.i64.wrap 4 = 4 := by decide
          have z8 : IntKind.i64.wrap 8 = 8 := by decide
          have z12 : IntKind.i64.wrap 12 = 12 := by decide
          have m4 : (4 : Int) ≤ (L.length : Int) := by omega
          have m8 : (8 : Int) ≤ (L.length : Int) := by omega
          have m12 : (12 : Int) ≤ (L.length : Int) := by omega
          obtain ⟨A1, hcut, hA1⟩ := print_cut (P := Try.prog) 22 5 .i64 Try.underlying22 hi05 hsz5 (some ad) L.length c' 16 hge
          have HA1 := Aside0.mk hA1
          have hcut' : ∀ W : World, (Instr.slice 22 (.slice (some ad) L.length c') (some (.int .i64 16)) none none).run Try.prog W = .ok (.slice A1 (L.length - 16) (c' - 16)) W := hcut
          have HG := Aside0.mk (World.grownBy.refl wr (some w.heap.size))
          have hr0 : Rd wr ad L := rd_of_reads HA.out
          obtain ⟨x0, f0⟩ := IsV.at HD.out 0 _ rfl
          have HDr := HD
          clear hA1 hcut
          go_wp2
          refine wp_loop_rounds 5 ?_
          rw [rounds_succ]
          go_wp2
          refine QTail.wp_region_tail (C := fun w' => ∃ n, w' = wr.drewN n) 14 (by kernel_rfl) (by kernel_rfl) ⟨1, rfl⟩ ?_
          simp only [List.take_succ_cons, List.take_zero, List.drop_succ_cons, List.drop_zero]
          repeat (quiet_step (first | (go_at_call 118; exact Calls.quiet_of (low32_calls ad _ _ L _ (hr0.drewN _) rfl (by first | omega | (simp; omega)) (HLb.out))) | (go_at_call 117; exact Calls.quiet_of (rrot32_calls _ 13 _ (by omega) (by omega) (u32_range _).1 (u32_range _).2))))
          refine wpQuiet_nil ?_
          intro _ hw'
          obtain ⟨nq, hw''⟩ := hw'
          subst hw''
          go_wp2
          obtain ⟨w1, hw1⟩ : ∃ z, z = (wr.drewN nq).setCell ⟨w.heap.size, 0, none⟩ (.int .u32 (X.step32 v.a (X.le32 L))) := ⟨_, rfl⟩
          have P1 := put_world HD.out nq 0 (.int .u32 (X.step32 v.a (X.le32 L)))
          rw [← hw1] at P1
          unfold X.step32 at hw1
          rw [← hw1]
          clear hw1
          obtain ⟨D1, K1, G1⟩ := P1
          have HD1 := Aside0.mk (show IsV w1 w.heap.size ⟨X.step32 v.a (X.le32 L), v.b, v.c, v.d⟩ from D1)
          have HG1 := Aside0.mk (grown_then HG.out G1)
          have r1 := Aside0.mk (Rd.of_cells hr0 (fun p hp => K1 p (by rw [hp]; exact hag)))
          clear x0 f0 D1 K1 G1 HD HG
          have HD := HD1
          have HG := HG1
          have R1 := r1
          clear HD1 HG1 r1 hr0
          obtain ⟨x0, f0⟩ := IsV.at HD.out 1 _ rfl
          have hr1 : Rd w1 ⟨ad.block, ad.off + 4, none⟩ (L.drop 4) := by
            have := R1.out.drop 4
            rwa [add_pos _ _ (by omega)] at this
          rw [rounds_succ]
          go_wp2
          refine QTail.wp_region_tail (C := fun w' => ∃ n, w' = w1.drewN n) 14 (by kernel_rfl) (by kernel_rfl) ⟨1, rfl⟩ ?_
          simp only [List.take_succ_cons, List.take_zero, List.drop_succ_cons, List.drop_zero]
          repeat (quiet_step (first | (go_at_call 118; exact Calls.quiet_of (low32_calls ⟨ad.block, ad.off + 4, none⟩ _ _ (L.drop 4) _ (hr1.drewN _) (by simp) (by first | omega | (simp; omega)) (HLb.out.drop 4))) | (go_at_call 117; exact Calls.quiet_of (rrot32_calls _ 13 _ (by omega) (by omega) (u32_range _).1 (u32_range _).2))))
          refine wpQuiet_nil ?_
          intro _ hw'
          obtain ⟨nq, hw''⟩ := hw'
          subst hw''
          go_wp2
          obtain ⟨w2, hw2⟩ : ∃ z, z = (w1.drewN nq).setCell ⟨w.heap.size, 1, none⟩ (.int .u32 (X.step32 v.b (X.le32 (L.drop 4)))) := ⟨_, rfl⟩
          have P2 := put_world HD.out nq 1 (.int .u32 (X.step32 v.b (X.le32 (L.drop 4))))
          rw [← hw2] at P2
          unfold X.step32 at hw2
          rw [← hw2]
          clear hw2
          obtain ⟨D2, K2, G2⟩ := P2
          have HD2 := Aside0.mk (show IsV w2 w.heap.size ⟨X.step32 v.a (X.le32 L), X.step32 v.b (X.le32 (L.drop 4)), v.c, v.d⟩ from D2)
          have HG2 := Aside0.mk (grown_then HG.out G2)
          have r2 := Aside0.mk (Rd.of_cells R1.out (fun p hp => K2 p (by rw [hp]; exact hag)))
          clear x0 f0 D2 K2 G2 HD HG
          have HD := HD2
          have HG := HG2
          have R2 := r2
          clear HD2 HG2 r2 R1
          obtain ⟨x0, f0⟩ := IsV.at HD.out 2 _ rfl
          have hr2 : Rd w2 ⟨ad.block, ad.off + 8, none⟩ (L.drop 8) := by
            have := R2.out.drop 8
            rwa [add_pos _ _ (by omega)] at this
          rw [rounds_succ]
          go_wp2
          refine QTail.wp_region_tail (C := fun w' => ∃ n, w' = w2.drewN n) 14 (by kernel_rfl) (by kernel_rfl) ⟨1, rfl⟩ ?_
          simp only [List.take_succ_cons, List.take_zero, List.drop_succ_cons, List.drop_zero]
          repeat (quiet_step (first | (go_at_call 118; exact Calls.quiet_of (low32_calls ⟨ad.block, ad.off + 8, none⟩ _ _ (L.drop 8) _ (hr2.drewN _) (by simp) (by first | omega | (simp; omega)) (HLb.out.drop 8))) | (go_at_call 117; exact Calls.quiet_of (rrot32_calls _ 13 _ (by omega) (by omega) (u32_range _).1 (u32_range _).2))))
          refine wpQuiet_nil ?_
          intro _ hw'
          obtain ⟨nq, hw''⟩ := hw'
          subst hw''
          go_wp2
          obtain ⟨w3, hw3⟩ : ∃ z, z = (w2.drewN nq).setCell ⟨w.heap.size, 2, none⟩ (.int .u32 (X.step32 v.c (X.le32 (L.drop 8)))) := ⟨_, rfl⟩
          have P3 := put_world HD.out nq 2 (.int .u32 (X.step32 v.c (X.le32 (L.drop 8))))
          rw [← hw3] at P3
          unfold X.step32 at hw3
          rw [← hw3]
          clear hw3
          obtain ⟨D3, K3, G3⟩ := P3
          have HD3 := Aside0.mk (show IsV w3 w.heap.size ⟨X.step32 v.a (X.le32 L), X.step32 v.b (X.le32 (L.drop 4)), X.step32 v.c (X.le32 (L.drop 8)), v.d⟩ from D3)
          have HG3 := Aside0.mk (grown_then HG.out G3)
          have r3 := Aside0.mk (Rd.of_cells R2.out (fun p hp => K3 p (by rw [hp]; exact hag)))
          clear x0 f0 D3 K3 G3 HD HG
          have HD := HD3
          have HG := HG3
          have R3 := r3
          clear HD3 HG3 r3 R2
          obtain ⟨x0, f0⟩ := IsV.at HD.out 3 _ rfl
          have hr3 : Rd w3 ⟨ad.block, ad.off + 12, none⟩ (L.drop 12) := by
            have := R3.out.drop 12
            rwa [add_pos _ _ (by omega)] at this
          rw [rounds_succ]
          go_wp2
          refine QTail.wp_region_tail (C := fun w' => ∃ n, w' = w3.drewN n) 14 (by kernel_rfl) (by kernel_rfl) ⟨1, rfl⟩ ?_
          simp only [List.take_succ_cons, List.take_zero, List.drop_succ_cons, List.drop_zero]
          repeat (quiet_step (first | (go_at_call 118; exact Calls.quiet_of (low32_calls ⟨ad.block, ad.off + 12, none⟩ _ _ (L.drop 12) _ (hr3.drewN _) (by simp) (by first | omega | (simp; omega)) (HLb.out.drop 12))) | (go_at_call 117; exact Calls.quiet_of (rrot32_calls _ 13 _ (by omega) (by omega) (u32_range _).1 (u32_range _).2))))
          refine wpQuiet_nil ?_
          intro _ hw'
          obtain ⟨nq, hw''⟩ := hw'
          subst hw''
          go_wp2
          obtain ⟨w4, hw4⟩ : ∃ z, z = (w3.drewN nq).setCell ⟨w.heap.size, 3, none⟩ (.int .u32 (X.step32 v.d (X.le32 (L.drop 12)))) := ⟨_, rfl⟩
          have P4 := put_world HD.out nq 3 (.int .u32 (X.step32 v.d (X.le32 (L.drop 12))))
          rw [← hw4] at P4
          unfold X.step32 at hw4
          rw [← hw4]
          clear hw4
          obtain ⟨D4, K4, G4⟩ := P4
          have HD4 := Aside0.mk (show IsV w4 w.heap.size ⟨X.step32 v.a (X.le32 L), X.step32 v.b (X.le32 (L.drop 4)), X.step32 v.c (X.le32 (L.drop 8)), X.step32 v.d (X.le32 (L.drop 12))⟩ from D4)
          have HG4 := Aside0.mk (grown_then HG.out G4)
          have r4 := Aside0.mk (Rd.of_cells R3.out (fun p hp => K4 p (by rw [hp]; exact hag)))
          clear x0 f0 D4 K4 G4 HD HG
          have HD := HD4
          have HG := HG4
          have R4 := r4
          clear HD4 HG4 r4 R3
          rw [rounds_succ]
          go_wp2
          go_roundg k1
          case measure => omega
          case rel =>
            have e1 : l.length - 16 * (j + 1) = L.length - 16 := by have := HeLl.out; omega
            have F4 := Fr.of_grown HG.out
            refine ⟨j + 1, A1, c' - 16, _, by have := Hk.out; omega, by rw [e1], ⟨?_⟩, HD, ⟨?_⟩, by omega, ⟨?_⟩⟩
            · rw [run_snoc, ← HeL.out, ← HE.out]; rfl
            · rw [e1, show l.drop (16 * (j + 1)) = L.drop 16 by rw [HeL.out, List.drop_drop, Nat.mul_succ]]
              have q := HA1.out _ _ _ hnc HA.out
              exact reads_fr F4 q (fun ad' e h0 h => apart_V (e ▸ q) h0 HDr.out (by injection h))
            · exact HBW.out.grown HG.out HBW.out.size (fun k hk => by injection hk with hk; omega)
    · have hbig' : (l.length : Int) < 16 := by omega
      have HH := Aside0.mk (show head32 l.length s (X.run32 (l.length / 16) (X.init32 s) l) = (s + 374761393) % 4294967296 from if_neg hbig)
      have HZ := Aside0.mk (small_rest l (by omega))
      go_wp2
      go_meet
      case rel => exact ⟨by rw [HH.out], A, c, by rw [HZ.out], ⟨by rw [HZ.out]; exact HR.out⟩, by rw [HZ.out]; exact hlc, ⟨Below.refl _ _⟩⟩
  case rest =>
    obtain ⟨rfl, A2, c2, rfl, HR2, hc2, HB2⟩ := hcut
    obtain ⟨r, er⟩ : ∃ r, r = X.rest 16 l := ⟨_, rfl⟩
    rw [← er] at HR2 hc2 ⊢
    have Hr := Aside0.mk er
    have hrl : r.length ≤ 140737488355327 := by rw [er]; exact Nat.le_trans (rest_le _ _) hl
    have Hrb := Aside0.mk (show Bytes r by rw [er]; exact bytes_rest HB.out 16)
    clear er
    obtain ⟨h1, eh1⟩ : ∃ z, z = (head32 l.length s (X.run32 (l.length / 16) (X.init32 s) l) + (l.length : Int) % 4294967296) % 4294967296 := ⟨_, rfl⟩
    have Hh := Aside0.mk eh1
    have Hw := Aside0.mk (show W32 h1 by rw [eh1]; exact w32_mod _)
    clear eh1
    go_upto_region 12 with (fail)
    go_cut [5] (fun v5 wd => v5 = .int .u32 h1 ∧ wd = wc)
    case first =>
      go_wp2
      go_meet
      case rel => exact ⟨congrArg (Value.int .u32) (by rw [Hh.out]), rfl⟩
    case rest =>
    obtain ⟨rfl, rfl⟩ := hcut
    go_wp2
    go_loopg [5, 6] (r.length / 4) (fun kq v5 v6 we => ∃ (j : Nat) (A' : Option Addr) (c' : Nat) (h : Int), kq + j = r.length / 4 ∧ v5 = .int .u32 h ∧ Aside0 (h = X.words32 j h1 r) ∧ v6 = .slice A' (r.length - 4 * j) c' ∧
      Aside0 (ReadsInt wc .u8 A' (r.length - 4 * j) (r.drop (4 * j))) ∧ r.length - 4 * j ≤ c' ∧ ∃ m, we = wc.drewN m)
    case atStart => exact ⟨0, A2, c2, h1, by omega, rfl, ⟨rfl⟩, rfl, HR2, by simpa using hc2, 0, rfl⟩
    case round =>
      obtain ⟨j, A', c', h, hk, rfl, HE, rfl, HA, hnc, m, rfl⟩ := hrel
      obtain ⟨L, eL⟩ : ∃ L, L = r.drop (4 * j) := ⟨_, rfl⟩
      have eLl : r.length - 4 * j = L.length := by rw [eL]; simp
      rw [eLl] at HA hnc ⊢
      rw [← eL] at HA
      have HeL := Aside0.mk eL
      have HeLl := Aside0.mk eLl
      have Hk := Aside0.mk hk
      have HLb := Aside0.mk (show Bytes L by rw [eL]; exact Hrb.out.drop _)
      have hLs : L.length ≤ 140737488355327 := by omega
      have hW := words_range j h1 r Hw.out
      rw [← HE.out] at hW
      obtain ⟨hW0, hW1⟩ := hW
      clear eL eLl hk
      cases gk with
      | zero =>
        have hlt : (L.length : Int) < 4 := by have := HeLl.out; have := Hk.out; have := Nat.div_add_mod r.length 4; have := Nat.mod_lt r.length (show 0 < 4 by decide); omega
        have HF := Aside0.mk (show h = X.words32 (r.length / 4) h1 r ∧ L = X.rest 4 r by
          have := Hk.out
          obtain rfl : j = r.length / 4 := by omega
          exact ⟨HE.out, HeL.out⟩)
        clear HeL HeLl Hk HE
        go_wp2
        go_loopg [5, 6] L.length (fun kq v5 v6 we => ∃ (i : Nat) (A' : Option Addr) (c' : Nat) (q : Int), kq + i = L.length ∧ v5 = .int .u32 q ∧ Aside0 (q = X.bytes32 h (L.take i)) ∧ v6 = .slice A' (L.length - i) c' ∧ Aside0 (ReadsInt wc .u8 A' (L.length - i) (L.drop i)) ∧ L.length - i ≤ c' ∧ ∃ m', we = wc.drewN m')
        case atStart => exact ⟨0, A', c', h, by omega, rfl, ⟨by rw [List.take_zero]; rfl⟩, rfl, HA, by simpa using hnc, _, rfl⟩
        case round =>
          clear HA hnc
          obtain ⟨i, A', c', q, hk, rfl, HQ, rfl, HA, hnc, m', rfl⟩ := hrel
          have hQ := bytes_range (L.take i) h ⟨hW0, hW1⟩
          rw [← HQ.out] at hQ
          obtain ⟨hQ0, hQ1⟩ := hQ
          have Hk := Aside0.mk hk
          clear hk
          cases gk with
          | zero =>
            have hi : i = L.length := by have := Hk.out; omega
            subst hi
            rw [Nat.sub_self]
            go_wp2
            go_ret
            refine ⟨congrArg (fun z => Ending.returned (.int .u32 z)) ?_, pw_below_drewN HB2.out _⟩
            obtain ⟨f1, f2⟩ := HF.out
            have f3 := HQ.out
            rw [List.take_length] at f3
            rw [sum_eq, ← Hh.out, ← Hr.out, X.tail32, ← f1, ← f2, ← f3]
            rfl
          | succ k1 =>
            have hi : i < L.length := by have := Hk.out; omega
            obtain ⟨T, eT⟩ : ∃ T, T = L.drop i := ⟨_, rfl⟩
            have eTl : L.length - i = T.length := by rw [eT]; simp
            rw [eTl] at HA hnc ⊢
            rw [← eT] at HA
            have ht : 0 < T.length := by omega
            have HeT := Aside0.mk eT
            have HeTl := Aside0.mk eTl
            have hts : T.length ≤ 140737488355327 := by omega
            clear eT eTl
            obtain ⟨A1, hcut, hA1⟩ := print_cut (P := Try.prog) 22 5 .i64 Try.underlying22 hi05 hsz5 A' T.length c' 1 ht
            have HA1 := Aside0.mk hA1
            have hcut' : ∀ W : World, (Instr.slice 22 (.slice A' T.length c') (some (.int .i64 1)) none none).run Try.prog W = .ok (.slice A1 (T.length - 1) (c' - 1)) W := hcut
            obtain ⟨ad, rfl, hc⟩ := HA.out.2.2 ht
            have hci : wc.cell? ad = some (.int .u8 (X.at' T 0)) := by have := hc 0 ht; rwa [Addr.add_zero'] at this
            have hTb : X.at' T 0 = X.at' L i := by rw [HeT.out, at_drop]; rfl
            have hb0 : 0 ≤ X.at' T 0 ∧ X.at' T 0 < 256 := by rw [hTb]; exact HLb.out i
            obtain ⟨b0, b1⟩ := hb0
            have HTb := Aside0.mk hTb
            have ht' : (0 : Int) < (T.length : Int) := by omega
            clear hc hA1 hcut hTb
            go_wp2_with (first | (go_at_call 117; refine (rrot32_calls _ 11 _ (by decide) (by decide) (w32_mod _).1 (w32_mod _).2).mono ?_; rintro e w' ⟨rfl, mm, rfl⟩))
            go_roundg k1
            case measure => omega
            case rel =>
              have e1 : L.length - (i + 1) = T.length - 1 := by have := HeTl.out; omega
              refine ⟨i + 1, A1, c' - 1, _, by have := Hk.out; omega, rfl, ⟨?_⟩, by rw [e1], ⟨?_⟩, by omega, _, rfl⟩
              · rw [bytes_snoc _ _ _ hi, ← HQ.out, ← HTb.out]; rfl
              · rw [e1, show L.drop (i + 1) = T.drop 1 by rw [HeT.out, List.drop_drop]]
                exact HA1.out _ _ _ hnc HA.out
      | succ k1 =>
        have hge : 4 ≤ L.length := by have := HeLl.out; have := Hk.out; have := Nat.div_mul_le_self r.length 4; omega
        have hge' : (4 : Int) ≤ (L.length : Int) := by omega
        obtain ⟨ad, rfl, _⟩ := HA.out.2.2 (by omega)
        obtain ⟨A1, hcut, hA1⟩ := print_cut (P := Try.prog) 22 5 .i64 Try.underlying22 hi05 hsz5 (some ad) L.length c' 4 hge
        have HA1 := Aside0.mk hA1
        have hcut' : ∀ W : World, (Instr.slice 22 (.slice (some ad) L.length c') (some (.int .i64 4)) none none).run Try.prog W = .ok (.slice A1 (L.length - 4) (c' - 4)) W := hcut
        clear hA1 hcut
        go_wp2_with (first | (go_at_call 118; refine (low32_calls ad L.length c' L _ ((rd_of_reads HA.out).drewN _) rfl hge HLb.out).mono ?_; rintro e w' ⟨rfl, m', rfl⟩) | (go_at_call 117; refine (rrot32_calls _ 17 _ (by decide) (by decide) (w32_mod _).1 (w32_mod _).2).mono ?_; rintro e w' ⟨rfl, mm, rfl⟩))
        go_roundg k1
        case measure => omega
        case rel =>
          have e1 : r.length - 4 * (j + 1) = L.length - 4 := by have := HeLl.out; omega
          refine ⟨j + 1, A1, c' - 4, _, by have := Hk.out; omega, rfl, ⟨?_⟩, by rw [e1], ⟨?_⟩, by omega, _, rfl⟩
          · rw [words_snoc, ← HeL.out, ← HE.out]; rfl
          · rw [e1, show r.drop (4 * (j + 1)) = L.drop 4 by rw [HeL.out, List.drop_drop, Nat.mul_succ]]
            exact HA1.out _ _ _ hnc HA.out
end Go.Proofs.Ytnomebkdhjigjaa.XxhW
/- Texts of mine made one: MLzDecodesx0, MLzDecodesx1, MLzDecodesx2. -/
namespace Go.Proofs.Ytnomebkdhjigjaa.MLzDecodes
open Go.RowKit Go.Proofs.YtnomebkdhjigjaaW.PrintWords Go.Proofs.YtnomebkdhjigjaaW.PrintLast Go.Proofs.YtnomebkdhjigjaaW.PrintMore
attribute [local go_sem] max2_int min2_int max_two min_two max_three min_three max_four min_four   -- for this text's walks alone
set_option linter.unusedVariables false
set_option linter.unusedSimpArgs false

def errW : Option Int → Value
  | none => .nilIface
  | some c => .iface 0 (.int .i64 c)
theorem errW_none : errW none = .nilIface := rfl
theorem errW_some (c : Int) : errW (some c) = .iface 0 (.int .i64 c) := rfl

theorem info5 : (Try.prog.info? 5).map (fun i => (i.zero, i.size, i.bytes)) = some (some (.int .u8 0), 1, 1) := by kernel_rfl
end Go.Proofs.Ytnomebkdhjigjaa.MLzDecodes
/- Texts of mine made one: Lh, Li, Lt, Lr, Za, Zs, Zb. -/
/- Contract of lent (lz's laws): a copy with marked room behind it, and all of that. Condition: fewer than 2^47 - 4096 bytes. -/
namespace Go.Proofs.Ytnomebkdhjigjaa.Z
open Go.RowKit Go.Proofs.YtnomebkdhjigjaaW.PrintWords Go.Proofs.YtnomebkdhjigjaaW.PrintLast Go.Proofs.YtnomebkdhjigjaaW.PrintMore
open Go.Proofs.Ytnomebkdhjigjaa.MLzDecodes
attribute [local go_sem] max2_int min2_int max_two min_two max_three min_three max_four min_four   -- for this text's walks alone
set_option linter.unusedVariables false
set_option linter.unusedSimpArgs false
/-! #### struct type 44 -/
structure S44 where
  f0 : (List Int)
  f1 : Int
  f2 : Int
def z44 : S44 := ⟨([] : List Int), (0 : Int), (0 : Int)⟩
end Go.Proofs.Ytnomebkdhjigjaa.Z
/- seqs of lz's laws at one and the same list, walked by hand: it answers yes. -/
namespace Go.Proofs.Ytnomebkdhjigjaa.Z
open Go.RowKit Go.Proofs.Ytnomebkdhjigjaa.MLzDecodes Go.Proofs.YtnomebkdhjigjaaW.PrintWords Go.Proofs.YtnomebkdhjigjaaW.PrintLast Go.Proofs.YtnomebkdhjigjaaW.PrintMore
set_option linter.unusedVariables false
set_option linter.unusedSimpArgs false
instance decS44 : DecidableEq S44 := fun a b => decidable_of_iff (a.f0 = b.f0 ∧ a.f1 = b.f1 ∧ a.f2 = b.f2) (by
  cases a
  cases b
  simp)
end Go.Proofs.Ytnomebkdhjigjaa.Z
/- Contracts of functions (most of it printed by a program of the kit's): satchellaw03_copies. -/
/- Contracts of functions (most of it printed by a program of the kit's): lz_number, lz_put, lz_made, lz_Make. -/
namespace Go.Proofs.Ytnomebkdhjigjaa.Z
open Go.RowKit Go.Proofs.YtnomebkdhjigjaaW.PrintWords Go.Proofs.YtnomebkdhjigjaaW.PrintLast Go.Proofs.YtnomebkdhjigjaaW.PrintMore
open Go.Proofs.Ytnomebkdhjigjaa.MLzDecodes
attribute [local go_sem] max2_int min2_int max_two min_two max_three min_three max_four min_four   -- for this text's walks alone
set_option linter.unusedVariables false
set_option linter.unusedSimpArgs false
/-! ### lz_number: function 93 -/
def lz_number.l0 : Nat → List Int → Int → Option (List Int)
  | 0, _, _ => none
  | k + 1, x0, x1 => if x1 ≥ 255 then (if x0.length < 140737488355328 then (lz_number.l0 k (x0 ++ [255]) (wrap64 (x1 - 255))) else (none)) else (if x0.length < 140737488355328 then (some (x0 ++ [(x1) % 256])) else (none))
def lz_number.f (k : Nat) (l0 : List Int) (a1 : Int) : Option (List Int) := if a1 < 15 then (some l0) else (lz_number.l0 k l0 (wrap64 (a1 - 15)))
set_option maxHeartbeats 8000000 in
set_option maxRecDepth 100000 in
theorem lz_number.calls (k : Nat) (P0_ : Nat → Prop) (u9000_ : Value) (l0 : List Int) (a1 : Int) (r : List Int) (w0 w : World) (hB : Below w0.heap.size w0 w) (ho0 : Kd.R (Kd.int .u8) 5 w w0.heap.size P0_ u9000_ l0) (h : lz_number.f k l0 a1 = some r) :
    Calls Try.prog 93 #[u9000_, .int .i64 a1] w fun e w' => ∃ v0_ : Value, e = .returned (v0_) ∧ Kd.R (Kd.int .u8) 5 w' w0.heap.size (fun k_ => (P0_ k_ ∨ w.heap.size ≤ k_)) v0_ r ∧ Below w0.heap.size w0 w' ∧ Kept w w' (fun k_ => P0_ k_) := by
  have HO0 := Aside0.mk (show Kd.R (Kd.int .u8) 5 w w0.heap.size (fun k_ => (P0_ k_ ∨ w.heap.size ≤ k_)) u9000_ l0 from Kd.R_mono ho0 (fun k_ hk => (.inl hk)))
  have HK := Aside0.mk (Kept.refl w (fun k_ => P0_ k_))
  have HW0 := Aside0.mk hB.size
  have HB := Aside0.mk hB
  clear hB
  have H : (if a1 < 15 then (some l0) else (lz_number.l0 k l0 (wrap64 (a1 - 15)))) = some r := h
  clear h
  by_cases c3 : a1 < 15
  · rw [if_pos c3] at H
    have c3b0 : decide (a1 < 15) = true := decide_eq_true c3
    clear c3
    obtain rfl := Option.some.inj H
    go_enter Try.func93, Try.ntmps93
    go_wp2
    go_ret
    exact ⟨_, by first | rfl | (simp [errW_none, errW_some] <;> rfl) | (simp [*, errW_none, errW_some] <;> rfl), by (with_reducible repeat (first | apply Kd.R_alloc | apply Kd.R_drewN | apply Kd.R_drew)); exact HO0.out, by repeat (first | (with_reducible first | exact HB.out | apply below_alloc | apply pw_below_drewN | apply below_drew1) | exact HB.out), by repeat (first | (with_reducible first | exact HK.out | apply Kept.alloc | apply Kept.drewN | apply Kept.drew) | exact HK.out)⟩
  · rw [if_neg c3] at H
    have c3b0 : decide (a1 < 15) = false := decide_eq_false c3
    clear c3
    have H' := Aside0.mk H
    clear H
    go_enter Try.func93, Try.ntmps93
    go_wp2
    go_loopg [0, 1] k (fun kq v0 v1 w' => ∃ (x0_1 : List Int) (x1_1 : Int), v1 = .int .i64 x1_1 ∧ Aside0 (lz_number.l0 kq x0_1 x1_1 = some r) ∧ Aside0 (kq ≤ k) ∧ Aside0 (Kd.R (Kd.int .u8) 5 w' w0.heap.size (fun k_ => (P0_ k_ ∨ w.heap.size ≤ k_)) v0 x0_1) ∧ Aside0 (Kept w w' (fun k_ => P0_ k_)) ∧ Aside0 (Below w0.heap.size w0 w'))
    case atStart => exact ⟨(l0), (wrap64 (a1 - 15)), (by first | rfl | (simp; done) | (simp [*]; done)), H', ⟨Nat.le_refl _⟩, ⟨by (with_reducible repeat (first | apply Kd.R_alloc | apply Kd.R_drewN | apply Kd.R_drew)); exact HO0.out⟩, ⟨by repeat (first | (with_reducible first | exact HK.out | apply Kept.alloc | apply Kept.drewN | apply Kept.drew) | exact HK.out)⟩, ⟨by repeat (first | (with_reducible first | exact HB.out | apply below_alloc | apply pw_below_drewN | apply below_drew1) | exact HB.out)⟩⟩
    case round =>
      clear H'
      try clear p2
      try clear c3
      try clear c3b0
      obtain ⟨x0_1, x1_1, rfl, HA, HK1, HO_0, HK, HB⟩ := hrel
      cases gk with
      | zero => exact absurd HA.out (by simp [lz_number.l0])
      | succ k1 =>
        have H := HA.out
        clear HA
        simp only [lz_number.l0] at H
        by_cases c4 : x1_1 ≥ 255
        · rw [if_pos c4] at H
          have c4b0 : decide (255 ≤ x1_1) = true := decide_eq_true c4
          clear c4
          by_cases c5 : x0_1.length < 140737488355328
          · rw [if_pos c5] at H
            have LMc5 := Aside0.mk c5
            clear c5
            obtain ⟨y145, hy145⟩ : ∃ y_ : List Int, y_ = (x0_1 ++ [255]) := ⟨_, rfl⟩
            replace H : (lz_number.l0 k1 y145 (wrap64 (x1_1 - 255))) = some r := by first | (rw [hy145]; with_reducible exact H) | (have H2_ := (Option.bind_some _ _).symm.trans H; rw [hy145]; with_reducible exact H2_) | (have H2_ := (Option.bind_some _ _).symm.trans H; with_reducible exact H2_) | with_reducible exact H | (rw [hy145]; exact H) | exact H
            have Ny145 := Aside0.mk hy145
            clear hy145
            have H' := Aside0.mk H
            clear H
            go_wp2_with (first | ((with_reducible refine gate_builtin (b := .append) (xs := #[.tmp 14, .tmp 15]) rfl ?_); at_builtin; refine Kd.R_append (Kd.int .u8) (w0 := w0) w0.heap.size rfl (.tmp 14) (.tmp 15) 22 5 (.int .u8 0) 1 rfl Try.underlying22 info5 rfl (by decide) (by omega) u0 x0_1 255 [.int .u8 255] (fun k_ => (P0_ k_ ∨ w.heap.size ≤ k_)) (fun _ => False) rfl rfl ?aP (fun _ hk => hk.elim) ?aF ?aO ?aB ?aS ?aL ?_; (case aP => exact rfl); (case aB => exact (by repeat (first | (with_reducible first | exact HB.out | apply below_alloc | apply pw_below_drewN | apply below_drew1) | exact HB.out))); (case aF => exact (fun k_ hk => (.inr (Nat.le_trans (by first | exact HK.out.1 | exact (show Kept w _ (fun k_ => P0_ k_) from by repeat (first | (with_reducible first | exact HK.out | apply Kept.alloc | apply Kept.drewN | apply Kept.drew) | exact HK.out)).1) hk)))); (case aO => exact (by (with_reducible repeat (first | apply Kd.R_alloc | apply Kd.R_drewN | apply Kd.R_drew)); exact HO_0.out)); (case aS => exact (below_size (by repeat (first | (with_reducible first | exact HB.out | apply below_alloc | apply pw_below_drewN | apply below_drew1) | exact HB.out)))); (case aL => have := LMc5.out; omega); intro v146 w6 ho hb hg hat; rw [← Ny145.out] at ho; have n0_ := Aside0.mk (hb); have n1_ := Aside0.mk (Kept.of_grown (S := (fun k_ => P0_ k_)) hg (by repeat (first | (with_reducible first | exact HK.out | apply Kept.alloc | apply Kept.drewN | apply Kept.drew) | exact HK.out)) (fun k_ e_ => (HO_0.out.1 k_ e_))); have n2_ := Aside0.mk (ho); clear HB; clear HK; clear HO_0; have HB := n0_; have HK := n1_; have HO147 := n2_; clear n0_ n1_ n2_; clear ho hb hg hat))
            go_roundg k1
            case measure => have := HK1.out; omega
            case rel => exact ⟨(y145), (wrap64 (x1_1 - 255)), (by first | rfl | (simp; done) | (simp [*]; done)), H', ⟨by have := HK1.out; omega⟩, ⟨by (with_reducible repeat (first | apply Kd.R_alloc | apply Kd.R_drewN | apply Kd.R_drew)); exact HO147.out⟩, ⟨by repeat (first | (with_reducible first | exact HK.out | apply Kept.alloc | apply Kept.drewN | apply Kept.drew) | exact HK.out)⟩, ⟨by repeat (first | (with_reducible first | exact HB.out | apply below_alloc | apply pw_below_drewN | apply below_drew1) | exact HB.out)⟩⟩
          · rw [if_neg c5] at H
            exact absurd H (by simp)
        · rw [if_neg c4] at H
          have c4b0 : decide (255 ≤ x1_1) = false := decide_eq_false c4
          clear c4
          by_cases c7 : x0_1.length < 140737488355328
          · rw [if_pos c7] at H
            have LMc7 := Aside0.mk c7
            clear c7
            obtain ⟨y148, hy148⟩ : ∃ y_ : List Int, y_ = (x0_1 ++ [(x1_1) % 256]) := ⟨_, rfl⟩
            replace H : (some y148) = some r := by first | (rw [hy148]; with_reducible exact H) | (have H2_ := (Option.bind_some _ _).symm.trans H; rw [hy148]; with_reducible exact H2_) | (have H2_ := (Option.bind_some _ _).symm.trans H; with_reducible exact H2_) | with_reducible exact H | (rw [hy148]; exact H) | exact H
            have Ny148 := Aside0.mk hy148
            clear hy148
            obtain rfl := Option.some.inj H
            go_wp2_with (first | ((with_reducible refine gate_builtin (b := .append) (xs := #[.tmp 17, .tmp 20]) rfl ?_); at_builtin; refine Kd.R_append (Kd.int .u8) (w0 := w0) w0.heap.size rfl (.tmp 17) (.tmp 20) 22 5 (.int .u8 0) 1 rfl Try.underlying22 info5 rfl (by decide) (by omega) u0 x0_1 ((x1_1) % 256) [.int .u8 ((x1_1) % 256)] (fun k_ => (P0_ k_ ∨ w.heap.size ≤ k_)) (fun _ => False) rfl rfl ?aP (fun _ hk => hk.elim) ?aF ?aO ?aB ?aS ?aL ?_; (case aP => exact rfl); (case aB => exact (by repeat (first | (with_reducible first | exact HB.out | apply below_alloc | apply pw_below_drewN | apply below_drew1) | exact HB.out))); (case aF => exact (fun k_ hk => (.inr (Nat.le_trans (by first | exact HK.out.1 | exact (show Kept w _ (fun k_ => P0_ k_) from by repeat (first | (with_reducible first | exact HK.out | apply Kept.alloc | apply Kept.drewN | apply Kept.drew) | exact HK.out)).1) hk)))); (case aO => exact (by (with_reducible repeat (first | apply Kd.R_alloc | apply Kd.R_drewN | apply Kd.R_drew)); exact HO_0.out)); (case aS => exact (below_size (by repeat (first | (with_reducible first | exact HB.out | apply below_alloc | apply pw_below_drewN | apply below_drew1) | exact HB.out)))); (case aL => have := LMc7.out; omega); intro v149 w8 ho hb hg hat; rw [← Ny148.out] at ho; have n0_ := Aside0.mk (hb); have n1_ := Aside0.mk (Kept.of_grown (S := (fun k_ => P0_ k_)) hg (by repeat (first | (with_reducible first | exact HK.out | apply Kept.alloc | apply Kept.drewN | apply Kept.drew) | exact HK.out)) (fun k_ e_ => (HO_0.out.1 k_ e_))); have n2_ := Aside0.mk (ho); clear HB; clear HK; clear HO_0; have HB := n0_; have HK := n1_; have HO150 := n2_; clear n0_ n1_ n2_; clear ho hb hg hat))
            go_ret
            exact ⟨_, by first | rfl | (simp [errW_none, errW_some] <;> rfl) | (simp [*, errW_none, errW_some] <;> rfl), by (with_reducible repeat (first | apply Kd.R_alloc | apply Kd.R_drewN | apply Kd.R_drew)); exact HO150.out, by repeat (first | (with_reducible first | exact HB.out | apply below_alloc | apply pw_below_drewN | apply below_drew1) | exact HB.out), by repeat (first | (with_reducible first | exact HK.out | apply Kept.alloc | apply Kept.drewN | apply Kept.drew) | exact HK.out)⟩
          · rw [if_neg c7] at H
            exact absurd H (by simp)

/-! ### lz_put: function 59 -/
def lz_put.f (k : Nat) (l0 : List Int) (l1_0 : List Int) (a1_1 : Int) (a1_2 : Int) : Option (List Int) := if l0.length < 140737488355328 then ((lz_number.f k (l0 ++ [(Go.bits .or .i64 ((mn (l1_0.length : Int) 15) * 16) (mn (mx 0 (wrap64 (a1_2 - 4))) 15)) % 256]) (l1_0.length : Int)).bind fun t155 => (if t155.length + l1_0.length < 140737488355328 then ((some (t155 ++ l1_0 : List Int)).bind fun y158 => (if a1_1 = 0 then (some y158) else ((some (([(a1_1) % 256, (a1_1 / 256) % 256] : List Int) : List Int)).bind fun y161 => (if y158.length + y161.length < 140737488355328 then ((lz_number.f k (y158 ++ y161) (mx 0 (wrap64 (a1_2 - 4)))).bind fun t167 => (some t167)) else (none))))) else (none))) else (none)
set_option maxHeartbeats 8000000 in
set_option maxRecDepth 100000 in
theorem lz_put.calls (k : Nat) (P0_ : Nat → Prop) (u9000_ : Value) (l0 : List Int) (A1_0 : Option Addr) (c1_0 : Nat) (l1_0 : List Int) (a1_1 : Int) (a1_2 : Int) (r : List Int) (w0 w : World) (hB : Below w0.heap.size w0 w) (ho0 : Kd.R (Kd.int .u8) 5 w w0.heap.size P0_ u9000_ l0) (hr1_0 : ∀ W_, Kept w W_ (fun k_ => P0_ k_) → Kd.C (Kd.int .u8) W_ A1_0 l1_0.length l1_0) (hc1_0 : l1_0.length ≤ c1_0) (h : lz_put.f k l0 l1_0 a1_1 a1_2 = some r) :
    Calls Try.prog 59 #[u9000_, .agg #[.slice A1_0 l1_0.length c1_0, .int .i64 a1_1, .int .i64 a1_2]] w fun e w' => ∃ v0_ : Value, e = .returned (v0_) ∧ Kd.R (Kd.int .u8) 5 w' w0.heap.size (fun k_ => (P0_ k_ ∨ w.heap.size ≤ k_)) v0_ r ∧ Below w0.heap.size w0 w' ∧ Kept w w' (fun k_ => P0_ k_) := by
  have hu44 := Try.underlying44
  have HO0 := Aside0.mk (show Kd.R (Kd.int .u8) 5 w w0.heap.size (fun k_ => (P0_ k_ ∨ w.heap.size ≤ k_)) u9000_ l0 from Kd.R_mono ho0 (fun k_ hk => (.inl hk)))
  have HR1_0 := Aside0.mk hr1_0
  have HC1_0 := Aside0.mk hc1_0
  clear hr1_0 hc1_0
  have HK := Aside0.mk (Kept.refl w (fun k_ => P0_ k_))
  have HW0 := Aside0.mk hB.size
  have HB := Aside0.mk hB
  clear hB
  have H : (if l0.length < 140737488355328 then ((lz_number.f k (l0 ++ [(Go.bits .or .i64 ((mn (l1_0.length : Int) 15) * 16) (mn (mx 0 (wrap64 (a1_2 - 4))) 15)) % 256]) (l1_0.length : Int)).bind fun t155 => (if t155.length + l1_0.length < 140737488355328 then ((some (t155 ++ l1_0 : List Int)).bind fun y158 => (if a1_1 = 0 then (some y158) else ((some (([(a1_1) % 256, (a1_1 / 256) % 256] : List Int) : List Int)).bind fun y161 => (if y158.length + y161.length < 140737488355328 then ((lz_number.f k (y158 ++ y161) (mx 0 (wrap64 (a1_2 - 4)))).bind fun t167 => (some t167)) else (none))))) else (none))) else (none)) = some r := h
  clear h
  obtain ⟨ji3, hji3⟩ : ∃ j_ : Int, (mx 0 (wrap64 (a1_2 - 4))) = j_ := ⟨_, rfl⟩
  replace H : (if l0.length < 140737488355328 then ((lz_number.f k (l0 ++ [(Go.bits .or .i64 ((mn (l1_0.length : Int) 15) * 16) (mn (ji3) 15)) % 256]) (l1_0.length : Int)).bind fun t155 => (if t155.length + l1_0.length < 140737488355328 then ((some (t155 ++ l1_0 : List Int)).bind fun y158 => (if a1_1 = 0 then (some y158) else ((some (([(a1_1) % 256, (a1_1 / 256) % 256] : List Int) : List Int)).bind fun y161 => (if y158.length + y161.length < 140737488355328 then ((lz_number.f k (y158 ++ y161) (ji3)).bind fun t167 => (some t167)) else (none))))) else (none))) else (none)) = some r := by first | (rw [hji3] at H; exact H) | (simp only [hji3] at H ⊢; exact H)
  (try (have hji3l : 0 ≤ ji3 := by (rw [← hji3]; unfold mx; (repeat' split) <;> omega)))
  (try (have hji3m : 0 ≤ ji3 := by omega))
  have hji3_ : (if 0 < (wrap64 (a1_2 - 4)) then (wrap64 (a1_2 - 4)) else 0) = ji3 := hji3
  obtain ⟨ji4, hji4⟩ : ∃ j_ : Int, (mn (l1_0.length : Int) 15) = j_ := ⟨_, rfl⟩
  replace H : (if l0.length < 140737488355328 then ((lz_number.f k (l0 ++ [(Go.bits .or .i64 ((ji4) * 16) (mn (ji3) 15)) % 256]) (l1_0.length : Int)).bind fun t155 => (if t155.length + l1_0.length < 140737488355328 then ((some (t155 ++ l1_0 : List Int)).bind fun y158 => (if a1_1 = 0 then (some y158) else ((some (([(a1_1) % 256, (a1_1 / 256) % 256] : List Int) : List Int)).bind fun y161 => (if y158.length + y161.length < 140737488355328 then ((lz_number.f k (y158 ++ y161) (ji3)).bind fun t167 => (some t167)) else (none))))) else (none))) else (none)) = some r := by first | (rw [hji4] at H; exact H) | (simp only [hji4] at H ⊢; exact H)
  (try (have hji4h : ji4 ≤ 15 := by (rw [← hji4]; unfold mn; (repeat' split) <;> omega)))
  (try (have hji4g : ji4 ≤ 64 := by omega))
  (try (have hji4l : 0 ≤ ji4 := by (rw [← hji4]; unfold mn; (repeat' split) <;> omega)))
  (try (have hji4m : 0 ≤ ji4 := by omega))
  have hji4_ : (if 15 < (l1_0.length : Int) then 15 else (l1_0.length : Int)) = ji4 := hji4
  obtain ⟨ji5, hji5⟩ : ∃ j_ : Int, (mn (ji3) 15) = j_ := ⟨_, rfl⟩
  replace H : (if l0.length < 140737488355328 then ((lz_number.f k (l0 ++ [(Go.bits .or .i64 ((ji4) * 16) (ji5)) % 256]) (l1_0.length : Int)).bind fun t155 => (if t155.length + l1_0.length < 140737488355328 then ((some (t155 ++ l1_0 : List Int)).bind fun y158 => (if a1_1 = 0 then (some y158) else ((some (([(a1_1) % 256, (a1_1 / 256) % 256] : List Int) : List Int)).bind fun y161 => (if y158.length + y161.length < 140737488355328 then ((lz_number.f k (y158 ++ y161) (ji3)).bind fun t167 => (some t167)) else (none))))) else (none))) else (none)) = some r := by first | (rw [hji5] at H; exact H) | (simp only [hji5] at H ⊢; exact H)
  have hji5_ : (if 15 < (ji3) then 15 else (ji3)) = ji5 := hji5
  by_cases c6 : l0.length < 140737488355328
  · rw [if_pos c6] at H
    have LMc6 := Aside0.mk c6
    clear c6
    obtain ⟨y152, hy152⟩ : ∃ y_ : List Int, y_ = (l0 ++ [(Go.bits .or .i64 ((ji4) * 16) (ji5)) % 256]) := ⟨_, rfl⟩
    replace H : ((lz_number.f k y152 (l1_0.length : Int)).bind fun t155 => (if t155.length + l1_0.length < 140737488355328 then ((some (t155 ++ l1_0 : List Int)).bind fun y158 => (if a1_1 = 0 then (some y158) else ((some (([(a1_1) % 256, (a1_1 / 256) % 256] : List Int) : List Int)).bind fun y161 => (if y158.length + y161.length < 140737488355328 then ((lz_number.f k (y158 ++ y161) (ji3)).bind fun t167 => (some t167)) else (none))))) else (none))) = some r := by first | (rw [hy152]; with_reducible exact H) | (have H2_ := (Option.bind_some _ _).symm.trans H; rw [hy152]; with_reducible exact H2_) | (have H2_ := (Option.bind_some _ _).symm.trans H; with_reducible exact H2_) | with_reducible exact H | (rw [hy152]; exact H) | exact H
    have Ny152 := Aside0.mk hy152
    clear hy152
    replace H := Option.bind_eq_some_iff.mp H
    obtain ⟨t155, A70, H⟩ := H
    replace H : (if t155.length + l1_0.length < 140737488355328 then ((some (t155 ++ l1_0 : List Int)).bind fun y158 => (if a1_1 = 0 then (some y158) else ((some (([(a1_1) % 256, (a1_1 / 256) % 256] : List Int) : List Int)).bind fun y161 => (if y158.length + y161.length < 140737488355328 then ((lz_number.f k (y158 ++ y161) (ji3)).bind fun t167 => (some t167)) else (none))))) else (none)) = some r := H
    have A7 := Aside0.mk A70
    clear A70
    by_cases c8 : t155.length + l1_0.length < 140737488355328
    · rw [if_pos c8] at H
      have LMc8 := Aside0.mk c8
      clear c8
      obtain ⟨y158, hy158⟩ : ∃ y_ : List Int, y_ = (t155 ++ l1_0) := ⟨_, rfl⟩
      replace H : (if a1_1 = 0 then (some y158) else ((some (([(a1_1) % 256, (a1_1 / 256) % 256] : List Int) : List Int)).bind fun y161 => (if y158.length + y161.length < 140737488355328 then ((lz_number.f k (y158 ++ y161) (ji3)).bind fun t167 => (some t167)) else (none)))) = some r := by first | (rw [hy158]; with_reducible exact H) | (have H2_ := (Option.bind_some _ _).symm.trans H; rw [hy158]; with_reducible exact H2_) | (have H2_ := (Option.bind_some _ _).symm.trans H; with_reducible exact H2_) | with_reducible exact H | (rw [hy158]; exact H) | exact H
      have Ny158 := Aside0.mk hy158
      clear hy158
      by_cases c9 : a1_1 = 0
      · rw [if_pos c9] at H
        have c9b0 : (a1_1 == 0) = true := beq_iff_eq.mpr c9
        have c9b1 : (a1_1 != 0) = false := bne_eq_false_iff_eq.mpr c9
        clear c9
        obtain rfl := Option.some.inj H
        go_enter Try.func59, Try.ntmps59
        go_wp2_with (first | ((with_reducible refine gate_dst (N := 3) rfl ?_); refine box_event ?hg (N := 3) ?hd (cs := #[.slice A1_0 l1_0.length c1_0, .int .i64 a1_1, .int .i64 a1_2]) (t := 44) ?hr ?_; (case hd => rfl); (case hg => rfl); (case hr => first | (go_simp; done) | (go_simp; rfl)); intro gb151 hg w10 hbox hb; have n0_ := Aside0.mk (Kd.R_below (by (with_reducible repeat (first | apply Kd.R_alloc | apply Kd.R_drewN | apply Kd.R_drew)); exact HO0.out) hb); have n1_ := Aside0.mk (Kept.below (S := (fun k_ => P0_ k_)) (by repeat (first | (with_reducible first | exact HK.out | apply Kept.alloc | apply Kept.drewN | apply Kept.drew) | exact HK.out)) hb); have n2_ := Aside0.mk (below_step (by repeat (first | (with_reducible first | exact HB.out | apply below_alloc | apply pw_below_drewN | apply below_drew1) | exact HB.out)) hb); have n3_ := Aside0.mk (hbox); have n4_ := Aside0.mk ((by rw [hg]; exact (by first | exact HK.out.1 | exact (show Kept w _ (fun k_ => P0_ k_) from by repeat (first | (with_reducible first | exact HK.out | apply Kept.alloc | apply Kept.drewN | apply Kept.drew) | exact HK.out)).1) : w.heap.size ≤ gb151)); have n5_ := Aside0.mk ((by rw [hg]; exact (below_size (by repeat (first | (with_reducible first | exact HB.out | apply below_alloc | apply pw_below_drewN | apply below_drew1) | exact HB.out))) : w0.heap.size ≤ gb151)); clear HO0; clear HK; clear HB; have HO0 := n0_; have HK := n1_; have HB := n2_; have BK151 := n3_; have GW151 := n4_; have GE151 := n5_; clear n0_ n1_ n2_ n3_ n4_ n5_; clear hb hbox hg; have hcz11_0 : w10.cell? ⟨gb151, 0, none⟩ = some (.slice A1_0 l1_0.length c1_0) := (blk_cell BK151.out 0).trans rfl; have hcz11_1 : w10.cell? ⟨gb151, 1, none⟩ = some (.int .i64 a1_1) := (blk_cell BK151.out 1).trans rfl; have hcz11_2 : w10.cell? ⟨gb151, 2, none⟩ = some (.int .i64 a1_2) := (blk_cell BK151.out 2).trans rfl; have hfz11_0 := blk_frozen BK151.out 0; have hfz11_1 := blk_frozen BK151.out 1; have hfz11_2 := blk_frozen BK151.out 2) | ((with_reducible refine gate_builtin (b := .append) (xs := #[.tmp 10, .tmp 20]) rfl ?_); at_builtin; refine Kd.R_append (Kd.int .u8) (w0 := w0) w0.heap.size rfl (.tmp 10) (.tmp 20) 22 5 (.int .u8 0) 1 rfl Try.underlying22 info5 rfl (by decide) (by omega) u9000_ l0 ((Go.bits .or .i64 ((ji4) * 16) (ji5)) % 256) [.int .u8 ((Go.bits .or .i64 ((ji4) * 16) (ji5)) % 256)] (fun k_ => (P0_ k_ ∨ w.heap.size ≤ k_)) (fun _ => False) rfl rfl ?aP (fun _ hk => hk.elim) ?aF ?aO ?aB ?aS ?aL ?_; (case aP => exact rfl); (case aB => exact (by repeat (first | (with_reducible first | exact HB.out | apply below_alloc | apply pw_below_drewN | apply below_drew1 | refine below_set ?_ GE151.out) | exact HB.out))); (case aF => exact (fun k_ hk => (.inr (Nat.le_trans (by first | exact HK.out.1 | exact (show Kept w _ (fun k_ => P0_ k_) from by repeat (first | (with_reducible first | exact HK.out | apply Kept.alloc | apply Kept.drewN | apply Kept.drew | refine Kept.setCell ?_ (.inr GW151.out) _) | exact HK.out)).1) hk)))); (case aO => exact (by (with_reducible repeat (first | apply Kd.R_alloc | apply Kd.R_drewN | apply Kd.R_drew)); exact HO0.out)); (case aS => exact (below_size (by repeat (first | (with_reducible first | exact HB.out | apply below_alloc | apply pw_below_drewN | apply below_drew1 | refine below_set ?_ GE151.out) | exact HB.out)))); (case aL => have := LMc6.out; omega); intro v153 w12 ho hb hg hat; rw [← Ny152.out] at ho; have n0_ := Aside0.mk (blk_grown (g := gb151) (o := .cells #[.slice A1_0 l1_0.length c1_0, .int .i64 a1_1, .int .i64 a1_2] 44 (0, 0)) (by (with_reducible repeat (first | refine blk_drewN ?_ _ | refine blk_drew ?_ | refine blk_alloc ?_ _)); exact BK151.out) hg (Kd.R_ne HO0.out BK151.out (by decide))); have n1_ := Aside0.mk (hb); have n2_ := Aside0.mk (Kept.of_grown (S := (fun k_ => P0_ k_)) hg (by repeat (first | (with_reducible first | exact HK.out | apply Kept.alloc | apply Kept.drewN | apply Kept.drew | refine Kept.setCell ?_ (.inr GW151.out) _) | exact HK.out)) (fun k_ e_ => (HO0.out.1 k_ e_))); have n3_ := Aside0.mk (ho); clear BK151; clear HB; clear HK; clear HO0; have BK151 := n0_; have HB := n1_; have HK := n2_; have HO154 := n3_; clear n0_ n1_ n2_ n3_; clear ho hb hg hat; have hcz13_0 : w12.cell? ⟨gb151, 0, none⟩ = some (.slice A1_0 l1_0.length c1_0) := (blk_cell BK151.out 0).trans rfl; have hcz13_1 : w12.cell? ⟨gb151, 1, none⟩ = some (.int .i64 a1_1) := (blk_cell BK151.out 1).trans rfl; have hcz13_2 : w12.cell? ⟨gb151, 2, none⟩ = some (.int .i64 a1_2) := (blk_cell BK151.out 2).trans rfl; have hfz13_0 := blk_frozen BK151.out 0; have hfz13_1 := blk_frozen BK151.out 1; have hfz13_2 := blk_frozen BK151.out 2; obtain ⟨Ao14, co14, eo14⟩ := Kd.R_slice HO154.out; subst eo14) | ((with_reducible refine gate_callee (f := 93) rfl ?_); refine goesL_ (some 26) rfl rfl Try.func93 (by kernel_rfl) rfl #[.slice Ao14 y152.length co14, .int .i64 (l1_0.length : Int)] rfl (by (try simp only [List.map_toArray, List.map_cons, List.map_nil]); first | done | rfl | (simp only [List.length_drop, List.length_take]; rfl)) ?_; (with_reducible refine (lz_number.calls k (fun k_ => some k_ = (.slice Ao14 y152.length co14 : Value).ownBlock) (.slice Ao14 y152.length co14) y152 (l1_0.length : Int) t155 w0 _ ?side1 ?side2 A7.out).mono ?_); (case side1 => repeat (first | (with_reducible first | exact HB.out | apply below_alloc | apply pw_below_drewN | apply below_drew1 | refine below_set ?_ GE151.out) | exact HB.out)); (case side2 => exact Kd.R_tight rfl HO154.out); rintro e w15 ⟨v156, rfl, ho0, hb, hkp⟩; refine ⟨_, rfl, ?_⟩; have n0_ := Aside0.mk (blk_kept (by (with_reducible repeat (first | refine blk_drewN ?_ _ | refine blk_drew ?_ | refine blk_alloc ?_ _)); exact BK151.out) hkp (fun hs_ => (fun e_ => (Kd.R_ne HO154.out BK151.out (by decide)) e_) hs_)); have n1_ := Aside0.mk (Kd.R_mono (ok' := fun k_ => (P0_ k_ ∨ w.heap.size ≤ k_)) ho0 (fun k_ hk_ => Or.elim hk_ (fun hs_ => (HO154.out.1 k_ (hs_).symm)) (fun hn_ => (.inr (Nat.le_trans (by first | exact HK.out.1 | exact (show Kept w _ (fun k_ => P0_ k_) from by repeat (first | (with_reducible first | exact HK.out | apply Kept.alloc | apply Kept.drewN | apply Kept.drew | refine Kept.setCell ?_ (.inr GW151.out) _) | exact HK.out)).1) hn_))))); have n2_ := Aside0.mk (Kept.then_ (S := (fun k_ => P0_ k_)) (by repeat (first | (with_reducible first | exact HK.out | apply Kept.alloc | apply Kept.drewN | apply Kept.drew | refine Kept.setCell ?_ (.inr GW151.out) _) | exact HK.out)) hkp (fun k_ hs_ => (fun e_ => (HO154.out.1 k_ e_.symm)) hs_)); have n3_ := Aside0.mk (hb); clear BK151; clear HK; clear HB; clear HO154; have BK151 := n0_; have HO157 := n1_; have HK := n2_; have HB := n3_; clear n0_ n1_ n2_ n3_; (try clear hb); (try clear hkp); (try clear ho0); have hcz16_0 : w15.cell? ⟨gb151, 0, none⟩ = some (.slice A1_0 l1_0.length c1_0) := (blk_cell BK151.out 0).trans rfl; have hcz16_1 : w15.cell? ⟨gb151, 1, none⟩ = some (.int .i64 a1_1) := (blk_cell BK151.out 1).trans rfl; have hcz16_2 : w15.cell? ⟨gb151, 2, none⟩ = some (.int .i64 a1_2) := (blk_cell BK151.out 2).trans rfl; have hfz16_0 := blk_frozen BK151.out 0; have hfz16_1 := blk_frozen BK151.out 1; have hfz16_2 := blk_frozen BK151.out 2) | ((with_reducible refine gate_builtin (b := .append) (xs := #[.tmp 27, .tmp 29]) rfl ?_); at_builtin; refine Kd.R_append_rows (Kd.int .u8) (w0 := w0) w0.heap.size rfl (.tmp 27) (.tmp 29) 22 5 (.int .u8 0) 1 rfl Try.underlying22 info5 rfl (by decide) (by omega) v156 t155 l1_0 _ _ _ (fun k_ => (P0_ k_ ∨ w.heap.size ≤ k_)) (fun _ => False) rfl rfl ?aO ?aR (fun _ _ h => h) (fun _ h => h.elim) ?aF ?aB ?aS ?aL ?_; (case aR => exact Kd.C_kept_now HR1_0.out (by repeat (first | (with_reducible first | exact HK.out | apply Kept.alloc | apply Kept.drewN | apply Kept.drew | refine Kept.setCell ?_ (.inr GW151.out) _) | exact HK.out))); (case aB => exact (by repeat (first | (with_reducible first | exact HB.out | apply below_alloc | apply pw_below_drewN | apply below_drew1 | refine below_set ?_ GE151.out) | exact HB.out))); (case aF => exact (fun k_ hk => (.inr (Nat.le_trans (by first | exact HK.out.1 | exact (show Kept w _ (fun k_ => P0_ k_) from by repeat (first | (with_reducible first | exact HK.out | apply Kept.alloc | apply Kept.drewN | apply Kept.drew | refine Kept.setCell ?_ (.inr GW151.out) _) | exact HK.out)).1) hk)))); (case aO => exact (by (with_reducible repeat (first | apply Kd.R_alloc | apply Kd.R_drewN | apply Kd.R_drew)); exact HO157.out)); (case aS => exact (below_size (by repeat (first | (with_reducible first | exact HB.out | apply below_alloc | apply pw_below_drewN | apply below_drew1 | refine below_set ?_ GE151.out) | exact HB.out)))); (case aL => have := LMc8.out; omega); intro v159 w17 ho hb hg hat; rw [← Ny158.out] at ho; have n0_ := Aside0.mk (blk_grown (g := gb151) (o := .cells #[.slice A1_0 l1_0.length c1_0, .int .i64 a1_1, .int .i64 a1_2] 44 (0, 0)) (by (with_reducible repeat (first | refine blk_drewN ?_ _ | refine blk_drew ?_ | refine blk_alloc ?_ _)); exact BK151.out) hg (Kd.R_ne HO157.out BK151.out (by decide))); have n1_ := Aside0.mk (hb); have n2_ := Aside0.mk (Kept.of_grown (S := (fun k_ => P0_ k_)) hg (by repeat (first | (with_reducible first | exact HK.out | apply Kept.alloc | apply Kept.drewN | apply Kept.drew | refine Kept.setCell ?_ (.inr GW151.out) _) | exact HK.out)) (fun k_ e_ => (HO157.out.1 k_ e_))); have n3_ := Aside0.mk (ho); clear BK151; clear HB; clear HK; clear HO157; have BK151 := n0_; have HB := n1_; have HK := n2_; have HO160 := n3_; clear n0_ n1_ n2_ n3_; clear ho hb hg hat; have hcz18_0 : w17.cell? ⟨gb151, 0, none⟩ = some (.slice A1_0 l1_0.length c1_0) := (blk_cell BK151.out 0).trans rfl; have hcz18_1 : w17.cell? ⟨gb151, 1, none⟩ = some (.int .i64 a1_1) := (blk_cell BK151.out 1).trans rfl; have hcz18_2 : w17.cell? ⟨gb151, 2, none⟩ = some (.int .i64 a1_2) := (blk_cell BK151.out 2).trans rfl; have hfz18_0 := blk_frozen BK151.out 0; have hfz18_1 := blk_frozen BK151.out 1; have hfz18_2 := blk_frozen BK151.out 2))
        go_ret
        exact ⟨_, by first | rfl | (simp [errW_none, errW_some] <;> rfl) | (simp only [← hji3, ← hji4, ← hji5]; first | rfl | (simp [errW_none, errW_some] <;> rfl)) | (simp [*, errW_none, errW_some] <;> rfl), by (with_reducible repeat (first | apply Kd.R_alloc | apply Kd.R_drewN | apply Kd.R_drew)); exact HO160.out, by repeat (first | (with_reducible first | exact HB.out | apply below_alloc | apply pw_below_drewN | apply below_drew1 | refine below_set ?_ GE151.out) | exact HB.out), by repeat (first | (with_reducible first | exact HK.out | apply Kept.alloc | apply Kept.drewN | apply Kept.drew | refine Kept.setCell ?_ (.inr GW151.out) _) | exact HK.out)⟩
      · rw [if_neg c9] at H
        have c9b0 : (a1_1 == 0) = false := beq_eq_false_iff_ne.mpr c9
        have c9b1 : (a1_1 != 0) = true := bne_iff_ne.mpr c9
        obtain ⟨y161, hy161⟩ : ∃ y_ : List Int, y_ = (([(a1_1) % 256, (a1_1 / 256) % 256] : List Int)) := ⟨_, rfl⟩
        replace H : (if y158.length + y161.length < 140737488355328 then ((lz_number.f k (y158 ++ y161) (ji3)).bind fun t167 => (some t167)) else (none)) = some r := by first | (rw [hy161]; with_reducible exact H) | (have H2_ := (Option.bind_some _ _).symm.trans H; rw [hy161]; with_reducible exact H2_) | (have H2_ := (Option.bind_some _ _).symm.trans H; with_reducible exact H2_) | with_reducible exact H | (rw [hy161]; exact H) | exact H
        have Ny161 := Aside0.mk hy161
        clear hy161
        by_cases c19 : y158.length + y161.length < 140737488355328
        · rw [if_pos c19] at H
          have LMc19 := Aside0.mk c19
          clear c19
          obtain ⟨y164, hy164⟩ : ∃ y_ : List Int, y_ = (y158 ++ y161) := ⟨_, rfl⟩
          replace H : ((lz_number.f k y164 (ji3)).bind fun t167 => (some t167)) = some r := by first | (rw [hy164]; with_reducible exact H) | (have H2_ := (Option.bind_some _ _).symm.trans H; rw [hy164]; with_reducible exact H2_) | (have H2_ := (Option.bind_some _ _).symm.trans H; with_reducible exact H2_) | with_reducible exact H | (rw [hy164]; exact H) | exact H
          have Ny164 := Aside0.mk hy164
          clear hy164
          replace H := Option.bind_eq_some_iff.mp H
          obtain ⟨t167, A200, H⟩ := H
          replace H : (some t167) = some r := H
          have A20 := Aside0.mk A200
          clear A200
          obtain rfl := Option.some.inj H
          go_enter Try.func59, Try.ntmps59
          go_wp2_with (first | ((with_reducible refine gate_dst (N := 3) rfl ?_); refine box_event ?hg (N := 3) ?hd (cs := #[.slice A1_0 l1_0.length c1_0, .int .i64 a1_1, .int .i64 a1_2]) (t := 44) ?hr ?_; (case hd => rfl); (case hg => rfl); (case hr => first | (go_simp; done) | (go_simp; rfl)); intro gb151 hg w21 hbox hb; have n0_ := Aside0.mk (Kd.R_below (by (with_reducible repeat (first | apply Kd.R_alloc | apply Kd.R_drewN | apply Kd.R_drew)); exact HO0.out) hb); have n1_ := Aside0.mk (Kept.below (S := (fun k_ => P0_ k_)) (by repeat (first | (with_reducible first | exact HK.out | apply Kept.alloc | apply Kept.drewN | apply Kept.drew) | exact HK.out)) hb); have n2_ := Aside0.mk (below_step (by repeat (first | (with_reducible first | exact HB.out | apply below_alloc | apply pw_below_drewN | apply below_drew1) | exact HB.out)) hb); have n3_ := Aside0.mk (hbox); have n4_ := Aside0.mk ((by rw [hg]; exact (by first | exact HK.out.1 | exact (show Kept w _ (fun k_ => P0_ k_) from by repeat (first | (with_reducible first | exact HK.out | apply Kept.alloc | apply Kept.drewN | apply Kept.drew) | exact HK.out)).1) : w.heap.size ≤ gb151)); have n5_ := Aside0.mk ((by rw [hg]; exact (below_size (by repeat (first | (with_reducible first | exact HB.out | apply below_alloc | apply pw_below_drewN | apply below_drew1) | exact HB.out))) : w0.heap.size ≤ gb151)); clear HO0; clear HK; clear HB; have HO0 := n0_; have HK := n1_; have HB := n2_; have BK151 := n3_; have GW151 := n4_; have GE151 := n5_; clear n0_ n1_ n2_ n3_ n4_ n5_; clear hb hbox hg; have hcz22_0 : w21.cell? ⟨gb151, 0, none⟩ = some (.slice A1_0 l1_0.length c1_0) := (blk_cell BK151.out 0).trans rfl; have hcz22_1 : w21.cell? ⟨gb151, 1, none⟩ = some (.int .i64 a1_1) := (blk_cell BK151.out 1).trans rfl; have hcz22_2 : w21.cell? ⟨gb151, 2, none⟩ = some (.int .i64 a1_2) := (blk_cell BK151.out 2).trans rfl; have hfz22_0 := blk_frozen BK151.out 0; have hfz22_1 := blk_frozen BK151.out 1; have hfz22_2 := blk_frozen BK151.out 2) | ((with_reducible refine gate_builtin (b := .append) (xs := #[.tmp 10, .tmp 20]) rfl ?_); at_builtin; refine Kd.R_append (Kd.int .u8) (w0 := w0) w0.heap.size rfl (.tmp 10) (.tmp 20) 22 5 (.int .u8 0) 1 rfl Try.underlying22 info5 rfl (by decide) (by omega) u9000_ l0 ((Go.bits .or .i64 ((ji4) * 16) (ji5)) % 256) [.int .u8 ((Go.bits .or .i64 ((ji4) * 16) (ji5)) % 256)] (fun k_ => (P0_ k_ ∨ w.heap.size ≤ k_)) (fun _ => False) rfl rfl ?aP (fun _ hk => hk.elim) ?aF ?aO ?aB ?aS ?aL ?_; (case aP => exact rfl); (case aB => exact (by repeat (first | (with_reducible first | exact HB.out | apply below_alloc | apply pw_below_drewN | apply below_drew1 | refine below_set ?_ GE151.out) | exact HB.out))); (case aF => exact (fun k_ hk => (.inr (Nat.le_trans (by first | exact HK.out.1 | exact (show Kept w _ (fun k_ => P0_ k_) from by repeat (first | (with_reducible first | exact HK.out | apply Kept.alloc | apply Kept.drewN | apply Kept.drew | refine Kept.setCell ?_ (.inr GW151.out) _) | exact HK.out)).1) hk)))); (case aO => exact (by (with_reducible repeat (first | apply Kd.R_alloc | apply Kd.R_drewN | apply Kd.R_drew)); exact HO0.out)); (case aS => exact (below_size (by repeat (first | (with_reducible first | exact HB.out | apply below_alloc | apply pw_below_drewN | apply below_drew1 | refine below_set ?_ GE151.out) | exact HB.out)))); (case aL => have := LMc6.out; omega); intro v153 w23 ho hb hg hat; rw [← Ny152.out] at ho; have n0_ := Aside0.mk (blk_grown (g := gb151) (o := .cells #[.slice A1_0 l1_0.length c1_0, .int .i64 a1_1, .int .i64 a1_2] 44 (0, 0)) (by (with_reducible repeat (first | refine blk_drewN ?_ _ | refine blk_drew ?_ | refine blk_alloc ?_ _)); exact BK151.out) hg (Kd.R_ne HO0.out BK151.out (by decide))); have n1_ := Aside0.mk (hb); have n2_ := Aside0.mk (Kept.of_grown (S := (fun k_ => P0_ k_)) hg (by repeat (first | (with_reducible first | exact HK.out | apply Kept.alloc | apply Kept.drewN | apply Kept.drew | refine Kept.setCell ?_ (.inr GW151.out) _) | exact HK.out)) (fun k_ e_ => (HO0.out.1 k_ e_))); have n3_ := Aside0.mk (ho); clear BK151; clear HB; clear HK; clear HO0; have BK151 := n0_; have HB := n1_; have HK := n2_; have HO154 := n3_; clear n0_ n1_ n2_ n3_; clear ho hb hg hat; have hcz24_0 : w23.cell? ⟨gb151, 0, none⟩ = some (.slice A1_0 l1_0.length c1_0) := (blk_cell BK151.out 0).trans rfl; have hcz24_1 : w23.cell? ⟨gb151, 1, none⟩ = some (.int .i64 a1_1) := (blk_cell BK151.out 1).trans rfl; have hcz24_2 : w23.cell? ⟨gb151, 2, none⟩ = some (.int .i64 a1_2) := (blk_cell BK151.out 2).trans rfl; have hfz24_0 := blk_frozen BK151.out 0; have hfz24_1 := blk_frozen BK151.out 1; have hfz24_2 := blk_frozen BK151.out 2; obtain ⟨Ao25, co25, eo25⟩ := Kd.R_slice HO154.out; subst eo25) | ((with_reducible refine gate_callee (f := 93) rfl ?_); refine goesL_ (some 26) rfl rfl Try.func93 (by kernel_rfl) rfl #[.slice Ao25 y152.length co25, .int .i64 (l1_0.length : Int)] rfl (by (try simp only [List.map_toArray, List.map_cons, List.map_nil]); first | done | rfl | (simp only [List.length_drop, List.length_take]; rfl)) ?_; (with_reducible refine (lz_number.calls k (fun k_ => some k_ = (.slice Ao25 y152.length co25 : Value).ownBlock) (.slice Ao25 y152.length co25) y152 (l1_0.length : Int) t155 w0 _ ?side1 ?side2 A7.out).mono ?_); (case side1 => repeat (first | (with_reducible first | exact HB.out | apply below_alloc | apply pw_below_drewN | apply below_drew1 | refine below_set ?_ GE151.out) | exact HB.out)); (case side2 => exact Kd.R_tight rfl HO154.out); rintro e w26 ⟨v156, rfl, ho0, hb, hkp⟩; refine ⟨_, rfl, ?_⟩; have n0_ := Aside0.mk (blk_kept (by (with_reducible repeat (first | refine blk_drewN ?_ _ | refine blk_drew ?_ | refine blk_alloc ?_ _)); exact BK151.out) hkp (fun hs_ => (fun e_ => (Kd.R_ne HO154.out BK151.out (by decide)) e_) hs_)); have n1_ := Aside0.mk (Kd.R_mono (ok' := fun k_ => (P0_ k_ ∨ w.heap.size ≤ k_)) ho0 (fun k_ hk_ => Or.elim hk_ (fun hs_ => (HO154.out.1 k_ (hs_).symm)) (fun hn_ => (.inr (Nat.le_trans (by first | exact HK.out.1 | exact (show Kept w _ (fun k_ => P0_ k_) from by repeat (first | (with_reducible first | exact HK.out | apply Kept.alloc | apply Kept.drewN | apply Kept.drew | refine Kept.setCell ?_ (.inr GW151.out) _) | exact HK.out)).1) hn_))))); have n2_ := Aside0.mk (Kept.then_ (S := (fun k_ => P0_ k_)) (by repeat (first | (with_reducible first | exact HK.out | apply Kept.alloc | apply Kept.drewN | apply Kept.drew | refine Kept.setCell ?_ (.inr GW151.out) _) | exact HK.out)) hkp (fun k_ hs_ => (fun e_ => (HO154.out.1 k_ e_.symm)) hs_)); have n3_ := Aside0.mk (hb); clear BK151; clear HK; clear HB; clear HO154; have BK151 := n0_; have HO157 := n1_; have HK := n2_; have HB := n3_; clear n0_ n1_ n2_ n3_; (try clear hb); (try clear hkp); (try clear ho0); have hcz27_0 : w26.cell? ⟨gb151, 0, none⟩ = some (.slice A1_0 l1_0.length c1_0) := (blk_cell BK151.out 0).trans rfl; have hcz27_1 : w26.cell? ⟨gb151, 1, none⟩ = some (.int .i64 a1_1) := (blk_cell BK151.out 1).trans rfl; have hcz27_2 : w26.cell? ⟨gb151, 2, none⟩ = some (.int .i64 a1_2) := (blk_cell BK151.out 2).trans rfl; have hfz27_0 := blk_frozen BK151.out 0; have hfz27_1 := blk_frozen BK151.out 1; have hfz27_2 := blk_frozen BK151.out 2) | ((with_reducible refine gate_builtin (b := .append) (xs := #[.tmp 27, .tmp 29]) rfl ?_); at_builtin; refine Kd.R_append_rows (Kd.int .u8) (w0 := w0) w0.heap.size rfl (.tmp 27) (.tmp 29) 22 5 (.int .u8 0) 1 rfl Try.underlying22 info5 rfl (by decide) (by omega) v156 t155 l1_0 _ _ _ (fun k_ => (P0_ k_ ∨ w.heap.size ≤ k_)) (fun _ => False) rfl rfl ?aO ?aR (fun _ _ h => h) (fun _ h => h.elim) ?aF ?aB ?aS ?aL ?_; (case aR => exact Kd.C_kept_now HR1_0.out (by repeat (first | (with_reducible first | exact HK.out | apply Kept.alloc | apply Kept.drewN | apply Kept.drew | refine Kept.setCell ?_ (.inr GW151.out) _) | exact HK.out))); (case aB => exact (by repeat (first | (with_reducible first | exact HB.out | apply below_alloc | apply pw_below_drewN | apply below_drew1 | refine below_set ?_ GE151.out) | exact HB.out))); (case aF => exact (fun k_ hk => (.inr (Nat.le_trans (by first | exact HK.out.1 | exact (show Kept w _ (fun k_ => P0_ k_) from by repeat (first | (with_reducible first | exact HK.out | apply Kept.alloc | apply Kept.drewN | apply Kept.drew | refine Kept.setCell ?_ (.inr GW151.out) _) | exact HK.out)).1) hk)))); (case aO => exact (by (with_reducible repeat (first | apply Kd.R_alloc | apply Kd.R_drewN | apply Kd.R_drew)); exact HO157.out)); (case aS => exact (below_size (by repeat (first | (with_reducible first | exact HB.out | apply below_alloc | apply pw_below_drewN | apply below_drew1 | refine below_set ?_ GE151.out) | exact HB.out)))); (case aL => have := LMc8.out; omega); intro v159 w28 ho hb hg hat; rw [← Ny158.out] at ho; have n0_ := Aside0.mk (blk_grown (g := gb151) (o := .cells #[.slice A1_0 l1_0.length c1_0, .int .i64 a1_1, .int .i64 a1_2] 44 (0, 0)) (by (with_reducible repeat (first | refine blk_drewN ?_ _ | refine blk_drew ?_ | refine blk_alloc ?_ _)); exact BK151.out) hg (Kd.R_ne HO157.out BK151.out (by decide))); have n1_ := Aside0.mk (hb); have n2_ := Aside0.mk (Kept.of_grown (S := (fun k_ => P0_ k_)) hg (by repeat (first | (with_reducible first | exact HK.out | apply Kept.alloc | apply Kept.drewN | apply Kept.drew | refine Kept.setCell ?_ (.inr GW151.out) _) | exact HK.out)) (fun k_ e_ => (HO157.out.1 k_ e_))); have n3_ := Aside0.mk (ho); clear BK151; clear HB; clear HK; clear HO157; have BK151 := n0_; have HB := n1_; have HK := n2_; have HO160 := n3_; clear n0_ n1_ n2_ n3_; clear ho hb hg hat; have hcz29_0 : w28.cell? ⟨gb151, 0, none⟩ = some (.slice A1_0 l1_0.length c1_0) := (blk_cell BK151.out 0).trans rfl; have hcz29_1 : w28.cell? ⟨gb151, 1, none⟩ = some (.int .i64 a1_1) := (blk_cell BK151.out 1).trans rfl; have hcz29_2 : w28.cell? ⟨gb151, 2, none⟩ = some (.int .i64 a1_2) := (blk_cell BK151.out 2).trans rfl; have hfz29_0 := blk_frozen BK151.out 0; have hfz29_1 := blk_frozen BK151.out 1; have hfz29_2 := blk_frozen BK151.out 2) | ((with_reducible refine gate_dst (N := 43) rfl ?_); refine Kd.R_lit (Kd.int .u8) _ 5 ?hg (N := 43) ?hd (xs := ([(a1_1) % 256, (a1_1 / 256) % 256] : List Int)) (inner := [.int .u8 ((a1_1) % 256), .int .u8 ((a1_1 / 256) % 256)]) (ok := fun _ => True) (okp := fun _ => True) ?hr ?hp (fun _ hk => hk) trivial (Below.refl _ _) (Nat.le_refl _) (by simp) ?_; (case hd => rfl); (case hg => rfl); (case hr => first | (go_simp; done) | (go_simp; rfl)); (case hp => exact (Reps.one (show Kd.M (Kd.int .u8) _ _ _ ((a1_1) % 256) [.int .u8 ((a1_1) % 256)] from rfl) (Reps.one (show Kd.M (Kd.int .u8) _ _ _ ((a1_1 / 256) % 256) [.int .u8 ((a1_1 / 256) % 256)] from rfl) (Reps.none _ _)))); intro v162 w30 ho31 hb hg_ hnew_; clear hg_ hnew_; (first | rw [← Ny161.out] at ho31 | (simp only [Int.reduceToNat] at ho31; rw [← Ny161.out] at ho31)); have n0_ := Aside0.mk (Kd.R_elder' (by (with_reducible repeat (first | apply Kd.R_alloc | apply Kd.R_drewN | apply Kd.R_drew)); exact HO160.out) (Kd.R_base ho31) hb); have n1_ := Aside0.mk (Kd.R_lower (Kd.R_new' (Kd.R_newM (M := fun k_ => (P0_ k_ ∨ w.heap.size ≤ k_)) ho31 (by first | exact HK.out.1 | exact (show Kept w _ (fun k_ => P0_ k_) from by repeat (first | (with_reducible first | exact HK.out | apply Kept.alloc | apply Kept.drewN | apply Kept.drew | refine Kept.setCell ?_ (.inr GW151.out) _) | exact HK.out)).1) (fun k_ h_ => .inr h_)) (Kd.R_lt (by (with_reducible repeat (first | apply Kd.R_alloc | apply Kd.R_drewN | apply Kd.R_drew)); exact HO160.out))) (below_size (by repeat (first | (with_reducible first | exact HB.out | apply below_alloc | apply pw_below_drewN | apply below_drew1 | refine below_set ?_ GE151.out) | exact HB.out)))); have n2_ := Aside0.mk (blk_below (g := gb151) (o := .cells #[.slice A1_0 l1_0.length c1_0, .int .i64 a1_1, .int .i64 a1_2] 44 (0, 0)) (by (with_reducible repeat (first | refine blk_drewN ?_ _ | refine blk_drew ?_ | refine blk_alloc ?_ _)); exact BK151.out) hb); have n3_ := Aside0.mk (Kept.below (S := (fun k_ => P0_ k_)) (by repeat (first | (with_reducible first | exact HK.out | apply Kept.alloc | apply Kept.drewN | apply Kept.drew | refine Kept.setCell ?_ (.inr GW151.out) _) | exact HK.out)) hb); have n4_ := Aside0.mk (below_step (by repeat (first | (with_reducible first | exact HB.out | apply below_alloc | apply pw_below_drewN | apply below_drew1 | refine below_set ?_ GE151.out) | exact HB.out)) hb); clear HO160; clear BK151; clear HK; clear HB; have HO160 := n0_; have HO163 := n1_; have BK151 := n2_; have HK := n3_; have HB := n4_; clear n0_ n1_ n2_ n3_ n4_; clear hb ho31; obtain ⟨Ao33, co33, eo33⟩ := Kd.R_slice HO163.out; subst eo33) | ((with_reducible refine gate_builtin (b := .append) (xs := #[.tmp 35, .tmp 43]) rfl ?_); at_builtin; refine Kd.R_append_rows (Kd.int .u8) (w0 := w0) w0.heap.size rfl (.tmp 35) (.tmp 43) 22 5 (.int .u8 0) 1 rfl Try.underlying22 info5 rfl (by decide) (by omega) v159 y158 y161 _ _ _ (fun k_ => (P0_ k_ ∨ w.heap.size ≤ k_) ∧ some k_ ≠ (.slice Ao33 y161.length co33 : Value).ownBlock) (fun _ => False) rfl rfl ?aO ?aR (fun _ _ h => h) (fun _ h => h.elim) ?aF ?aB ?aS ?aL ?_; (case aR => repeat (first | exact (Kd.R_reads' HO163.out).2.2 | (with_reducible refine Kd.C_alloc ?_ _) | (with_reducible refine Kd.C_drewN ?_ _) | (with_reducible refine Kd.C_drew ?_))); (case aB => exact (by repeat (first | (with_reducible first | exact HB.out | apply below_alloc | apply pw_below_drewN | apply below_drew1 | refine below_set ?_ GE151.out) | exact HB.out))); (case aF => exact (fun k_ hk => ⟨(.inr (Nat.le_trans (by first | exact HK.out.1 | exact (show Kept w _ (fun k_ => P0_ k_) from by repeat (first | (with_reducible first | exact HK.out | apply Kept.alloc | apply Kept.drewN | apply Kept.drew | refine Kept.setCell ?_ (.inr GW151.out) _) | exact HK.out)).1) hk)), Kd.fresh' (Kd.R_lt (by (with_reducible repeat (first | apply Kd.R_alloc | apply Kd.R_drewN | apply Kd.R_drew)); exact HO163.out)) k_ hk⟩)); (case aO => exact (by (with_reducible repeat (first | apply Kd.R_alloc | apply Kd.R_drewN | apply Kd.R_drew)); exact HO160.out)); (case aS => exact (below_size (by repeat (first | (with_reducible first | exact HB.out | apply below_alloc | apply pw_below_drewN | apply below_drew1 | refine below_set ?_ GE151.out) | exact HB.out)))); (case aL => have := LMc19.out; omega); intro v165 w32 ho hb hg hat; rw [← Ny164.out] at ho; have n0_ := Aside0.mk (blk_grown (g := gb151) (o := .cells #[.slice A1_0 l1_0.length c1_0, .int .i64 a1_1, .int .i64 a1_2] 44 (0, 0)) (by (with_reducible repeat (first | refine blk_drewN ?_ _ | refine blk_drew ?_ | refine blk_alloc ?_ _)); exact BK151.out) hg (Kd.R_ne HO160.out BK151.out (by decide))); have n1_ := Aside0.mk (Kd.R_after (ok := (fun k_ => (P0_ k_ ∨ w.heap.size ≤ k_))) (by (with_reducible repeat (first | apply Kd.R_alloc | apply Kd.R_drewN | apply Kd.R_drew)); exact Kd.R_mono HO163.out (fun _ hk => ⟨hk.1.1, hk.2⟩)) hg hat); have n2_ := Aside0.mk (hb); have n3_ := Aside0.mk (Kept.of_grown (S := (fun k_ => P0_ k_)) hg (by repeat (first | (with_reducible first | exact HK.out | apply Kept.alloc | apply Kept.drewN | apply Kept.drew | refine Kept.setCell ?_ (.inr GW151.out) _) | exact HK.out)) (fun k_ e_ => (HO160.out.1 k_ e_).1)); have n4_ := Aside0.mk (ho); clear BK151; clear HO163; clear HB; clear HK; clear HO160; have BK151 := n0_; have HO163 := n1_; have HB := n2_; have HK := n3_; have HO166 := n4_; clear n0_ n1_ n2_ n3_ n4_; clear ho hb hg hat; obtain ⟨Ao34, co34, eo34⟩ := Kd.R_slice HO166.out; subst eo34) | ((with_reducible refine gate_callee (f := 93) rfl ?_); refine goesL_ (some 47) rfl rfl Try.func93 (by kernel_rfl) rfl #[.slice Ao34 y164.length co34, .int .i64 ji3] rfl (by (try simp only [List.map_toArray, List.map_cons, List.map_nil]); first | done | (simp only [hji3]; rfl) | rfl | (simp only [List.length_drop, List.length_take]; rfl)) ?_; (with_reducible refine (lz_number.calls k (fun k_ => some k_ = (.slice Ao34 y164.length co34 : Value).ownBlock) (.slice Ao34 y164.length co34) y164 ji3 t167 w0 _ ?side1 ?side2 A20.out).mono ?_); (case side1 => repeat (first | (with_reducible first | exact HB.out | apply below_alloc | apply pw_below_drewN | apply below_drew1 | refine below_set ?_ GE151.out) | exact HB.out)); (case side2 => exact Kd.R_tight rfl HO166.out); rintro e w35 ⟨v168, rfl, ho0, hb, hkp⟩; refine ⟨_, rfl, ?_⟩; have n0_ := Aside0.mk (blk_kept (by (with_reducible repeat (first | refine blk_drewN ?_ _ | refine blk_drew ?_ | refine blk_alloc ?_ _)); exact BK151.out) hkp (fun hs_ => (fun e_ => (Kd.R_ne HO166.out BK151.out (by decide)) e_) hs_)); have n1_ := Aside0.mk (Kd.R_mono (ok' := fun k_ => (P0_ k_ ∨ w.heap.size ≤ k_) ∧ some k_ ≠ (v168 : Value).ownBlock) (Kd.R_keptB (HO163.out) hkp (fun k_ hk_ hs_ => (hk_.2) hs_)) (fun k_ hk_ => ⟨hk_.1.1, fun e_ => Or.elim (ho0.1 k_ e_.symm) (fun hs_ => hk_.2.1 hs_) (fun hn_ => Nat.not_le.2 hk_.2.2 hn_)⟩)); have n2_ := Aside0.mk (Kd.R_mono (ok' := fun k_ => (P0_ k_ ∨ w.heap.size ≤ k_) ∧ some k_ ≠ (.slice Ao33 y161.length co33 : Value).ownBlock) ho0 (fun k_ hk_ => ⟨Or.elim hk_ (fun hs_ => (HO166.out.1 k_ (hs_).symm).1) (fun hn_ => (.inr (Nat.le_trans (by first | exact HK.out.1 | exact (show Kept w _ (fun k_ => P0_ k_) from by repeat (first | (with_reducible first | exact HK.out | apply Kept.alloc | apply Kept.drewN | apply Kept.drew | refine Kept.setCell ?_ (.inr GW151.out) _) | exact HK.out)).1) hn_))), Or.elim hk_ (fun hs_ => fun e_ => (((HO163.out).1 k_ e_.symm).2) hs_) (fun hn_ => (Kd.fresh' (Kd.R_lt (by (with_reducible repeat (first | apply Kd.R_alloc | apply Kd.R_drewN | apply Kd.R_drew)); exact HO163.out)) k_ hn_))⟩)); have n3_ := Aside0.mk (Kept.then_ (S := (fun k_ => P0_ k_)) (by repeat (first | (with_reducible first | exact HK.out | apply Kept.alloc | apply Kept.drewN | apply Kept.drew | refine Kept.setCell ?_ (.inr GW151.out) _) | exact HK.out)) hkp (fun k_ hs_ => (fun e_ => (HO166.out.1 k_ e_.symm).1) hs_)); have n4_ := Aside0.mk (hb); clear BK151; clear HO163; clear HK; clear HB; clear HO166; have BK151 := n0_; have HO163 := n1_; have HO169 := n2_; have HK := n3_; have HB := n4_; clear n0_ n1_ n2_ n3_ n4_; (try clear hb); (try clear hkp); (try clear ho0)))
          go_ret
          exact ⟨_, by first | rfl | (simp [errW_none, errW_some] <;> rfl) | (simp only [← hji3, ← hji4, ← hji5]; first | rfl | (simp [errW_none, errW_some] <;> rfl)) | (simp [*, errW_none, errW_some] <;> rfl), by (with_reducible repeat (first | apply Kd.R_alloc | apply Kd.R_drewN | apply Kd.R_drew)); exact Kd.R_mono HO169.out (fun _ hk => hk.1), by repeat (first | (with_reducible first | exact HB.out | apply below_alloc | apply pw_below_drewN | apply below_drew1 | refine below_set ?_ GE151.out) | exact HB.out), by repeat (first | (with_reducible first | exact HK.out | apply Kept.alloc | apply Kept.drewN | apply Kept.drew | refine Kept.setCell ?_ (.inr GW151.out) _) | exact HK.out)⟩
        · rw [if_neg c19] at H
          exact absurd H (by simp)
    · rw [if_neg c8] at H
      exact absurd H (by simp)
  · rw [if_neg c6] at H
    exact absurd H (by simp)

/-! ### lz_made: function 66 -/
/-! ### lz_Make: function 33 -/
end Go.Proofs.Ytnomebkdhjigjaa.Z
/- Contract of lz.Play: what comes out and the error, as a plain function of the sequences, the bytes ahead and the bound. -/
namespace Go.Proofs.Ytnomebkdhjigjaa.W
open Go.RowKit Go.Proofs.Ytnomebkdhjigjaa.Z Go.Proofs.YtnomebkdhjigjaaW.PrintWords Go.Proofs.YtnomebkdhjigjaaW.PrintLast Go.Proofs.YtnomebkdhjigjaaW.PrintMore
set_option linter.unusedVariables false
set_option linter.unusedSimpArgs false
/-- Whether sequences are a block's. -/
def madeP : List S44 → Bool
  | [] => false
  | [s] => decide (s.f1 = 0 ∧ s.f2 = 0)
  | s :: t :: u => decide (1 ≤ s.f1 ∧ s.f1 < 65536 ∧ 4 ≤ s.f2) && madeP (t :: u)
theorem drop_at (l : List S44) (i : Nat) (hi : i < l.length) : l.drop i = l.getD i z44 :: l.drop (i + 1) := by
  rw [List.getD_eq_getElem?_getD, List.getElem?_eq_getElem hi]
  exact List.drop_eq_getElem_cons hi
theorem made_last (l : List S44) (i : Nat) (hi : i + 1 = l.length) : madeP (l.drop i) = decide ((l.getD i z44).f1 = 0 ∧ (l.getD i z44).f2 = 0) := by
  rw [drop_at l i (by omega), List.drop_of_length_le (by omega), madeP]
theorem made_next (l : List S44) (i : Nat) (hi : i + 1 < l.length) : madeP (l.drop i) = (decide (1 ≤ (l.getD i z44).f1 ∧ (l.getD i z44).f1 < 65536 ∧ 4 ≤ (l.getD i z44).f2) && madeP (l.drop (i + 1))) := by
  rw [drop_at l i (by omega), drop_at l (i + 1) hi, madeP]
theorem made_facts (l : List S44) : ∀ (j i : Nat), i + j = l.length → madeP (l.drop i) = true → ∀ q, i ≤ q → q < l.length → (q + 1 = l.length → (l.getD q z44).f1 = 0 ∧ (l.getD q z44).f2 = 0) ∧ (q + 1 < l.length → 1 ≤ (l.getD q z44).f1 ∧ (l.getD q z44).f1 < 65536 ∧ 4 ≤ (l.getD q z44).f2) := by
  intro j
  induction j with
  | zero => intro i hi hm q h1 h2; omega
  | succ j ih =>
    intro i hi hm q h1 h2
    by_cases c : i + 1 = l.length
    · rw [made_last l i c] at hm
      have hm := of_decide_eq_true hm
      have : q = i := by omega
      subst this
      exact ⟨fun _ => hm, fun h => by omega⟩
    · rw [made_next l i (by omega), Bool.and_eq_true] at hm
      rcases Nat.eq_or_lt_of_le h1 with e | e
      · subst e
        exact ⟨fun h => by omega, fun _ => of_decide_eq_true hm.1⟩
      · exact ih (i + 1) (by omega) hm.2 q (by omega) h2
/-- Sequences played: the error, what came out. -/
def playL (bg most : Int) : List S44 → List Int → Int × List Int
  | [], all => (0, all)
  | s :: t, all =>
    if (s.f0.length : Int) > most - ((all.length : Int) - bg) then (32, all) else
    if s.f1 = 0 then (0, all ++ s.f0) else
    if s.f1 > ((all ++ s.f0).length : Int) then (30, all ++ s.f0) else
    if s.f2 > most - (((all ++ s.f0).length : Int) - bg) then (32, all ++ s.f0) else
    playL bg most t (copied s.f1.toNat s.f2.toNat (all ++ s.f0))
def play (l : List S44) (ahead : List Int) (most : Int) : List Int × Int :=
  if most < 0 ∨ most > 4194304 ∨ madeP l = false then ([], 1) else
  if (playL (window ahead).length most l (window ahead)).1 ≠ 0 then ([], (playL (window ahead).length most l (window ahead)).1) else ((playL (window ahead).length most l (window ahead)).2.drop (window ahead).length, 0)
end Go.Proofs.Ytnomebkdhjigjaa.W
/- lz.Play and lz.Decode as the print says them: contracts over lists. -/
/- Plain facts: what Make (the program's, as printed) comes to: a block of sequences, byte by byte. -/

namespace Go.Proofs.Ytnomebkdhjigjaa.W
open Go.RowKit Go.Proofs.Ytnomebkdhjigjaa.Z Go.Proofs.Ytnomebkdhjigjaa.MLzDecodes Go.Proofs.YtnomebkdhjigjaaW.PrintWords Go.Proofs.YtnomebkdhjigjaaW.PrintLast Go.Proofs.YtnomebkdhjigjaaW.PrintMore
set_option linter.unusedVariables false
set_option linter.unusedSimpArgs false
/-- The bytes of a number beyond 15. -/
def numN (n : Nat) : List Int := List.replicate (n / 255) 255 ++ [((n % 255 : Nat) : Int)]
theorem numN_len (n : Nat) : (numN n).length = n / 255 + 1 := by simp [numN]
theorem numN_small (n : Nat) (h : n < 255) : numN n = [(n : Int)] := by
  unfold numN
  rw [Nat.div_eq_of_lt h, Nat.mod_eq_of_lt h]
  rfl
theorem numN_more (n : Nat) (h : 255 ≤ n) : numN n = 255 :: numN (n - 255) := by
  unfold numN
  have e1 : n / 255 = (n - 255) / 255 + 1 := by omega
  have e2 : n % 255 = (n - 255) % 255 := by omega
  rw [e1, e2, List.replicate_succ, List.cons_append]
theorem lznum_l0 : ∀ (j k n : Nat) (x : List Int), n / 255 = j → j < k → x.length + j < 140737488355328 → n ≤ 9007199254740992 → lz_number.l0 k x (n : Int) = some (x ++ numN n) := by
  intro j
  induction j with
  | zero =>
    intro k n x hj hk hx hn
    obtain ⟨k, rfl⟩ : ∃ q, k = q + 1 := ⟨k - 1, by omega⟩
    rw [lz_number.l0, if_neg (by omega), if_pos (by omega), numN_small n (by omega)]
    rw [show (n : Int) % 256 = (n : Int) by omega]
  | succ j ih =>
    intro k n x hj hk hx hn
    obtain ⟨k, rfl⟩ : ∃ q, k = q + 1 := ⟨k - 1, by omega⟩
    have w1 : wrap64 ((n : Int) - 255) = ((n - 255 : Nat) : Int) := by rw [IntWalk.wrap64_in _ (by omega)]; omega
    rw [lz_number.l0, w1]
    clear w1
    rw [if_pos (by omega), if_pos (by omega), ih k (n - 255) _ (by omega) (by omega) (by simp; omega) (by omega), numN_more n (by omega), List.append_assoc]
    rfl
/-- What a half of a token tells. -/
def half (n : Int) : Int := if n < 15 then n else 15
/-- A number's further bytes. -/
def ext255 (n : Int) : List Int := if n < 15 then [] else numN (n - 15).toNat
/-- A sequence's bytes. -/
def putP (s : S44) : List Int :=
  [16 * half (s.f0.length : Int) + (if s.f1 = 0 then 0 else half (s.f2 - 4))] ++ ext255 (s.f0.length : Int) ++ s.f0 ++
    (if s.f1 = 0 then [] else [s.f1 % 256, s.f1 / 256] ++ ext255 (s.f2 - 4))
theorem half_le (n : Int) (h : 0 ≤ n) : 0 ≤ half n ∧ half n ≤ 15 := by
  unfold half
  split <;> omega
theorem ext255_len (n : Int) (h : 0 ≤ n) : (ext255 n).length ≤ n.toNat + 1 := by
  unfold ext255
  split
  · simp
  · rw [numN_len]
    omega
theorem or16 : ∀ a b : Fin 16, Go.bits .or .i64 ((a.val : Int) * 16) (b.val : Int) = 16 * (a.val : Int) + (b.val : Int) := by decide +kernel
theorem or_half (a b : Int) (ha : 0 ≤ a ∧ a ≤ 15) (hb : 0 ≤ b ∧ b ≤ 15) : Go.bits .or .i64 (a * 16) b = 16 * a + b := by
  obtain ⟨m, rfl⟩ := Int.eq_ofNat_of_zero_le ha.1
  obtain ⟨n, rfl⟩ := Int.eq_ofNat_of_zero_le hb.1
  exact or16 ⟨m, by omega⟩ ⟨n, by omega⟩
theorem mn_half (n : Int) : mn n 15 = half n := by
  unfold mn half
  by_cases c : 15 < n
  · rw [if_pos c, if_neg (by omega)]
  · rw [if_neg c]
    split <;> omega
theorem mn_half' (n : Int) : mn 15 n = half n := rfl
theorem mx_zero (n : Int) : mx 0 n = if n < 0 then 0 else n := by
  unfold mx
  split <;> split <;> omega
/-- What is said of a block's sequences: the last is plain alone, no other is. -/
def OkS (s : S44) : Prop := (s.f1 = 0 ∧ s.f2 = 0) ∨ (1 ≤ s.f1 ∧ s.f1 < 65536 ∧ 4 ≤ s.f2)
theorem lznumber_f (k : Nat) (x : List Int) (n : Int) (h0 : 0 ≤ n) (h1 : n ≤ 4194304) (hk : 20000 < k) (hx : x.length + n.toNat < 140737488355328) : lz_number.f k x n = some (x ++ ext255 n) := by
  obtain ⟨m, rfl⟩ := Int.eq_ofNat_of_zero_le h0
  unfold lz_number.f ext255
  by_cases c : (m : Int) < 15
  · rw [if_pos c, if_pos c, List.append_nil]
  · have w1 : wrap64 ((m : Int) - 15) = ((m - 15 : Nat) : Int) := by rw [IntWalk.wrap64_in _ (by omega)]; omega
    rw [if_neg c, if_neg c, w1]
    clear w1
    rw [lznum_l0 ((m - 15) / 255) k (m - 15) x rfl (by omega) (by omega) (by omega), show ((m : Int) - 15).toNat = m - 15 by omega]
theorem lzput_f (k : Nat) (x : List Int) (s : S44) (hs : OkS s) (h0 : s.f0.length ≤ 4194304) (h2 : s.f2 ≤ 4194304) (hk : 20000 < k) (hx : x.length < 140737000000000) : lz_put.f k x s.f0 s.f1 s.f2 = some (x ++ putP s) := by
  have w0 : wrap64 (s.f2 - 4) = s.f2 - 4 := IntWalk.wrap64_in _ (by rcases hs with ⟨_, h⟩ | ⟨_, _, h⟩ <;> omega)
  have hm : 0 ≤ mx 0 (s.f2 - 4) ∧ mx 0 (s.f2 - 4) ≤ 4194304 := by rw [mx_zero]; split <;> omega
  have hh := half_le (s.f0.length : Int) (by omega)
  have hh2 := half_le (mx 0 (s.f2 - 4)) hm.1
  have e1 := ext255_len (s.f0.length : Int) (by omega)
  unfold lz_put.f
  rw [w0]
  clear w0
  rw [if_pos (by omega)]
  simp only [mn_half, mn_half']
  rw [or_half _ _ hh hh2, lznumber_f k _ (s.f0.length : Int) (by omega) (by omega) hk (by simp; omega), Option.bind_some, if_pos (by simp; omega), Option.bind_some]
  unfold putP
  by_cases c : s.f1 = 0
  · have e2 : s.f2 = 0 := by rcases hs with ⟨_, h⟩ | ⟨h, _, _⟩ <;> omega
    have e3 : mx 0 (s.f2 - 4) = 0 := by rw [mx_zero, if_pos (by omega)]
    rw [if_pos c, if_pos c, if_pos c, e3, show half 0 = 0 from rfl, show (16 * half (s.f0.length : Int) + 0) % 256 = 16 * half (s.f0.length : Int) + 0 by omega]
    simp only [List.append_assoc, List.append_nil]
  · have hs' : 1 ≤ s.f1 ∧ s.f1 < 65536 ∧ 4 ≤ s.f2 := by
      rcases hs with ⟨h, _⟩ | h
      · exact absurd h c
      · exact h
    have e3 : mx 0 (s.f2 - 4) = s.f2 - 4 := by rw [mx_zero, if_neg (by omega)]
    rw [e3] at hh2
    have e4 := ext255_len (s.f2 - 4) (by omega)
    rw [if_neg c, if_neg c, if_neg c, e3, Option.bind_some, if_pos (by simp; omega), lznumber_f k _ (s.f2 - 4) (by omega) (by omega) hk (by simp; omega), Option.bind_some]
    rw [show (16 * half (s.f0.length : Int) + half (s.f2 - 4)) % 256 = 16 * half (s.f0.length : Int) + half (s.f2 - 4) by omega, show s.f1 / 256 % 256 = s.f1 / 256 by omega]
    simp only [List.append_assoc]
theorem ok_at {l : List S44} (h : madeP l = true) (i : Nat) (hi : i < l.length) : OkS (l.getD i z44) ∧ (i + 1 = l.length ↔ (l.getD i z44).f1 = 0) := by
  have hf := made_facts l l.length 0 (by omega) h i (Nat.zero_le _) hi
  by_cases c : i + 1 = l.length
  · exact ⟨.inl (hf.1 c), fun _ => (hf.1 c).1, fun _ => c⟩
  · have h2 := hf.2 (by omega)
    exact ⟨.inr h2, fun h => absurd h c, fun h => by omega⟩
end Go.Proofs.Ytnomebkdhjigjaa.W
/- Texts of mine made one: Ea, Eb, Ec, Ed, Ee. -/
/- lz.Encode as a plain function, and what holds of it: sequences of a block that play to the plain bytes, within the bound, with the end that a block must have. -/
namespace Go.Proofs.Ytnomebkdhjigjaa.W
open Go.RowKit Go.Proofs.Ytnomebkdhjigjaa.Z
set_option linter.unusedVariables false
set_option linter.unusedSimpArgs false
theorem drop_cons2 {b : List Int} {k : Nat} (h : k < b.length) : b.drop k = b.getD k 0 :: b.drop (k + 1) := by
  rw [List.getD_eq_getElem?_getD, List.getElem?_eq_getElem h]
  exact List.drop_eq_getElem_cons h
/-- Four bytes at a place. -/
def key4 (all : List Int) (i : Nat) : List Int := (all.drop i).take 4
/-- The last place ahead of n with these four bytes. -/
def find4 (all : List Int) : Nat → List Int → Option Nat
  | 0, _ => none
  | n + 1, q => if n + 4 ≤ all.length ∧ key4 all n = q then some n else find4 all n q
/-- How long a match is. -/
def mlen (all : List Int) (k i : Nat) : Nat → Nat → Nat
  | 0, n => n
  | f + 1, n => if i + n + 5 < all.length ∧ all.getD (i + n) 0 = all.getD (k + n) 0 then mlen all k i f (n + 1) else n
/-- The sequences from a place on. -/
def encL (all : List Int) : Nat → Nat → Nat → List S44
  | 0, fr, _ => [⟨all.drop fr, 0, 0⟩]
  | f + 1, fr, i => if i + 12 ≤ all.length then
      (match find4 all i (key4 all i) with
      | none => encL all f fr (i + 1)
      | some k => if 65536 ≤ i - k then encL all f fr (i + 1) else
          ⟨(all.take i).drop fr, ((i - k : Nat) : Int), ((mlen all k i all.length 4 : Nat) : Int)⟩ :: encL all f (i + mlen all k i all.length 4) (i + mlen all k i all.length 4))
    else [⟨all.drop fr, 0, 0⟩]
def encA (plain ahead : List Int) : List S44 := encL (window ahead ++ plain) ((window ahead ++ plain).length + 1) (window ahead).length (window ahead).length
def encode (plain ahead : List Int) : List Int × Int := if plain.length > 4194304 then ([], 2) else ((encA plain ahead).flatMap putP, 0)
theorem find4_some {all : List Int} {q : List Int} : ∀ {n k : Nat}, find4 all n q = some k → k < n ∧ k + 4 ≤ all.length ∧ key4 all k = q := by
  intro n
  induction n with
  | zero => intro k h; cases h
  | succ n ih =>
    intro k h
    rw [find4] at h
    by_cases c : n + 4 ≤ all.length ∧ key4 all n = q
    · rw [if_pos c] at h
      cases h
      exact ⟨by omega, c.1, c.2⟩
    · rw [if_neg c] at h
      have := ih h
      exact ⟨by omega, this.2⟩
theorem mlen_facts (all : List Int) (k i : Nat) : ∀ (f n : Nat), i + n + 5 ≤ all.length → (∀ t, t < n → all.getD (i + t) 0 = all.getD (k + t) 0) →
    n ≤ mlen all k i f n ∧ i + mlen all k i f n + 5 ≤ all.length ∧ ∀ t, t < mlen all k i f n → all.getD (i + t) 0 = all.getD (k + t) 0 := by
  intro f
  induction f with
  | zero => intro n h1 h2; exact ⟨Nat.le_refl _, h1, h2⟩
  | succ f ih =>
    intro n h1 h2
    rw [mlen]
    by_cases c : i + n + 5 < all.length ∧ all.getD (i + n) 0 = all.getD (k + n) 0
    · rw [if_pos c]
      have := ih (n + 1) (by omega) (fun t ht => by
        by_cases e : t = n
        · rw [e]; exact c.2
        · exact h2 t (by omega))
      exact ⟨by omega, this.2⟩
    · rw [if_neg c]
      exact ⟨Nat.le_refl _, h1, h2⟩
theorem key4_get {all : List Int} {k i : Nat} (h : key4 all k = key4 all i) (t : Nat) (ht : t < 4) : all.getD (k + t) 0 = all.getD (i + t) 0 := by
  have e : ∀ j, all.getD (j + t) 0 = (key4 all j).getD t 0 := fun j => by
    unfold key4
    rw [List.getD_eq_getElem?_getD, List.getD_eq_getElem?_getD, List.getElem?_take, if_pos ht, List.getElem?_drop]
  rw [e, e, h]
/-- A match that holds: what it copies stands there. -/
theorem copied_take (all : List Int) (i k : Nat) (hk : k < i) : ∀ n j : Nat, i ≤ j → j + n ≤ all.length → (∀ t, t < j + n - i → all.getD (i + t) 0 = all.getD (k + t) 0) → copied (i - k) n (all.take j) = all.take (j + n) := by
  intro n
  induction n with
  | zero => intro j h1 h2 h3; rfl
  | succ n ih =>
    intro j h1 h2 h3
    rw [copied]
    have hl : (all.take j).length = j := by rw [List.length_take]; omega
    have hg : (all.take j).getD ((all.take j).length - (i - k)) 0 = all.getD j 0 := by
      rw [hl, List.getD_eq_getElem?_getD, List.getElem?_take, if_pos (by omega), ← List.getD_eq_getElem?_getD]
      have := h3 (j - i) (by omega)
      rw [show i + (j - i) = j by omega, show k + (j - i) = j - (i - k) by omega] at this
      exact this.symm
    rw [hg]
    have hs : all.take j ++ [all.getD j 0] = all.take (j + 1) := by
      rw [List.take_add_one, List.getD_eq_getElem?_getD, List.getElem?_eq_getElem (by omega)]
      rfl
    rw [hs, ih (j + 1) (by omega) (by omega) (fun t ht => h3 t (by omega))]
    congr 1
    omega
/-- Whether sequences end as a block must. -/
def endsP : List S44 → Bool
  | [] => false
  | [s] => true
  | [s, t] => decide (5 ≤ (t.f0.length : Int) ∧ 12 ≤ s.f2 + (t.f0.length : Int))
  | s :: t :: u :: r => endsP (t :: u :: r)
theorem ext255_small (n : Int) (h : 0 ≤ n) : ((ext255 n).length : Int) ≤ n / 255 + 1 ∧ (n < 15 → (ext255 n).length = 0) := by
  unfold ext255
  by_cases c : n < 15
  · rw [if_pos c]
    exact ⟨by simp; omega, fun _ => rfl⟩
  · rw [if_neg c, numN_len]
    exact ⟨by omega, fun h => by omega⟩
theorem put_small (s : S44) (h : 1 ≤ s.f1 ∧ 4 ≤ s.f2) : ((putP s).length : Int) ≤ (s.f0.length : Int) + s.f2 + ((s.f0.length : Int) + s.f2) / 255 := by
  have e1 := ext255_small (s.f0.length : Int) (by omega)
  have e2 := ext255_small (s.f2 - 4) (by omega)
  have hz : ¬ s.f1 = 0 := by omega
  unfold putP
  rw [if_neg hz, if_neg hz]
  simp only [List.length_append, List.length_cons, List.length_nil]
  by_cases c1 : (s.f0.length : Int) < 15
  · have := e1.2 c1
    by_cases c2 : s.f2 - 4 < 15
    · have := e2.2 c2; omega
    · have := e2.1; omega
  · by_cases c2 : s.f2 - 4 < 15
    · have := e2.2 c2; omega
    · have := e2.1; omega
theorem encL_one (all : List Int) : ∀ (f fr i : Nat) (x : S44), encL all f fr i = [x] → x = ⟨all.drop fr, 0, 0⟩ := by
  intro f
  induction f with
  | zero => intro fr i x h; injection h with h; exact h.symm
  | succ f ih =>
    intro fr i x h
    rw [encL] at h
    by_cases c : i + 12 ≤ all.length
    · rw [if_pos c] at h
      cases e : find4 all i (key4 all i) with
      | none => rw [e] at h; exact ih _ _ _ h
      | some k =>
        rw [e] at h
        simp only at h
        by_cases c2 : 65536 ≤ i - k
        · rw [if_pos c2] at h; exact ih _ _ _ h
        · rw [if_neg c2] at h
          injection h with h1 h2
          exfalso
          have : ∀ f fr i, encL all f fr i ≠ [] := by
            intro f
            induction f with
            | zero => intro fr i h; cases h
            | succ f ih =>
              intro fr i h
              rw [encL] at h
              split at h
              · split at h
                · exact ih _ _ h
                · split at h
                  · exact ih _ _ h
                  · cases h
              · cases h
          exact this _ _ _ h2
    · rw [if_neg c] at h; injection h with h; exact h.symm
theorem encL_ne (all : List Int) : ∀ f fr i, encL all f fr i ≠ [] := by
  intro f
  induction f with
  | zero => intro fr i h; cases h
  | succ f ih =>
    intro fr i h
    rw [encL] at h
    split at h
    · split at h
      · exact ih _ _ h
      · split at h
        · exact ih _ _ h
        · cases h
    · cases h
/-- What Encode's sequences are. -/
theorem encL_facts (all : List Int) (bg most : Int) (hm : (all.length : Int) - bg ≤ most) : ∀ (f fr i : Nat), fr ≤ i → i ≤ all.length →
    madeP (encL all f fr i) = true ∧ playL bg most (encL all f fr i) (all.take fr) = (0, all) ∧ (((encL all f fr i).flatMap putP).length : Int) ≤ ((all.length : Int) - fr) + ((all.length : Int) - fr) / 255 + 2 ∧ endsP (encL all f fr i) = true ∧
      (∀ s ∈ encL all f fr i, s.f0.length ≤ all.length ∧ 0 ≤ s.f2 ∧ s.f2 ≤ (all.length : Int) ∧ ∀ x ∈ s.f0, x ∈ all) := by
  have last : ∀ fr : Nat, fr ≤ all.length → madeP [⟨all.drop fr, 0, 0⟩] = true ∧ playL bg most [⟨all.drop fr, 0, 0⟩] (all.take fr) = (0, all) ∧ (((([⟨all.drop fr, 0, 0⟩] : List S44)).flatMap putP).length : Int) ≤ ((all.length : Int) - fr) + ((all.length : Int) - fr) / 255 + 2 ∧ endsP [⟨all.drop fr, 0, 0⟩] = true ∧
      (∀ s ∈ ([⟨all.drop fr, 0, 0⟩] : List S44), s.f0.length ≤ all.length ∧ 0 ≤ s.f2 ∧ s.f2 ≤ (all.length : Int) ∧ ∀ x ∈ s.f0, x ∈ all) := by
    intro fr hfr
    have hl : ((all.drop fr).length : Int) = (all.length : Int) - fr := by rw [List.length_drop]; omega
    have ht : ((all.take fr).length : Int) = fr := by rw [List.length_take]; omega
    refine ⟨rfl, ?_, ?_, rfl, ?_⟩
    · unfold playL
      rw [if_neg (by simp only [hl, ht]; omega), if_pos rfl, List.take_append_drop]
    · have e1 := ext255_small ((all.drop fr).length : Int) (by omega)
      simp only [List.flatMap_cons, List.flatMap_nil, List.append_nil, putP, if_true, List.length_append, List.length_cons, List.length_nil]
      omega
    · intro s hs
      rw [List.mem_singleton.1 hs]
      exact ⟨by show (all.drop fr).length ≤ _; omega, by show (0 : Int) ≤ 0; omega, by show (0 : Int) ≤ _; omega, fun x hx => List.mem_of_mem_drop hx⟩
  intro f
  induction f with
  | zero => intro fr i h1 h2; exact last fr (by omega)
  | succ f ih =>
    intro fr i h1 h2
    rw [encL]
    by_cases c : i + 12 ≤ all.length
    · rw [if_pos c]
      cases e : find4 all i (key4 all i) with
      | none => exact ih fr (i + 1) (by omega) (by omega)
      | some k =>
        simp only
        by_cases c2 : 65536 ≤ i - k
        · rw [if_pos c2]; exact ih fr (i + 1) (by omega) (by omega)
        · rw [if_neg c2]
          obtain ⟨k1, k2, k3⟩ := find4_some e
          have hml := mlen_facts all k i all.length 4 (by omega) (fun t ht => (key4_get k3 t ht).symm)
          generalize mlen all k i all.length 4 = n at *
          obtain ⟨n1, n2, n3⟩ := hml
          obtain ⟨i1, i2, i3, i4, i5⟩ := ih (i + n) (i + n) (Nat.le_refl _) (by omega)
          have hne := encL_ne all f (i + n) (i + n)
          have hone := encL_one all f (i + n) (i + n)
          generalize encL all f (i + n) (i + n) = T at *
          have hxl : (((all.take i).drop fr).length : Int) = (i : Int) - fr := by rw [List.length_drop, List.length_take]; omega
          have hjoin : all.take fr ++ (all.take i).drop fr = all.take i := by
            have : all.take fr = (all.take i).take fr := by rw [List.take_take]; congr 1; omega
            rw [this, List.take_append_drop]
          refine ⟨?_, ?_, ?_, ?_, ?_⟩
          · cases T with
            | nil => exact absurd rfl hne
            | cons t u =>
              rw [madeP, i1, Bool.and_true]
              exact decide_eq_true ⟨by show (1 : Int) ≤ ((i - k : Nat) : Int); omega, by show ((i - k : Nat) : Int) < 65536; omega, by show (4 : Int) ≤ (n : Int); omega⟩
          · have ht : ((all.take fr).length : Int) = fr := by rw [List.length_take]; omega
            have ht2 : ((all.take i).length : Int) = i := by rw [List.length_take]; omega
            rw [playL]
            simp only [hxl, ht, hjoin, ht2]
            rw [if_neg (by omega), if_neg (by omega), if_neg (by omega), if_neg (by omega), show ((i - k : Nat) : Int).toNat = i - k by omega, show ((n : Nat) : Int).toNat = n by omega,
              copied_take all i k k1 n i (Nat.le_refl _) (by omega) (fun t ht => n3 t (by omega))]
            exact i2
          · have hp := put_small ⟨(all.take i).drop fr, ((i - k : Nat) : Int), (n : Int)⟩ ⟨by show (1 : Int) ≤ ((i - k : Nat) : Int); omega, by show (4 : Int) ≤ (n : Int); omega⟩
            rw [List.flatMap_cons, List.length_append]
            simp only [hxl] at hp
            have : ((i + n : Nat) : Int) = (i : Int) + n := by omega
            rw [this] at i3
            omega
          · match T, hne, hone, i4 with
            | [t], _, hone, _ =>
              have := hone t rfl
              rw [this]
              have hl : ((all.drop (i + n)).length : Int) = (all.length : Int) - (i + n : Nat) := by rw [List.length_drop]; omega
              exact decide_eq_true ⟨by show (5 : Int) ≤ ((all.drop (i + n)).length : Int); omega, by show (12 : Int) ≤ (n : Int) + ((all.drop (i + n)).length : Int); omega⟩
            | t :: u :: r, _, _, i4 => exact i4
          · intro s hs
            rcases List.mem_cons.1 hs with hs | hs
            · rw [hs]
              exact ⟨by show ((all.take i).drop fr).length ≤ _; omega, by show (0 : Int) ≤ (n : Int); omega, by show (n : Int) ≤ _; omega, fun x hx => List.mem_of_mem_take (List.mem_of_mem_drop hx)⟩
            · exact i5 s hs
    · rw [if_neg c]; exact last fr (by omega)
end Go.Proofs.Ytnomebkdhjigjaa.W
/- lz.Encode's map of four bytes: its keys, what it holds behind each place learned. -/
namespace Go.Proofs.Ytnomebkdhjigjaa.W
open Go.RowKit Go.Proofs.Ytnomebkdhjigjaa.Z Go.Maps Go.WideMaps
set_option linter.unusedVariables false
set_option linter.unusedSimpArgs false
theorem arr91 : ArrKey Try.prog 91 5 4 := ⟨Try.underlying91, by kernel_rfl, by kernel_rfl, by kernel_rfl⟩
theorem keyed91 : Keyed Try.prog 91 := Keyed.of_law arr91.law
theorem types_pos : ∃ m, Try.prog.types.size = m + 1 := ⟨Try.prog.types.size - 1, by
  have : 0 < Try.prog.types.size := of_decide_eq_true (by kernel_rfl)
  omega⟩
/-- Four bytes as a key. -/
def lit4 (q : List Int) : Lit := .string (keyBytes (q.map (Lit.int .u8)))
theorem keyOf4 {a b c d : Int} (wa : (Lit.int .u8 a).wf = true) (wb : (Lit.int .u8 b).wf = true) (wc : (Lit.int .u8 c).wf = true) (wd : (Lit.int .u8 d).wf = true) :
    keyOf Try.prog 91 (.agg #[.int .u8 a, .int .u8 b, .int .u8 c, .int .u8 d]) = some (lit4 [a, b, c, d]) := by
  have hkt := arr91.keyType types_pos
  obtain ⟨m, hm⟩ := types_pos
  unfold keyOf lit4
  simp only [arr91.hu]
  rw [if_pos (by simp [hkt, Value.formed, arr91.hu, arr91.size]), hm]
  unfold Program.keyLits
  simp only [arr91.hu, Value.cells]
  rw [if_pos (by rw [arr91.size]; rfl), show List.range 4 = [0, 1, 2, 3] from rfl, List.mapM_cons, List.mapM_cons, List.mapM_cons, List.mapM_cons, List.mapM_nil]
  simp [arr91.one, Program.keyLits, Try.underlying5, wa, wb, wc, wd]
def WfB (q : List Int) : Prop := ∀ x ∈ q, (Lit.int .u8 x).wf = true
theorem lit4_ne {q q' : List Int} (hl : q.length = q'.length) (h : WfB q) (h' : WfB q') (hne : q ≠ q') : lit4 q ≠ lit4 q' := by
  intro e
  apply hne
  unfold lit4 at e
  injection e with e
  have al : ∀ (l l' : List Int), l.length = l'.length → Alike (l.map (Lit.int .u8)) (l'.map (Lit.int .u8)) := by
    intro l
    induction l with
    | nil => intro l' hl; cases l' with
      | nil => trivial
      | cons x r => cases hl
    | cons x r ih => intro l' hl; cases l' with
      | nil => cases hl
      | cons y s => exact ⟨rfl, ih s (by simpa using hl)⟩
  have := keyBytes_inj (al q q' hl) (fun a ha => by obtain ⟨x, hx, rfl⟩ := List.mem_map.1 ha; exact h x hx) (fun a ha => by obtain ⟨x, hx, rfl⟩ := List.mem_map.1 ha; exact h' x hx) e
  have inj : ∀ (l l' : List Int), l.map (Lit.int .u8) = l'.map (Lit.int .u8) → l = l' := by
    intro l
    induction l with
    | nil => intro l' h; cases l' with
      | nil => rfl
      | cons x r => cases h
    | cons x r ih => intro l' h; cases l' with
      | nil => cases h
      | cons y s =>
        injection h with h1 h2
        injection h1 with _ h1
        rw [h1, ih s h2]
  exact inj _ _ this
theorem key4_len {all : List Int} {n : Nat} (h : n + 4 ≤ all.length) : (key4 all n).length = 4 := by
  unfold key4
  rw [List.length_take, List.length_drop]
  omega
theorem key4_wf {all : List Int} (h : WfB all) (n : Nat) : WfB (key4 all n) := fun x hx => h x (List.mem_of_mem_drop (List.mem_of_mem_take hx))
/-- What the map holds when the places ahead of n are learned. -/
structure Learned (D : DataW Unit) (all : List Int) (n : Nat) : Prop where
  m : IsMap D
  has : ∀ q, q.length = 4 → WfB q → Maps.has D (lit4 q) = (find4 all n q).isSome
  at' : ∀ q, q.length = 4 → WfB q → ∀ k, find4 all n q = some k → D.atKey (lit4 q) (.lit (.int .i64 0)) = .lit (.int .i64 (k : Int))
theorem Learned.zero (all : List Int) : Learned (.map []) all 0 := ⟨isMap_empty, fun q _ _ => rfl, fun q _ _ k h => by cases h⟩
theorem Learned.skip {D : DataW Unit} {all : List Int} {n : Nat} (h : Learned D all n) (hn : ¬ n + 4 ≤ all.length) : Learned D all (n + 1) := by
  have e : ∀ q, find4 all (n + 1) q = find4 all n q := fun q => by rw [find4, if_neg (fun hc => hn hc.1)]
  exact ⟨h.m, fun q h1 h2 => by rw [e]; exact h.has q h1 h2, fun q h1 h2 k hk => h.at' q h1 h2 k (by rw [← e]; exact hk)⟩
theorem isMap_put {D : DataW Unit} (h : IsMap D) (k : Lit) (d : DataW Unit) : IsMap (D.put k d) := by
  obtain ⟨es, rfl⟩ := h
  exact ⟨_, rfl⟩
theorem Learned.put {D : DataW Unit} {all : List Int} {n : Nat} (h : Learned D all n) (hb : WfB all) (hn : n + 4 ≤ all.length) : Learned (D.put (lit4 (key4 all n)) (.lit (.int .i64 (n : Int)))) all (n + 1) := by
  refine ⟨isMap_put h.m _ _, fun q h1 h2 => ?_, fun q h1 h2 k hk => ?_⟩
  · by_cases c : key4 all n = q
    · subst c
      rw [has_put_same h.m (show WideAt.IsKeyLit (lit4 _) from trivial), find4, if_pos ⟨hn, rfl⟩]
      rfl
    · rw [has_put_other (lit4_ne (by rw [h1, key4_len hn]) h2 (key4_wf hb n) (fun e => c e.symm)), find4, if_neg (fun hc => c hc.2)]
      exact h.has q h1 h2
  · rw [find4] at hk
    by_cases c : key4 all n = q
    · subst c
      rw [if_pos ⟨hn, rfl⟩] at hk
      cases hk
      exact atKey_put_same h.m (show WideAt.IsKeyLit (lit4 _) from trivial) _ _
    · rw [if_neg (fun hc => c hc.2)] at hk
      rw [atKey_put_other (lit4_ne (by rw [h1, key4_len hn]) h2 (key4_wf hb n) (fun e => c e.symm))]
      exact h.at' q h1 h2 k hk
theorem zero3 (w : World) : (zeroValue 3).run Try.prog w = .ok (.int .i64 0) w := by kernel_rfl
end Go.Proofs.Ytnomebkdhjigjaa.W
/- lz.Encode's memory while it runs, and the function that learns a place. -/
namespace Go.Proofs.Ytnomebkdhjigjaa.W
open Go.RowKit Go.Proofs.Ytnomebkdhjigjaa.Z Go.Maps Go.Proofs.YtnomebkdhjigjaaW.PrintWords Go.Proofs.YtnomebkdhjigjaaW.PrintLast Go.Proofs.YtnomebkdhjigjaaW.PrintMore
set_option linter.unusedVariables false
set_option linter.unusedSimpArgs false
theorem own_slice2 {w : World} {B e size n : Nat} {v : Value} {xs : List Value} (h : w.ownsRow B e size v n xs) (hn : 0 < n) : ∃ g cp, v = .slice (some ⟨g, 0, none⟩) n cp ∧ n ≤ cp := by
  rcases h.2 with ⟨_, h0⟩ | ⟨g, cap, cur, rfl, _, _, h1, _⟩
  · omega
  · exact ⟨g, cap, rfl, h1⟩
structure EInv (w0 w : World) (ga gm B : Nat) (v : Value) (all : List Int) (cnt n : Nat) : Prop where
  B0 : Below w0.heap.size w0 w
  ha : w0.heap.size ≤ ga
  hm : w0.heap.size ≤ gm
  hB : w0.heap.size ≤ B
  a : w.heap[ga]? = some (.cells #[v] 22 (0, 0))
  m : w.heap[gm]? = some (.cells #[.map (some B)] 90 (0, 0))
  o : ∃ D : DataW Unit, w.ownsMap Try.prog 91 (plainElem Try.prog 3) B cnt D ∧ Learned D all n
  r : w.ownsRow w0.heap.size 5 1 v all.length (nums .u8 all)
  wf : WfB all
theorem own_map_fr {w w' : World} {ok : Nat → Prop} (f : Fr w w' ok) {B n : Nat} {D : DataW Unit} (h : w.ownsMap Try.prog 91 (plainElem Try.prog 3) B n D) (hB : ok B) : w'.ownsMap Try.prog 91 (plainElem Try.prog 3) B n D := by
  obtain ⟨es, clock, h1, h2⟩ := h
  exact ⟨es, clock, f.heap h1 hB, h2⟩
theorem EInv.fr {w0 w w' : World} {ga gm B cnt n : Nat} {v : Value} {all : List Int} {ok : Nat → Prop} (h : EInv w0 w ga gm B v all cnt n) (f : Fr w w' ok) (h0 : ∀ i, i < w0.heap.size → ok i) (h1 : ok ga) (h2 : ok gm) (h3 : ok B) (h4 : ∀ i, some i = v.ownBlock → ok i) : EInv w0 w' ga gm B v all cnt n := by
  obtain ⟨D, hD, hL⟩ := h.o
  exact ⟨h.B0.trans (f.below (fun i hi => ⟨Nat.lt_of_lt_of_le hi h.B0.size, h0 i hi⟩)), h.ha, h.hm, h.hB, f.heap h.a h1, f.heap h.m h2, ⟨D, own_map_fr f hD h3, hL⟩, own_fr f h.r h4, h.wf⟩
theorem EInv.keep {w0 w w' : World} {ga gm B cnt n : Nat} {v : Value} {all : List Int} (h : EInv w0 w ga gm B v all cnt n) (f : Fr w w' (fun _ => True)) : EInv w0 w' ga gm B v all cnt n :=
  h.fr f (fun _ _ => trivial) trivial trivial trivial (fun _ _ => trivial)
/-- The map's block is none of the others. -/
theorem EInv.ne {w0 w : World} {ga gm B cnt n : Nat} {v : Value} {all : List Int} (h : EInv w0 w ga gm B v all cnt n) : ga ≠ B ∧ gm ≠ B ∧ ∀ i, some i = v.ownBlock → i ≠ B := by
  obtain ⟨D, ⟨es, clock, hb, _⟩, _⟩ := h.o
  refine ⟨fun e => ?_, fun e => ?_, fun i hi e => ?_⟩
  · have := h.a; rw [e, hb] at this; cases this
  · have := h.m; rw [e, hb] at this; cases this
  · rcases h.r.2 with ⟨hn, _⟩ | ⟨g', cap, cur, e2, _, hh, _⟩
    · rw [hn] at hi; cases hi
    · rw [e2] at hi
      simp [Value.ownBlock] at hi
      rw [← hi, e, hb] at hh
      cases hh
theorem row_byte {w : World} {B g c : Nat} {all : List Int} (h : w.ownsRow B 5 1 (.slice (some ⟨g, 0, none⟩) all.length c) all.length (nums .u8 all)) (i : Nat) (hi : i < all.length) : w.cell? ⟨g, i, none⟩ = some (.int .u8 (all.getD i 0)) := by
  rw [World.ownsRow.cellAt h i (by omega)]
  simp [nums, List.getElem?_map, List.getD_eq_getElem?_getD, List.getElem?_eq_getElem hi]
theorem run_arrayAt (W : World) (A : Option Addr) (len cap : Nat) (h : 4 ≤ len) : (Instr.arrayAt 91 (.slice A len cap)).run Try.prog W = .ok (.pointer A) W := by
  unfold Instr.arrayAt
  simp [run_underlying Try.underlying91, Result.andThen]
  intro h'
  omega
theorem key4_list {all : List Int} {n : Nat} (h : n + 4 ≤ all.length) : key4 all n = [all.getD n 0, all.getD (n + 1) 0, all.getD (n + 2) 0, all.getD (n + 3) 0] := by
  unfold key4
  rw [drop_cons2 (show n < all.length by omega), drop_cons2 (show n + 1 < all.length by omega), drop_cons2 (show n + 1 + 1 < all.length by omega), drop_cons2 (show n + 1 + 1 + 1 < all.length by omega)]
  rfl
set_option maxHeartbeats 2000000 in
set_option maxRecDepth 100000 in
theorem learn_calls (w0 : World) (ga gm B : Nat) (v : Value) (all : List Int) (cnt n : Nat) (w : World) (h : EInv w0 w ga gm B v all cnt n) (hn : n ≤ 1099511627776) (hl : all.length ≤ 1099511627776) (hc : cnt ≤ 1099511627776) :
    Calls Try.prog 58 #[.int .i64 (n : Int), .pointer (some ⟨ga, 0, none⟩), .pointer (some ⟨gm, 0, none⟩)] w fun e w' => e = .returned (.tuple #[]) ∧ EInv w0 w' ga gm B v all (cnt + 1) (n + 1) ∧ Fr w w' (fun i => i ≠ B) := by
  have HI := Aside0.mk h
  have xa : w.cell? ⟨ga, 0, none⟩ = some v := cell_of_one h.a
  have xm : w.cell? ⟨gm, 0, none⟩ = some (.map (some B)) := cell_of_one h.m
  obtain ⟨D, hD, hL⟩ := h.o
  have HD := Aside0.mk hD
  have HL := Aside0.mk hL
  clear hD hL
  by_cases hle : n + 4 ≤ all.length
  · have h4 : (n : Int) + 4 ≤ (all.length : Int) := by omega
    obtain ⟨g, c, rfl, hcap⟩ := own_slice2 h.r (by omega)
    have b0 := row_byte h.r n (by omega)
    have b1 := row_byte h.r (n + 1) (by omega)
    have b2 := row_byte h.r (n + 2) (by omega)
    have b3 := row_byte h.r (n + 3) (by omega)
    have hk := key4_list hle
    have hw : ∀ i, i < all.length → (Lit.int .u8 (all.getD i 0)).wf = true := fun i hi => h.wf _ (by rw [List.getD_eq_getElem?_getD, List.getElem?_eq_getElem hi]; exact List.getElem_mem hi)
    have hkey := keyOf4 (hw n (by omega)) (hw (n + 1) (by omega)) (hw (n + 2) (by omega)) (hw (n + 3) (by omega))
    rw [← hk] at hkey
    have HLP := Aside0.mk (HL.out.put h.wf hle)
    have HNE := Aside0.mk h.ne
    generalize key4 all n = q at hk hkey HLP
    generalize all.getD n 0 = x0 at b0 hkey
    generalize all.getD (n + 1) 0 = x1 at b1 hkey
    generalize all.getD (n + 2) 0 = x2 at b2 hkey
    generalize all.getD (n + 3) 0 = x3 at b3 hkey
    have HKEY := Aside0.mk hkey
    clear hk hw hkey
    have HLE := Aside0.mk hle
    have h5 : (n : Int) ≤ (all.length : Int) := by omega
    have h6 : (all.length : Int) ≤ (c : Int) := by omega
    have h7 : (0 : Int) ≤ (n : Int) := by omega
    have h8 : ¬ c = n := by omega
    have hat := fun W => run_arrayAt W (some ⟨g, n, none⟩) (all.length - n) (c - n) (by omega)
    clear h hle
    go_enter Try.func58, Try.ntmps58
    go_upto_region 1 with fail
    refine QTail.wp_region_tail (C := fun w' => ∃ n, w' = w.drewN n) 7 (by kernel_rfl) (by kernel_rfl) ⟨1, rfl⟩ ?_
    simp only [List.take_succ_cons, List.take_zero, List.drop_succ_cons, List.drop_zero]
    repeat (quiet_step (fail))
    refine wpQuiet_nil ?_
    intro _ hw'
    obtain ⟨nq, hw''⟩ := hw'
    subst hw''
    have HI2 := Aside0.mk (HI.out.keep (Fr.drewN nq _))
    have HD2 := Aside0.mk (own_map_fr (Fr.drewN nq (fun _ => True)) HD.out trivial)
    have HF2 := Aside0.mk (Fr.drewN (w := w) nq (fun i => i ≠ B))
    clear HI HD xa xm b0 b1 b2 b3 hat
    generalize w.drewN nq = w2 at HI2 HD2 HF2 ⊢
    go_wp2_with (at_mapUpdate; refine wpList_mapUpdate_own _ rfl _ _ _ 90 rfl 91 3 keyed91 Try.underlying90 _ B cnt D rfl HD2.out (by unfold maxLen; omega) _ _ _ rfl rfl HKEY.out _ [] (plainElem_int Try.underlying3 (by simp [Lit.wf, show IntKind.i64.min = -9223372036854775808 from rfl, show IntKind.i64.max = 9223372036854775807 from rfl]; omega)) ?_; intro w1 hown1 hgrow1)
    go_end0
    have f := Fr.of_grown hgrow1
    have f' : Fr w2 w1 (fun i => i ≠ B) := f.mono (fun i _ hi e => hi (by injection e))
    refine ⟨rfl, ?_, HF2.out.then f'⟩
    have hi := HI2.out
    have hne := HNE.out
    exact ⟨hi.B0.trans (f'.below (fun i hlt => ⟨Nat.lt_of_lt_of_le hlt hi.B0.size, by have := hi.hB; omega⟩)), hi.ha, hi.hm, hi.hB, f'.heap hi.a hne.1, f'.heap hi.m hne.2.1, ⟨_, hown1, HLP.out⟩, own_fr f' hi.r hne.2.2, hi.wf⟩
  · have h4 : ¬ (n : Int) + 4 ≤ (all.length : Int) := by omega
    have HS := Aside0.mk (show EInv w0 w ga gm B v all (cnt + 1) (n + 1) from { h with o := ⟨D, HD.out.mono (Nat.le_succ _), HL.out.skip hle⟩ })
    clear h hle
    obtain ⟨A, c, rfl⟩ := own_slice HS.out.r
    go_enter Try.func58, Try.ntmps58
    go_wp2
    go_end0
    exact ⟨rfl, HS.out, Fr.refl _ _⟩
end Go.Proofs.Ytnomebkdhjigjaa.W
/- slices.Grow of nothing, slices.Concat of two rows of bytes: contracts. -/
namespace Go.Proofs.Ytnomebkdhjigjaa.W
open Go.RowKit Go.Proofs.YtnomebkdhjigjaaW.PrintWords Go.Proofs.YtnomebkdhjigjaaW.PrintLast Go.Proofs.YtnomebkdhjigjaaW.PrintMore
set_option linter.unusedVariables false
set_option linter.unusedSimpArgs false
/-- append at the operation, its run at hand. -/
theorem append_run {P : Program} {w w1 : World} {ops : Array Oper} {rest : List Oper} {o : Oper} {a : Act} {Q : Exit → Act → World → Prop} (hgd : o.guard = none) (s x : Operand) (t u : TypeId)
    (ho : o.op = .call { callee := .builtin .append, args := #[s, x], argTypes := #[t, u] }) (vs vx : Value) (hs : a.eval s = vs) (hx : a.eval x = vx) (v : Value) (hr : (Builtin.append_ #[t, u] o.type #[vs, vx]).run P w = .ok v w1)
    (h : wpList P ops Q rest (a.put o.dst v) w1) : wpList P ops Q (o :: rest) a w := by
  refine wpList_plain hgd fun K hK => ?_
  unfold Oper.wp execOp
  simp only [ho, resolve, invoke, builtin, Sem.run_bind, Sem.run_pure, Result.andThen_ok, List.map_toArray, List.map_cons, List.map_nil, hs, hx, hr]
  exact hK _ _ h
set_option maxHeartbeats 2000000 in
set_option maxRecDepth 100000 in
theorem Grow_calls (n : Nat) (w : World) (hn : n ≤ 140737488355328) :
    Calls Try.prog 92 #[.slice none 0 0, .int .i64 (n : Int)] w fun e w' => ∃ v, e = .returned v ∧ w'.ownsRow w.heap.size 5 1 v ([] : List Int).length (nums .u8 []) ∧ Below w.heap.size w w' := by
  obtain ⟨i0, hi, hz0, hz1, hz2⟩ := info_parts info5
  have h0 : (0 : Int) ≤ (n : Int) := by omega
  have h1 : ¬ ((n : Int) < 0) := by omega
  by_cases h : n = 0
  · subst h
    clear hi hz0 hz1 hz2
    go_enter Try.func92, Try.ntmps92
    go_wp2
    go_ret
    exact ⟨_, rfl, own_nil _ _ _ _, Below.refl _ _⟩
  · have hp : (0 : Int) < (n : Int) := by omega
    have hap := Lib.run_append_nil_zeros (P := Try.prog) w 22 3 22 5 i0 (.int .u8 0) .i64 .i64 Try.underlying22 Try.underlying3 hi hz0 n (by omega) (by omega) (by omega) (by rw [hz2]; omega)
    have hge := grownCap_ge w n 0 5
    have hle := grownCap_le_maxLen w n 0 5 (Nat.le_trans hn (by decide))
    obtain ⟨cp, hcp⟩ : ∃ cp, cp = grownCap w n 0 5 := ⟨_, rfl⟩
    rw [← hcp] at hap hge hle
    obtain ⟨cs, hcs⟩ : ∃ cs, cs = Builtin.zeroCells (Value.int IntKind.u8 0).cells n ++ Builtin.zeroCells (Value.int IntKind.u8 0).cells (cp - n) := ⟨_, rfl⟩
    rw [← hcs] at hap
    have hsz : cs.size = cp := by rw [hcs]; simp [Builtin.zeroCells, Value.cells]; omega
    have HO := Aside0.mk (show (w.drew.alloc (.cells cs 5)).ownsRow w.heap.size 5 1 (.slice (some ⟨w.heap.size, 0, none⟩) 0 cp) ([] : List Int).length (nums .u8 []) from
      ⟨by simp [nums], .inr ⟨w.heap.size, cp, cs, rfl, Nat.le_refl _, heap_alloc_new w.drew _, by simp, hle, by omega, by simp [nums]⟩⟩)
    have HAP := Aside0.mk hap
    have HB := Aside0.mk (below_alloc (below_drew (Below.refl w.heap.size w)) (.cells cs 5))
    have hcpi : (n : Int) ≤ (cp : Int) := by omega
    have hcp0 : (0 : Int) ≤ (cp : Int) := by omega
    clear hi hz0 hz1 hz2 hcs hsz hcp h hge hle hap
    generalize hwq : w.drew.alloc (.cells cs 5) = wq at HO HAP HB
    clear hwq
    generalize w.heap.size = g at HO HAP HB ⊢
    go_enter Try.func92, Try.ntmps92
    go_wp2_with (at_builtin; refine append_run rfl (.tmp 20) (.tmp 21) 22 3 rfl _ _ rfl rfl _ HAP.out ?_)
    go_ret
    exact ⟨_, rfl, HO.out, HB.out⟩
set_option maxHeartbeats 2000000 in
set_option maxRecDepth 100000 in
/-- Concat of two. -/
theorem Concat_calls (g c : Nat) (A1 A2 : Option Addr) (c1 c2 : Nat) (l1 l2 : List Int) (w : World) (h1 : w.cell? ⟨g, 0, none⟩ = some (.slice A1 l1.length c1)) (h2 : w.cell? ⟨g, 1, none⟩ = some (.slice A2 l2.length c2))
    (r1 : ReadsInt w .u8 A1 l1.length l1) (r2 : ReadsInt w .u8 A2 l2.length l2) (hl1 : l1.length ≤ 1099511627776) (hl2 : l2.length ≤ 1099511627776) :
    Calls Try.prog 57 #[.slice (some ⟨g, 0, none⟩) 2 c] w fun e w' => ∃ v, e = .returned v ∧ w'.ownsRow w.heap.size 5 1 v (l1 ++ l2).length (nums .u8 (l1 ++ l2)) ∧ Below w.heap.size w w' := by
  have HL := Aside0.mk (And.intro hl1 hl2)
  have X1 := Aside0.mk h1
  have X2 := Aside0.mk h2
  have HG := Aside0.mk (fun W => Grow_calls (l1.length + l2.length) W (by omega))
  obtain ⟨n1, hn1⟩ : ∃ n1, n1 = l1.length := ⟨_, rfl⟩
  obtain ⟨n2, hn2⟩ : ∃ n2, n2 = l2.length := ⟨_, rfl⟩
  rw [← hn1] at h1 hl1 HG r1 X1
  rw [← hn2] at h2 hl2 HG r2 X2
  have R1 := Aside0.mk r1
  have R2 := Aside0.mk r2
  have HN1 := Aside0.mk hn1
  have HN2 := Aside0.mk hn2
  clear r1 r2 hn1 hn2
  go_enter Try.func57, Try.ntmps57
  go_wp2_with fail
  go_loopg [3, 5, 11] 2 (fun kq v3 v5 v11 wc => w = wc ∧ ((kq = 2 ∧ v11 = .int .i64 0 ∧ v3 = .int .i64 0) ∨ (kq = 1 ∧ v11 = .int .i64 1 ∧ v3 = .int .i64 (n1 : Int)) ∨ (kq = 0 ∧ v11 = .int .i64 2 ∧ v3 = .int .i64 ((n1 : Int) + (n2 : Int)))))
  case atStart => exact ⟨rfl, .inl ⟨rfl, rfl, rfl⟩⟩
  case round =>
    obtain ⟨rfl, hrel⟩ := hrel
    rcases hrel with ⟨rfl, rfl, rfl⟩ | ⟨rfl, rfl, rfl⟩ | ⟨rfl, rfl, rfl⟩
    · go_wp2_with fail
      go_roundg 1
      case measure => omega
      case rel => exact ⟨rfl, .inr (.inl ⟨rfl, rfl, by simp⟩)⟩
    · have hs : ¬ ((n1 : Int) + (n2 : Int) < 0) := by omega
      go_wp2_with fail
      go_roundg 0
      case measure => omega
      case rel => exact ⟨rfl, .inr (.inr ⟨rfl, rfl, by simp⟩)⟩
    · rw [show (n1 : Int) + (n2 : Int) = ((n1 + n2 : Nat) : Int) by omega]
      have HGw := Aside0.mk (HG.out w)
      clear HG
      go_upto_region 10 with (go_at_call 92; refine HGw.out.mono ?_; rintro e w1 ⟨v1, rfl, ho1, hb1⟩; have HO1 := Aside0.mk ho1; have HB1 := Aside0.mk hb1; clear ho1 hb1)
      clear HGw
      go_wp2_with fail
      go_loopg [6, 8, 27] 2 (fun kq v6 v8 v27 wc => ∃ L : List Int, Aside0 (wc.ownsRow w.heap.size 5 1 v6 L.length (nums .u8 L)) ∧ Aside0 (Below w.heap.size w wc) ∧ ((kq = 2 ∧ v27 = .int .i64 0 ∧ Aside0 (L = [])) ∨ (kq = 1 ∧ v27 = .int .i64 1 ∧ Aside0 (L = l1)) ∨ (kq = 0 ∧ v27 = .int .i64 2 ∧ Aside0 (L = l1 ++ l2))))
      case atStart => exact ⟨[], HO1, HB1, .inl ⟨rfl, rfl, ⟨rfl⟩⟩⟩
      case round =>
        clear HO1 HB1
        obtain ⟨L, HO, HB, hrel⟩ := hrel
        have x1 : wr.cell? ⟨g, 0, none⟩ = some (.slice A1 n1 c1) := (Fr.all HB.out).cell X1.out trivial
        have x2 : wr.cell? ⟨g, 1, none⟩ = some (.slice A2 n2 c2) := (Fr.all HB.out).cell X2.out trivial
        obtain ⟨A6, c6, rfl⟩ := own_slice HO.out
        rcases hrel with ⟨rfl, rfl, hL⟩ | ⟨rfl, rfl, hL⟩ | ⟨rfl, rfl, hL⟩
        · have HSZ := Aside0.mk (show (L.length + n1) * 1 ≤ 140737488355328 by rw [hL.out]; simp; omega)
          go_wp2_with (at_builtin; refine print_append_row (w0 := w) w.heap.size rfl (.tmp 31) (.tmp 32) 22 5 .u8 1 rfl Try.underlying22 info5 (by decide) _ L l1 A1 n1 c1 rfl rfl HO.out (R1.out.below HB.out) HB.out HB.out.size HSZ.out ?_; intro v4 w4 ho hb hg hat; have HO4 := Aside0.mk ho; have HB4 := Aside0.mk hb; clear ho hb hg hat)
          go_roundg 1
          case measure => omega
          case rel => exact ⟨L ++ l1, HO4, HB4, .inr (.inl ⟨rfl, by simp, ⟨by rw [hL.out, List.nil_append]⟩⟩)⟩
        · have HSZ := Aside0.mk (show (L.length + n2) * 1 ≤ 140737488355328 by rw [hL.out, ← HN1.out]; omega)
          go_wp2_with (at_builtin; refine print_append_row (w0 := w) w.heap.size rfl (.tmp 31) (.tmp 32) 22 5 .u8 1 rfl Try.underlying22 info5 (by decide) _ L l2 A2 n2 c2 rfl rfl HO.out (R2.out.below HB.out) HB.out HB.out.size HSZ.out ?_; intro v4 w4 ho hb hg hat; have HO4 := Aside0.mk ho; have HB4 := Aside0.mk hb; clear ho hb hg hat)
          go_roundg 0
          case measure => omega
          case rel => exact ⟨L ++ l2, HO4, HB4, .inr (.inr ⟨rfl, by simp, ⟨by rw [hL.out]⟩⟩)⟩
        · rw [hL.out] at HO ⊢
          go_wp2
          go_ret
          exact ⟨_, rfl, HO.out, HB.out⟩
end Go.Proofs.Ytnomebkdhjigjaa.W
/- lz.Encode's memory with the block that is made: lookup, learn, put. -/
namespace Go.Proofs.Ytnomebkdhjigjaa.W
open Go.RowKit Go.Proofs.Ytnomebkdhjigjaa.Z Go.Maps Go.Proofs.YtnomebkdhjigjaaW.PrintWords Go.Proofs.YtnomebkdhjigjaaW.PrintLast Go.Proofs.YtnomebkdhjigjaaW.PrintMore
set_option linter.unusedVariables false
set_option linter.unusedSimpArgs false
set_option maxRecDepth 100000 in
theorem look4 {w : World} {B cnt n : Nat} {D : DataW Unit} {all q : List Int} {key : Value} (h : w.ownsMap Try.prog 91 (plainElem Try.prog 3) B cnt D) (hL : Learned D all n) (hq : q.length = 4) (hw : WfB q) (hkey : keyOf Try.prog 91 key = some (lit4 q)) :
    ∃ c : Int, (∀ m, (Instr.lookup 90 (.map (some B)) key true).run Try.prog (w.drewN m) = .ok (.tuple #[.int .i64 c, .bool (find4 all n q).isSome]) (w.drewN m)) ∧ ∀ k, find4 all n q = some k → c = (k : Int) := by
  have step : ∀ m, ∃ c : Int, (Instr.lookup 90 (.map (some B)) key true).run Try.prog (w.drewN m) = .ok (.tuple #[.int .i64 c, .bool (find4 all n q).isSome]) (w.drewN m) ∧ D.atKey (lit4 q) (.lit (.int .i64 0)) = .lit (.int .i64 c) := fun m => by
    obtain ⟨v, ps, hrun, hv⟩ := (own_map_fr (Fr.drewN m (fun _ => True)) h trivial).look_ok keyed91 Try.underlying90 (zero3 _) (zd := .lit (.int .i64 0)) (zp := []) (plainElem_int Try.underlying3 (by decide)) hkey
    obtain ⟨c, rfl, hc, _⟩ := plainElem_int_inv Try.underlying3 hv
    rw [hL.has q hq hw] at hrun
    exact ⟨c, hrun, congrArg Prod.fst hc⟩
  obtain ⟨c, _, hc⟩ := step 0
  refine ⟨c, fun m => ?_, fun k hk => ?_⟩
  · obtain ⟨c', hr, hc'⟩ := step m
    rw [hc] at hc'
    injection hc' with hc'
    injection hc' with _ hc'
    rw [hc']
    exact hr
  · have := hL.at' q hq hw k hk
    rw [hc] at this
    injection this with this
    injection this
structure LInv (w0 w : World) (ga gm B : Nat) (va : Value) (all : List Int) (cnt n : Nat) (vb : Value) (lb : List Int) : Prop where
  e : EInv w0 w ga gm B va all cnt n
  b : w.ownsRow w0.heap.size 5 1 vb lb.length (nums .u8 lb)
  ne : ∀ i, some i = va.ownBlock → some i ≠ vb.ownBlock
theorem LInv.neB {w0 w : World} {ga gm B cnt n : Nat} {va vb : Value} {all lb : List Int} (h : LInv w0 w ga gm B va all cnt n vb lb) : ∀ i, some i = vb.ownBlock → i ≠ B ∧ i ≠ ga ∧ i ≠ gm := by
  obtain ⟨D, ⟨es, clock, hb, _⟩, _⟩ := h.e.o
  intro i hi
  rcases h.b.2 with ⟨hn, _⟩ | ⟨g', cap, cur, e2, _, hh, _⟩
  · rw [hn] at hi; cases hi
  · rw [e2] at hi
    simp [Value.ownBlock] at hi
    subst hi
    refine ⟨fun e => ?_, fun e => ?_, fun e => ?_⟩
    · rw [e, hb] at hh; cases hh
    · rw [e, h.e.a] at hh; cases hh
    · rw [e, h.e.m] at hh; cases hh
theorem LInv.keep {w0 w w' : World} {ga gm B cnt n : Nat} {va vb : Value} {all lb : List Int} (h : LInv w0 w ga gm B va all cnt n vb lb) (f : Fr w w' (fun _ => True)) : LInv w0 w' ga gm B va all cnt n vb lb :=
  ⟨h.e.keep f, own_fr f h.b (fun _ _ => trivial), h.ne⟩
theorem LInv.learn {w0 w w' : World} {ga gm B cnt n cnt' n' : Nat} {va vb : Value} {all lb : List Int} (h : LInv w0 w ga gm B va all cnt n vb lb) (e : EInv w0 w' ga gm B va all cnt' n') (f : Fr w w' (fun i => i ≠ B)) : LInv w0 w' ga gm B va all cnt' n' vb lb :=
  ⟨e, own_fr f h.b (fun i hi => (h.neB i hi).1), h.ne⟩
/-- A cut of the bytes. -/
theorem cut_C {w : World} {B g c : Nat} {all : List Int} (h : w.ownsRow B 5 1 (.slice (some ⟨g, 0, none⟩) all.length c) all.length (nums .u8 all)) (fr tt : Nat) (hft : fr ≤ tt) (ht : tt ≤ all.length) (hl : all.length ≤ 1099511627776) (A : Option Addr) (hA : fr < tt → A = some ⟨g, fr, none⟩) :
    Kd.C (Kd.int .u8) w A ((all.take tt).drop fr).length ((all.take tt).drop fr) := by
  have hlen : ((all.take tt).drop fr).length = tt - fr := by rw [List.length_drop, List.length_take]; omega
  refine Kd.C_of_reads (enc := Value.int .u8) (d := (0 : Int)) (h1 := fun _ => rfl) ⟨rfl, by rw [hlen]; omega, fun h0 => ?_⟩
  rw [hlen] at h0
  refine ⟨_, hA (by omega), fun i hi => ?_⟩
  rw [hlen] at hi
  have e : (⟨g, fr, none⟩ : Addr).add i = ⟨g, fr + i, none⟩ := by
    unfold Addr.add
    split
    · rename_i h; rw [h]; rfl
    · rfl
  rw [e, row_byte h (fr + i) (by omega)]
  congr 2
  rw [List.getD_eq_getElem?_getD, List.getD_eq_getElem?_getD, List.getElem?_drop, List.getElem?_take, if_pos (by omega)]
/-- put. -/
theorem put_calls (w0 : World) (ga gm B cnt n : Nat) (va vb : Value) (all lb : List Int) (w : World) (h : LInv w0 w ga gm B va all cnt n vb lb) (A : Option Addr) (c : Nat) (s : S44) (hs : OkS s) (h0 : s.f0.length ≤ 4194304) (h2 : s.f2 ≤ 4194304) (hx : lb.length < 140737000000000)
    (hC : ∀ W, w.ownsRow w0.heap.size 5 1 va all.length (nums .u8 all) → W.ownsRow w0.heap.size 5 1 va all.length (nums .u8 all) → Kd.C (Kd.int .u8) W A s.f0.length s.f0) (hc : s.f0.length ≤ c) :
    Calls Try.prog 59 #[vb, .agg #[.slice A s.f0.length c, .int .i64 s.f1, .int .i64 s.f2]] w fun e w' => ∃ vb', e = .returned vb' ∧ LInv w0 w' ga gm B va all cnt n vb' (lb ++ putP s) := by
  have hlt : ∀ i, some i = va.ownBlock → i < w.heap.size := fun i hi => (own_ge h.e.r i hi).2
  have hkf : ∀ W, Kept w W (fun k => some k = vb.ownBlock) → ∀ i, some i = va.ownBlock → W.heap[i]? = w.heap[i]? := fun W hk i hi => hk.2 i (hlt i hi) (fun e => h.ne i hi e)
  refine (lz_put.calls 20001 (fun k => some k = vb.ownBlock) vb lb A c s.f0 s.f1 s.f2 (lb ++ putP s) w0 w h.e.B0 (Kd.R_of_own h.b (fun k hk => hk.symm)) (fun W hk => hC W h.e.r ?_) hc (lzput_f 20001 lb s hs h0 h2 (by decide) hx)).mono ?_
  · rcases h.e.r.2 with ⟨hn, h1⟩ | ⟨g', cap, cur, e2, hge, hh, hr⟩
    · exact ⟨h.e.r.1, .inl ⟨hn, h1⟩⟩
    · exact ⟨h.e.r.1, .inr ⟨g', cap, cur, e2, hge, by rw [hkf W hk g' (by rw [e2]; rfl)]; exact hh, hr⟩⟩
  · rintro e w' ⟨vb', rfl, hR, hB, hk⟩
    have f : Fr w w' (fun i => some i ≠ vb.ownBlock) := ⟨hB.os.trans h.e.B0.os.symm, hB.tape.trans h.e.B0.tape.symm, hB.output.trans h.e.B0.output.symm, hk.1, fun i hi hn => hk.2 i hi hn⟩
    have hnb := h.neB
    have hvb : ∀ i, some i = vb.ownBlock → w0.heap.size ≤ i := fun i hi => (own_ge h.b i hi).1
    refine ⟨vb', rfl, ?_, Kd.own_of_R hR, fun i hi e => ?_⟩
    · exact h.e.fr f (fun i hi e => by have := hvb i e; omega) (fun e => (hnb _ e).2.1 rfl) (fun e => (hnb _ e).2.2 rfl) (fun e => (hnb _ e).1 rfl) (fun i hi e => h.ne i hi e)
    · rcases hR.1 i e.symm with h1 | h1
      · exact h.ne i hi h1
      · have := hlt i hi; omega
end Go.Proofs.Ytnomebkdhjigjaa.W
/- Contract of lz.Encode: its block and the error, as a plain function. Conditions: bytes are bytes, fewer than 2^40. -/
namespace Go.Proofs.Ytnomebkdhjigjaa.W
open Go.RowKit Go.Proofs.Ytnomebkdhjigjaa.Z Go.Maps Go.Proofs.YtnomebkdhjigjaaW.PrintWords Go.Proofs.YtnomebkdhjigjaaW.PrintLast Go.Proofs.YtnomebkdhjigjaaW.PrintMore
set_option linter.unusedVariables false
set_option linter.unusedSimpArgs false
set_option maxHeartbeats 8000000 in
set_option maxRecDepth 100000 in
theorem Encode_calls (A A2 : Option Addr) (c c2 : Nat) (plain ahead : List Int) (w : World) (hr : ReadsInt w .u8 A plain.length plain) (hc : plain.length ≤ c) (hb : WfB plain) (hl : plain.length ≤ 1099511627776) (hr2 : ReadsInt w .u8 A2 ahead.length ahead) (hc2 : ahead.length ≤ c2) (hb2 : WfB ahead) (hl2 : ahead.length ≤ 1099511627776) :
    Calls Try.prog 28 #[.slice A plain.length c, .slice A2 ahead.length c2] w fun e w' => ∃ v, e = .returned (.tuple #[v, .int .i64 (encode plain ahead).2]) ∧
      w'.ownsRow w.heap.size 5 1 v (encode plain ahead).1.length (nums .u8 (encode plain ahead).1) ∧ Below w.heap.size w w' := by
  by_cases hm : plain.length > 4194304
  · have e1 : encode plain ahead = ([], 2) := if_pos hm
    rw [e1]
    have hm2 : (plain.length : Int) > 4194304 := by omega
    clear hr hr2
    go_enter Try.func28, Try.ntmps28
    go_wp2
    go_ret2
    exact ⟨_, rfl, own_nil _ _ _ _, Below.refl _ _⟩
  · have e1 : encode plain ahead = ((encA plain ahead).flatMap putP, 0) := if_neg hm
    have hm2 : ¬ (plain.length : Int) > 4194304 := by omega
    rw [e1]
    clear e1
    obtain ⟨TT, hTT⟩ : ∃ TT, TT = (encA plain ahead).flatMap putP := ⟨_, rfl⟩
    rw [← hTT]
    have HTT := Aside0.mk hTT
    clear hTT
    obtain ⟨wd, hwd⟩ : ∃ wd, wd = window ahead := ⟨_, rfl⟩
    have hwl := (window_len ahead).1
    rw [← hwd] at hwl
    have HWD := Aside0.mk hwd
    have hwb : WfB wd := fun x hx => by
      rw [hwd] at hx
      unfold window at hx
      split at hx
      · exact hb2 x (List.mem_of_mem_drop hx)
      · exact hb2 x hx
    have HR := Aside0.mk hr
    have HR2 := Aside0.mk hr2
    have HWF := Aside0.mk (And.intro hb hwb)
    have HLEN := Aside0.mk (And.intro hl hl2)
    clear hr hr2 hb hb2 hwb hwd
    go_enter Try.func28, Try.ntmps28
    go_upto_if 22 with fail
    go_cut [1] (fun v1 wc => w = wc ∧ ∃ A3 c3, v1 = .slice A3 wd.length c3 ∧ wd.length ≤ c3 ∧ Aside0 (ReadsInt w .u8 A3 wd.length wd))
    case first =>
      by_cases h : 65536 ≤ ahead.length
      · obtain ⟨i05, hi05, _, hsz5, _⟩ := info_parts info5
        obtain ⟨A1, hcut, hA1⟩ := print_cut (P := Try.prog) 22 5 .i64 Try.underlying22 hi05 hsz5 A2 ahead.length c2 (ahead.length - 65535) (by omega)
        have hr1 := hA1 w .u8 ahead hc2 HR2.out
        have ew : wd = ahead.drop (ahead.length - 65535) := by rw [HWD.out]; exact if_pos h
        have eL : ahead.length - (ahead.length - 65535) = wd.length := by rw [ew, List.length_drop]
        rw [← ew, eL] at hr1
        rw [eL] at hcut
        obtain ⟨q, hq⟩ : ∃ q : Nat, q = ahead.length - 65535 := ⟨_, rfl⟩
        rw [← hq] at hcut
        have e1 : (ahead.length : Int) - 65536 + 1 = (q : Int) := by omega
        have hge : (ahead.length : Int) ≥ 65536 := by omega
        have hcut' : ∀ W : World, (Instr.slice 22 (.slice A2 ahead.length c2) (some (.int .i64 (q : Int))) none none).run Try.prog W = .ok (.slice A1 wd.length (c2 - q)) W := hcut
        have hcq : wd.length ≤ c2 - q := by omega
        have hgb : decide ((65536 : Int) ≤ (ahead.length : Int)) = true := decide_eq_true hge
        have HR1 := Aside0.mk hr1
        clear hA1 hi05 hsz5 hr1 ew eL hq hcut h
        rw [hgb]
        clear hgb
        go_wp2_with fail
        go_meet
        case rel => exact ⟨rfl, A1, c2 - q, rfl, hcq, HR1⟩
      · have hge : ¬ (ahead.length : Int) ≥ 65536 := by omega
        have ew : wd = ahead := by rw [HWD.out]; exact if_neg h
        have HEW := Aside0.mk ew
        have hgb : decide ((65536 : Int) ≤ (ahead.length : Int)) = false := decide_eq_false hge
        clear ew h
        rw [hgb]
        clear hgb
        go_wp2_with fail
        go_meet
        case rel => exact ⟨rfl, A2, c2, by rw [HEW.out], by rw [HEW.out]; exact hc2, ⟨by rw [HEW.out]; exact HR2.out⟩⟩
    case rest =>
      obtain ⟨hw1, A3, c3, rfl, hc3, HR3⟩ := hcut
      subst hw1
      clear HR2
      have HG := Aside0.mk hc3
      clear hc2 hc3
      obtain ⟨all, hall⟩ : ∃ all, all = wd ++ plain := ⟨_, rfl⟩
      have hal : all.length = wd.length + plain.length := by rw [hall, List.length_append]
      have HALL := Aside0.mk hall
      have HAL := Aside0.mk hal
      clear hal
      have hq1 : (w.alloc (.cells #[.slice A3 wd.length c3, .slice A plain.length c] 22)).cell? ⟨w.heap.size, 0, none⟩ = some (.slice A3 wd.length c3) := cell_of_row _ _ 0 _ 22 (0, 0) (heap_alloc_new w _)
      have hq2 : (w.alloc (.cells #[.slice A3 wd.length c3, .slice A plain.length c] 22)).cell? ⟨w.heap.size, 1, none⟩ = some (.slice A plain.length c) := cell_of_row _ _ 1 _ 22 (0, 0) (heap_alloc_new w _)
      have hba := below_alloc (Below.refl w.heap.size w) (.cells #[.slice A3 wd.length c3, .slice A plain.length c] 22)
      have hcc := Concat_calls w.heap.size 2 A3 A c3 c wd plain _ hq1 hq2 (HR3.out.below hba) (HR.out.below hba) (by omega) hl
      rw [← hall] at hcc
      have HCC := Aside0.mk hcc
      have HBA := Aside0.mk hba
      clear hcc hba hq1 hq2 hall
      have hmm := @run_makeMap Try.prog
      go_upto_region 8 with (go_at_call 57; refine HCC.out.mono ?_; rintro e w1 ⟨va, rfl, ho1, hb1⟩; obtain ⟨Aa, ca, ea⟩ := own_slice ho1; subst ea; have HO1 := Aside0.mk ho1; have HB1 := Aside0.mk hb1; clear ho1 hb1)
      clear HCC hmm
      obtain ⟨va, hva⟩ : ∃ va, va = Value.slice Aa all.length ca := ⟨_, rfl⟩
      have HE := Aside0.mk (show EInv w (((w1.alloc (.cells #[.slice Aa all.length ca] 22)).alloc (.map #[] 0)).alloc (.cells #[.map (some (w1.heap.size + 1))] 90)) w1.heap.size (w1.heap.size + 1 + 1) (w1.heap.size + 1) va all 0 0 from by
        have hb01 := below_step HBA.out HB1.out
        have f2 := (Fr.alloc (w := w1.alloc (.cells #[.slice Aa all.length ca] 22)) (.map #[] 0) (fun _ => True))
        have f3 := (Fr.alloc (w := (w1.alloc (.cells #[.slice Aa all.length ca] 22)).alloc (.map #[] 0)) (.cells #[.map (some (w1.heap.size + 1))] 90) (fun _ => True))
        have hs1 : (w1.alloc (.cells #[.slice Aa all.length ca] 22)).heap.size = w1.heap.size + 1 := by simp
        have hs2 : ((w1.alloc (.cells #[.slice Aa all.length ca] 22)).alloc (.map #[] 0)).heap.size = w1.heap.size + 1 + 1 := by simp
        have hsz := hb01.size
        refine ⟨below_alloc (below_alloc (below_alloc hb01 _) _) _, hsz, by omega, by omega, ?_, ?_, ?_, ?_, ?_⟩
        · rw [hva]
          exact f3.heap (f2.heap (heap_alloc_new w1 _) trivial) trivial
        · have h := heap_alloc_new ((w1.alloc (.cells #[.slice Aa all.length ca] 22)).alloc (.map #[] 0)) (.cells #[.map (some (w1.heap.size + 1))] 90)
          rw [hs2] at h
          exact h
        · have h := World.ownsMap_made (H := Unit) (w1.alloc (.cells #[.slice Aa all.length ca] 22)) Try.prog 91 (plainElem Try.prog 3)
          rw [hs1] at h
          exact ⟨_, h.alloc _, Learned.zero all⟩
        · rw [hva]
          exact own_fr ((Fr.alloc (w := w1) (.cells #[.slice Aa all.length ca] 22) (fun _ => True)).then (f2.then f3)) (own_lower HO1.out HBA.out.size) (fun _ _ => trivial)
        · rw [HALL.out]
          intro x hx
          rcases List.mem_append.1 hx with hx | hx
          · exact HWF.out.2 x hx
          · exact HWF.out.1 x hx)
      clear HO1 HB1 HBA
      generalize ((w1.alloc (.cells #[.slice Aa all.length ca] 22)).alloc (.map #[] 0)).alloc (.cells #[.map (some (w1.heap.size + 1))] 90) = w2 at HE ⊢
      generalize w1.heap.size + 1 + 1 = gm at HE ⊢
      generalize w1.heap.size + 1 = B at HE ⊢
      generalize w1.heap.size = ga at HE ⊢
      have HVA := Aside0.mk hva
      clear hva
      go_wp2_with fail
      go_loopg [9, 37] wd.length (fun kq v9 v37 wc => ∃ i : Nat, kq + i = wd.length ∧ v37 = .int .i64 (i : Int) ∧ Aside0 (EInv w wc ga gm B va all i i))
      case atStart => exact ⟨0, by omega, rfl, HE⟩
      case round =>
        clear HE
        obtain ⟨i, hk, rfl, HE⟩ := hrel
        cases gk with
        | succ kq =>
          have hi0 : (i : Int) < (wd.length : Int) := by omega
          have HK := Aside0.mk hk
          have HLC := Aside0.mk (learn_calls w ga gm B va all i i wr HE.out (by omega) (by have := HAL.out; have := HLEN.out.1; omega) (by omega))
          clear hk
          go_wp2_with (go_at_call 58; refine HLC.out.mono ?_; rintro e w3 ⟨rfl, he3, hf3⟩; have HE3 := Aside0.mk he3; clear he3 hf3)
          go_roundg kq
          case measure => omega
          case rel => exact ⟨i + 1, by have := HK.out; omega, by simp, HE3⟩
        | zero =>
          have hi0 : ¬ (i : Int) < (wd.length : Int) := by omega
          have hiw : i = wd.length := by omega
          subst hiw
          clear hk
          have hT0 : (encL all (all.length + 1) wd.length wd.length).flatMap putP = TT := by
            rw [HTT.out]
            unfold encA
            rw [← HWD.out, ← HALL.out]
          have hTL : (TT.length : Int) ≤ 1099520020000 := by
            have h := (encL_facts all 0 1099511627776000 (by have := HAL.out; have := HLEN.out.1; omega) (all.length + 1) wd.length wd.length (Nat.le_refl _) (by have := HAL.out; omega)).2.2.1
            rw [hT0] at h
            have := HAL.out
            have := HLEN.out.1
            omega
          have HT0 := Aside0.mk hT0
          have HTL := Aside0.mk hTL
          clear hT0 hTL HTT
          have hwdl := HAL.out
          have hpl := HLEN.out.1
          have hwal : wd.length ≤ all.length := by omega
          have hall : all.length ≤ 4259839 := by omega
          clear hwdl hi0
          go_wp2_with fail
          go_loopg [10, 11, 12, 13, 14, 15, 16] (all.length + 1) (fun kq v10 v11 v12 v13 v14 v15 v16 wc => ∃ (fr i : Nat) (lb : List Int), v11 = .int .i64 (fr : Int) ∧ v12 = .int .i64 (i : Int) ∧ Aside0 (wd.length ≤ fr ∧ fr ≤ i ∧ i ≤ all.length ∧ all.length < kq + i) ∧ Aside0 (LInv w wc ga gm B va all i i v10 lb) ∧ Aside0 (lb ++ (encL all kq fr i).flatMap putP = TT))
          case atStart => exact ⟨wd.length, wd.length, [], rfl, rfl, ⟨Nat.le_refl _, Nat.le_refl _, hwal, by omega⟩, ⟨HE.out, own_nil _ _ _ _, fun i hi e => by cases e⟩, HT0⟩
          case round =>
            clear HE HT0
            obtain ⟨fr, i, lb, rfl, rfl, HX, HL, HT⟩ := hrel
            obtain ⟨Ab, cb, eb⟩ := own_slice HL.out.b
            subst eb
            have xa : wr.cell? ⟨ga, 0, none⟩ = some (.slice Aa all.length ca) := by rw [← HVA.out]; exact cell_of_one HL.out.e.a
            obtain ⟨hx1, hx2, hx3, hx4⟩ := HX.out
            by_cases hle : i + 12 ≤ all.length
            · have hi12 : (i : Int) + 12 ≤ (all.length : Int) := by omega
              have hrow := HL.out.e.r
              rw [HVA.out] at hrow
              obtain ⟨g, c', ec, hcap⟩ := own_slice2 hrow (by omega)
              injection ec with ec1 ec2 ec3
              subst ec1 ec3
              have hw : ∀ j, j < all.length → (Lit.int .u8 (all.getD j 0)).wf = true := fun j hj => HL.out.e.wf _ (by rw [List.getD_eq_getElem?_getD, List.getElem?_eq_getElem hj]; exact List.getElem_mem hj)
              have hkey := keyOf4 (hw i (by omega)) (hw (i + 1) (by omega)) (hw (i + 2) (by omega)) (hw (i + 3) (by omega))
              rw [← key4_list (show i + 4 ≤ all.length by omega)] at hkey
              obtain ⟨D, hD, hLn⟩ := HL.out.e.o
              obtain ⟨cc, hlk, hcc⟩ := look4 hD hLn (key4_len (by omega)) (key4_wf HL.out.e.wf i) hkey
              have b0 := row_byte hrow i (by omega)
              have b1 := row_byte hrow (i + 1) (by omega)
              have b2 := row_byte hrow (i + 2) (by omega)
              have b3 := row_byte hrow (i + 3) (by omega)
              have hat := fun W => run_arrayAt W (some ⟨g, i, none⟩) (all.length - i) (ca - i) (by omega)
              have h5 : (i : Int) ≤ (all.length : Int) := by omega
              have h6 : (all.length : Int) ≤ (ca : Int) := by omega
              have h7 : (0 : Int) ≤ (i : Int) := by omega
              have h8 : ¬ ca = i := by omega
              generalize all.getD i 0 = y0 at b0 hlk
              generalize all.getD (i + 1) 0 = y1 at b1 hlk
              generalize all.getD (i + 2) 0 = y2 at b2 hlk
              generalize all.getD (i + 3) 0 = y3 at b3 hlk
              have HW := Aside0.mk hw
              have HCC := Aside0.mk hcc
              clear hw hkey hD hLn hrow hcc
              cases gk with
              | zero => exfalso; omega
              | succ f =>
                have ht := HT.out
                rw [encL, if_pos hle] at ht
                cases hF : find4 all i (key4 all i) with
                | none =>
                  rw [hF] at ht hlk
                  simp only [Option.isSome_none] at hlk
                  have HT2 := Aside0.mk ht
                  clear ht HT hF HCC HX
                  have HLK := Aside0.mk hlk
                  have xm : wr.cell? ⟨gm, 0, none⟩ = some (.map (some B)) := cell_of_one HL.out.e.m
                  go_upto_region 16 with fail
                  go_quiet (fail)
                  have HL3 := Aside0.mk (HL.out.keep (Fr.drewN nq _))
                  generalize wr.drewN nq = w3 at HL3 ⊢
                  have HLC := Aside0.mk (learn_calls w ga gm B va all i i w3 HL3.out.e (by omega) (by omega) (by omega))
                  clear HL HLK hlk xm xa b0 b1 b2 b3 hat
                  go_upto_region 18 with (go_at_call 58; refine HLC.out.mono ?_; rintro e w4 ⟨rfl, he4, hf4⟩; have HL4 := Aside0.mk (HL3.out.learn he4 hf4); clear he4 hf4)
                  clear HL3 HLC
                  go_wp2_with fail
                  go_roundg f
                  case measure => omega
                  case rel => exact ⟨fr, i + 1, lb, rfl, by simp, ⟨hx1, by omega, by omega, by omega⟩, HL4, HT2⟩
                | some k =>
                  have hcv := HCC.out k hF
                  subst hcv
                  have hfk := find4_some hF
                  rw [hF] at ht hlk
                  simp only [Option.isSome_some] at hlk ht
                  have hki : (k : Int) < (i : Int) := by omega
                  by_cases hfar : 65536 ≤ i - k
                  · rw [if_pos hfar] at ht
                    have hfi : (65536 : Int) ≤ (i : Int) - (k : Int) := by omega
                    have HT2 := Aside0.mk ht
                    clear ht HT hF HCC HX hfk hfar
                    have HLK := Aside0.mk hlk
                    have xm : wr.cell? ⟨gm, 0, none⟩ = some (.map (some B)) := cell_of_one HL.out.e.m
                    go_upto_region 16 with fail
                    go_quiet (fail)
                    have HL3 := Aside0.mk (HL.out.keep (Fr.drewN nq _))
                    generalize wr.drewN nq = w3 at HL3 ⊢
                    have HLC := Aside0.mk (learn_calls w ga gm B va all i i w3 HL3.out.e (by omega) (by omega) (by omega))
                    clear HL HLK hlk xm xa b0 b1 b2 b3 hat
                    go_upto_region 18 with (go_at_call 58; refine HLC.out.mono ?_; rintro e w4 ⟨rfl, he4, hf4⟩; have HL4 := Aside0.mk (HL3.out.learn he4 hf4); clear he4 hf4)
                    clear HL3 HLC
                    go_wp2_with fail
                    go_roundg f
                    case measure => omega
                    case rel => exact ⟨fr, i + 1, lb, rfl, by simp, ⟨hx1, by omega, by omega, by omega⟩, HL4, HT2⟩
                  · rw [if_neg hfar] at ht
                    have hfi : ¬ (65536 : Int) ≤ (i : Int) - (k : Int) := by omega
                    have HT2 := Aside0.mk ht
                    have HFK := Aside0.mk hfk
                    clear ht HT hF HCC HX hfar hfk
                    have HLK := Aside0.mk hlk
                    have xm : wr.cell? ⟨gm, 0, none⟩ = some (.map (some B)) := cell_of_one HL.out.e.m
                    go_upto_region 16 with fail
                    go_quiet (fail)
                    have HL3 := Aside0.mk (HL.out.keep (Fr.drewN nq _))
                    generalize wr.drewN nq = w3 at HL3 ⊢
                    have HLC := Aside0.mk (learn_calls w ga gm B va all i i w3 HL3.out.e (by omega) (by omega) (by omega))
                    clear HL HLK hlk xm xa b0 b1 b2 b3 hat
                    go_upto_region 18 with (go_at_call 58; refine HLC.out.mono ?_; rintro e w4 ⟨rfl, he4, hf4⟩; have HL4 := Aside0.mk (HL3.out.learn he4 hf4); clear he4 hf4)
                    clear HL3 HLC
                    go_wp2_with fail
                    obtain ⟨M, hM⟩ : ∃ M, M = mlen all k i all.length 4 := ⟨_, rfl⟩
                    have HT3 := HT2.out
                    rw [← hM] at HT3
                    have HT2 := Aside0.mk HT3
                    have HM := Aside0.mk hM
                    clear HT3 hM
                    go_loopg [15] all.length (fun kq v15 wc => ∃ n : Nat, v15 = .int .i64 (n : Int) ∧ Aside0 (4 ≤ n ∧ mlen all k i kq n = M ∧ all.length + 4 ≤ kq + n ∧ i + n + 5 ≤ all.length) ∧ Aside0 (LInv w wc ga gm B va all (i + 1) (i + 1) (.slice Ab lb.length cb) lb))
                    case atStart => exact ⟨4, rfl, ⟨Nat.le_refl _, HM.out.symm, Nat.le_refl _, by omega⟩, HL4⟩
                    case round =>
                      clear HL4
                      obtain ⟨n, rfl, HN, HL⟩ := hrel
                      obtain ⟨n1, n2, n3, n4⟩ := HN.out
                      have hrow := HL.out.e.r
                      rw [HVA.out] at hrow
                      have xa : wr.cell? ⟨ga, 0, none⟩ = some (.slice (some ⟨g, 0, none⟩) all.length ca) := by rw [← HVA.out]; exact cell_of_one HL.out.e.a
                      have hn0 : (0 : Int) ≤ (n : Int) := by omega
                      have hk0 : (0 : Int) ≤ (k : Int) := by omega
                      clear HN
                      go_upto_region 21 with fail
                      go_cut [97] (fun v97 wc => v97 = .bool (decide (i + n + 5 < all.length ∧ all.getD (i + n) 0 = all.getD (k + n) 0)) ∧ Aside0 (LInv w wc ga gm B va all (i + 1) (i + 1) (.slice Ab lb.length cb) lb))
                      case first =>
                        by_cases hlt : i + n + 5 < all.length
                        · have hlt' : (i : Int) + (n : Int) < (all.length : Int) - 5 := by omega
                          have hin : (i : Int) + (n : Int) < (all.length : Int) := by omega
                          have hkn : (k : Int) + (n : Int) < (all.length : Int) := by omega
                          have z0 := row_byte hrow (i + n) (by omega)
                          have z1 := row_byte hrow (k + n) (by omega)
                          by_cases hpp : all.getD (i + n) 0 = all.getD (k + n) 0
                          · have HREL := Aside0.mk (decide_eq_true (show i + n + 5 < all.length ∧ all.getD (i + n) 0 = all.getD (k + n) 0 from ⟨hlt, hpp⟩))
                            have hpb : (all.getD (i + n) 0 == all.getD (k + n) 0) = true := by rw [hpp]; exact beq_self_eq_true _
                            generalize all.getD (i + n) 0 = p0 at z0 hpb
                            generalize all.getD (k + n) 0 = p1 at z1 hpb
                            clear hpp hrow
                            go_quiet (fail)
                            go_wp2_with fail
                            go_meet
                            case rel => exact ⟨by rw [HREL.out], ⟨HL.out.keep (Fr.drewN _ _)⟩⟩
                          · have HREL := Aside0.mk (decide_eq_false (show ¬ (i + n + 5 < all.length ∧ all.getD (i + n) 0 = all.getD (k + n) 0) from fun hc => hpp hc.2))
                            have hpb : (all.getD (i + n) 0 == all.getD (k + n) 0) = false := by simp only [beq_eq_false_iff_ne, ne_eq]; exact hpp
                            generalize all.getD (i + n) 0 = p0 at z0 hpb
                            generalize all.getD (k + n) 0 = p1 at z1 hpb
                            clear hpp hrow
                            go_quiet (fail)
                            go_wp2_with fail
                            go_meet
                            case rel => exact ⟨by rw [HREL.out], ⟨HL.out.keep (Fr.drewN _ _)⟩⟩
                        · have HREL := Aside0.mk (decide_eq_false (show ¬ (i + n + 5 < all.length ∧ all.getD (i + n) 0 = all.getD (k + n) 0) from fun hc => hlt hc.1))
                          have hlt' : ¬ (i : Int) + (n : Int) < (all.length : Int) - 5 := by omega
                          clear hrow
                          go_quiet (fail)
                          go_wp2_with fail
                          go_meet
                          case rel => exact ⟨by rw [HREL.out], ⟨HL.out.keep (Fr.drewN _ _)⟩⟩
                      case rest =>
                        obtain ⟨hv97, HL'⟩ := hcut
                        subst hv97
                        clear HL hrow xa
                        by_cases hcc : i + n + 5 < all.length ∧ all.getD (i + n) 0 = all.getD (k + n) 0
                        · rw [decide_eq_true hcc]
                          cases gk with
                          | zero => exfalso; omega
                          | succ f2 =>
                            rw [mlen, if_pos hcc] at n2
                            have HN2 := Aside0.mk n2
                            have hcl := hcc.1
                            clear n2 hcc
                            go_wp2_with fail
                            go_roundg f2
                            case measure => omega
                            case rel => exact ⟨n + 1, by simp, ⟨by omega, HN2.out, by omega, by omega⟩, HL'⟩
                        · rw [decide_eq_false hcc]
                          have hnM : n = M := by
                            cases gk with
                            | zero => exact n2
                            | succ f2 => rw [mlen, if_neg hcc] at n2; exact n2
                          subst hnM
                          clear n2 hcc
                          have hcaf : ¬ ca = fr := by omega
                          have hfi0 : (fr : Int) ≤ (i : Int) := by omega
                          have hfr0 : (0 : Int) ≤ (fr : Int) := by omega
                          have hrow := HL'.out.e.r
                          rw [HVA.out] at hrow
                          have xa : wc.cell? ⟨ga, 0, none⟩ = some (.slice (some ⟨g, 0, none⟩) all.length ca) := by rw [← HVA.out]; exact cell_of_one HL'.out.e.a
                          clear hrow
                          have hxl : ((all.take i).drop fr).length = i - fr := by rw [List.length_drop, List.length_take]; omega
                          have hik : ((i - k : Nat) : Int) = (i : Int) - (k : Int) := by omega
                          have hwdl := HAL.out
                          obtain ⟨SS, hSS⟩ : ∃ SS : S44, SS = ⟨(all.take i).drop fr, ((i - k : Nat) : Int), (n : Int)⟩ := ⟨_, rfl⟩
                          have ht := HT2.out
                          rw [← hSS, List.flatMap_cons, ← List.append_assoc] at ht
                          obtain ⟨lb5, hlb5⟩ : ∃ lb5, lb5 = lb ++ putP SS := ⟨_, rfl⟩
                          rw [← hlb5] at ht
                          have hlbl : lb.length < 137000000000000 := by
                            have h := congrArg List.length ht
                            have h5 := congrArg List.length hlb5
                            rw [List.length_append] at h h5
                            have := HTL.out
                            omega
                          have hput : Calls Try.prog 59 #[.slice Ab lb.length cb, .agg #[.slice (some ⟨g, fr, none⟩) (i - fr) (ca - fr), .int .i64 ((i : Int) - (k : Int)), .int .i64 (n : Int)]] wc fun e w' => ∃ vb', e = .returned vb' ∧ LInv w w' ga gm B va all (i + 1) (i + 1) vb' lb5 := by
                            rw [hlb5, ← hik, ← hxl, hSS]
                            exact put_calls w ga gm B (i + 1) (i + 1) va (.slice Ab lb.length cb) all lb wc HL'.out (some ⟨g, fr, none⟩) (ca - fr) ⟨(all.take i).drop fr, ((i - k : Nat) : Int), (n : Int)⟩ (.inr ⟨by show (1 : Int) ≤ ((i - k : Nat) : Int); omega, by show ((i - k : Nat) : Int) < 65536; omega, by show (4 : Int) ≤ (n : Int); omega⟩) (by show ((all.take i).drop fr).length ≤ _; omega) (by show (n : Int) ≤ _; omega) (by omega)
                              (fun W _ hW => by
                                rw [HVA.out] at hW
                                exact cut_C hW fr i (by omega) (by omega) (by omega) _ (fun _ => rfl)) (by show ((all.take i).drop fr).length ≤ ca - fr; omega)
                          have HPUT := Aside0.mk hput
                          have HT5 := Aside0.mk ht
                          have hic : (i : Int) ≤ (ca : Int) := by omega
                          clear hput ht hlb5 hSS hxl hik hlbl hwdl HT2 HL'
                          go_upto_region 24 with (go_at_call 59; refine HPUT.out.mono ?_; rintro e w5 ⟨vb5, rfl, hL5⟩; obtain ⟨A5, c5, e5⟩ := own_slice hL5.b; subst e5; have HL5 := Aside0.mk hL5; clear hL5)
                          clear HPUT xa
                          go_wp2_with fail
                          go_loopg [16] (n - 1) (fun kq v16 wc => ∃ j : Nat, v16 = .int .i64 (j : Int) ∧ Aside0 (kq + j = i + n ∧ i + 1 ≤ j) ∧ Aside0 (LInv w wc ga gm B va all j j (.slice A5 lb5.length c5) lb5))
                          case atStart => exact ⟨i + 1, by simp, ⟨by omega, by omega⟩, HL5⟩
                          case round =>
                            clear HL5
                            obtain ⟨j, rfl, HJ, HLj⟩ := hrel
                            obtain ⟨j1, j2⟩ := HJ.out
                            cases gk with
                            | succ q =>
                              have hlt : (j : Int) < (i : Int) + (n : Int) := by omega
                              have HLC := Aside0.mk (learn_calls w ga gm B va all j j wr HLj.out.e (by omega) (by omega) (by omega))
                              clear j1
                              go_wp2_with (go_at_call 58; refine HLC.out.mono ?_; rintro e w6 ⟨rfl, he6, hf6⟩; have HL6 := Aside0.mk (HLj.out.learn he6 hf6); clear he6 hf6)
                              go_roundg q
                              case measure => omega
                              case rel => exact ⟨j + 1, by simp, ⟨by have := HJ.out.1; omega, by omega⟩, HL6⟩
                            | zero =>
                              have hlt : ¬ (j : Int) < (i : Int) + (n : Int) := by omega
                              have hj : j = i + n := by omega
                              subst hj
                              clear j1
                              go_wp2_with fail
                              go_roundg f
                              case measure => omega
                              case rel => exact ⟨i + n, i + n, lb5, by simp, by simp, ⟨by omega, by omega, by omega, by omega⟩, HLj, HT5⟩
            · have hle' : ¬ (i : Int) + 12 ≤ (all.length : Int) := by omega
              have henc : encL all gk fr i = [⟨all.drop fr, 0, 0⟩] := by
                cases gk with
                | zero => rfl
                | succ f => rw [encL, if_neg hle]
              have hlb : lb ++ putP ⟨all.drop fr, 0, 0⟩ = TT := by
                have h := HT.out
                rw [henc] at h
                simpa using h
              have hlbl : lb.length < 137000000000000 := by
                have h := congrArg List.length hlb
                rw [List.length_append] at h
                have := HTL.out
                omega
              obtain ⟨i05, hi05, _, hsz5, _⟩ := info_parts info5
              obtain ⟨A1, hcut, hA1⟩ := print_cut (P := Try.prog) 22 5 .i64 Try.underlying22 hi05 hsz5 Aa all.length ca fr (by omega)
              have hrow := HL.out.e.r
              rw [HVA.out] at hrow
              obtain ⟨A', c', ec, hrd, hcap⟩ := W.own_reads' hrow
              injection ec with ec1 ec2 ec3
              subst ec1 ec3
              have hcut' : ∀ W : World, (Instr.slice 22 (.slice Aa all.length ca) (some (.int .i64 (fr : Int))) none none).run Try.prog W = .ok (.slice A1 (all.length - fr) (ca - fr)) W := hcut
              have hdl : (all.drop fr).length = all.length - fr := List.length_drop
              have hput := put_calls w ga gm B i i va (.slice Ab lb.length cb) all lb wr HL.out A1 (ca - fr) ⟨all.drop fr, 0, 0⟩ (.inl ⟨rfl, rfl⟩) (by show (all.drop fr).length ≤ _; have := HAL.out; omega) (by show (0 : Int) ≤ _; omega) (by omega) (fun W _ hW => by
                rw [HVA.out] at hW
                show Kd.C (Kd.int .u8) W A1 (all.drop fr).length (all.drop fr)
                rw [hdl]
                exact Kd.C_of_reads (enc := Value.int .u8) (d := (0 : Int)) (h1 := fun _ => rfl) (hA1 W .u8 all hcap (Go.Proofs.YtnomebkdhjigjaaW.PrintWords.own_reads' hW))) (by show (all.drop fr).length ≤ _; omega)
              rw [hlb] at hput
              rw [show (⟨all.drop fr, 0, 0⟩ : S44).f0.length = all.length - fr from hdl] at hput
              have HPUT := Aside0.mk hput
              clear hput hrow hrd hA1 hcut henc hdl hi05 hsz5 hlb HT HX
              go_wp2_with (go_at_call 59; refine HPUT.out.mono ?_; rintro e w9 ⟨vb', rfl, hL9⟩; have HL9 := Aside0.mk hL9; clear hL9)
              go_ret2
              exact ⟨_, rfl, HL9.out.b, HL9.out.e.B0⟩
end Go.Proofs.Ytnomebkdhjigjaa.W
/- lz.Encode as the print says it: a contract over lists. -/
namespace Go.Proofs.Ytnomebkdhjigjaa.Z
open Go.RowKit Go.Proofs.YtnomebkdhjigjaaW.PrintWords Go.Proofs.YtnomebkdhjigjaaW.PrintLast Go.Proofs.YtnomebkdhjigjaaW.PrintMore
set_option linter.unusedVariables false
set_option linter.unusedSimpArgs false
theorem wfB_of {l : List Int} (h : W.bytesB l = true) : W.WfB l := fun x hx => by
  unfold W.bytesB at h
  rw [List.all_eq_true] at h
  have := h x hx
  simp at this
  simp only [Lit.wf, show IntKind.u8.min = 0 from rfl, show IntKind.u8.max = 255 from rfl, Bool.and_eq_true, decide_eq_true_eq]
  omega
def lz_Encode.f (l0 : List Int) (l1 : List Int) : Option (List Int × Int) := if l0.length ≤ 1099511627776 ∧ l1.length ≤ 1099511627776 ∧ W.bytesB l0 = true ∧ W.bytesB l1 = true then some (W.encode l0 l1) else none
theorem lz_Encode.calls (A0 : Option Addr) (c0 : Nat) (l0 : List Int) (A1 : Option Addr) (c1 : Nat) (l1 : List Int) (r1 : List Int) (r2 : Int) (w : World) (hr0 : Kd.C (Kd.int .u8) w A0 l0.length l0) (hc0 : l0.length ≤ c0) (hr1 : Kd.C (Kd.int .u8) w A1 l1.length l1) (hc1 : l1.length ≤ c1) (h : lz_Encode.f l0 l1 = some (r1, r2)) :
    Calls Try.prog 28 #[.slice A0 l0.length c0, .slice A1 l1.length c1] w fun e w' => ∃ v0_ : Value, e = .returned (.tuple #[v0_, .int .i64 r2]) ∧ Kd.R (Kd.int .u8) 5 w' w.heap.size (fun _ => True) v0_ r1 ∧ Below w.heap.size w w' := by
  unfold lz_Encode.f at h
  by_cases c : l0.length ≤ 1099511627776 ∧ l1.length ≤ 1099511627776 ∧ W.bytesB l0 = true ∧ W.bytesB l1 = true
  · rw [if_pos c] at h
    have e := Option.some.inj h
    refine (W.Encode_calls A0 A1 c0 c1 l0 l1 w (W.reads_of_C hr0) hc0 (wfB_of c.2.2.1) c.1 (W.reads_of_C hr1) hc1 (wfB_of c.2.2.2) c.2.1).mono ?_
    rintro e' w' ⟨v, he, ho, hb⟩
    rw [e] at he ho
    exact ⟨_, he, Kd.R_of_own ho (fun _ _ => trivial), hb⟩
  · rw [if_neg c] at h
    cases h
end Go.Proofs.Ytnomebkdhjigjaa.Z
/- Sums of 32 bits of both sides as the print says them: contracts over lists. -/
namespace Go.Proofs.Ytnomebkdhjigjaa.Z
open Go.RowKit Go.Proofs.YtnomebkdhjigjaaW.PrintWords Go.Proofs.YtnomebkdhjigjaaW.PrintLast Go.Proofs.YtnomebkdhjigjaaW.PrintMore
set_option linter.unusedVariables false
set_option linter.unusedSimpArgs false
theorem bytes_of {l : List Int} (h : W.bytesB l = true) : XxhW.Bytes l := fun i => by
  unfold W.bytesB at h
  rw [List.all_eq_true] at h
  unfold X.at'
  rw [List.getD_eq_getElem?_getD]
  cases hi : l[i]? with
  | none => exact ⟨by decide, by decide⟩
  | some x =>
    have := h x (List.mem_of_getElem? hi)
    simp at this
    exact ⟨this.1, this.2⟩
def xxh_Sum32.f (a0 : Int) (l1 : List Int) : Option Int := if 0 ≤ a0 ∧ a0 < 4294967296 ∧ l1.length ≤ 140737488355327 ∧ W.bytesB l1 = true then some (X.sum32 a0 l1) else none
theorem xxh_Sum32.calls (a0 : Int) (A1 : Option Addr) (c1 : Nat) (l1 : List Int) (r : Int) (w : World) (hr1 : Kd.C (Kd.int .u8) w A1 l1.length l1) (hc1 : l1.length ≤ c1) (h : xxh_Sum32.f a0 l1 = some r) :
    Calls Try.prog 63 #[.int .u32 a0, .slice A1 l1.length c1] w fun e w' => e = .returned (.int .u32 r) ∧ Below w.heap.size w w' := by
  unfold xxh_Sum32.f at h
  by_cases c : 0 ≤ a0 ∧ a0 < 4294967296 ∧ l1.length ≤ 140737488355327 ∧ W.bytesB l1 = true
  · rw [if_pos c] at h
    obtain rfl := Option.some.inj h
    exact XxhW.Sum32_calls A1 c1 l1 a0 w (W.reads_of_C hr1) (bytes_of c.2.2.2) ⟨c.1, c.2.1⟩ c.2.2.1
  · rw [if_neg c] at h
    cases h
def satchelref02_Sum32.f (a0 : Int) (l1 : List Int) : Option Int := if 0 ≤ a0 ∧ a0 < 4294967296 ∧ l1.length ≤ 140737488355327 ∧ W.bytesB l1 = true then some (X.sum32 a0 l1) else none
theorem satchelref02_Sum32.calls (a0 : Int) (A1 : Option Addr) (c1 : Nat) (l1 : List Int) (r : Int) (w : World) (hr1 : Kd.C (Kd.int .u8) w A1 l1.length l1) (hc1 : l1.length ≤ c1) (h : satchelref02_Sum32.f a0 l1 = some r) :
    Calls Try.prog 102 #[.int .u32 a0, .slice A1 l1.length c1] w fun e w' => e = .returned (.int .u32 r) ∧ Below w.heap.size w w' := by
  unfold satchelref02_Sum32.f at h
  by_cases c : 0 ≤ a0 ∧ a0 < 4294967296 ∧ l1.length ≤ 140737488355327 ∧ W.bytesB l1 = true
  · rw [if_pos c] at h
    obtain rfl := Option.some.inj h
    exact XxhW.rSum32_calls A1 c1 l1 a0 w (W.reads_of_C hr1) hc1 (bytes_of c.2.2.2) ⟨c.1, c.2.1⟩ c.2.2.1
  · rw [if_neg c] at h
    cases h
end Go.Proofs.Ytnomebkdhjigjaa.Z
