/- A set of ranges in memory, and what the methods do to it. -/
import Derived.Test.YtanbicpkdkcpbaaGq
import Derived.Test.YtanbicpkdkcpbaaGk
import Derived.Test.YtanbicpkdkcpbaaFr
namespace Go.Proofs.Ytanbicpkdkcpbaa.Rng
open Go.RowKit Go.Proofs.Ytanbicpkdkcpbaa.W Go.Proofs.Ytanbicpkdkcpbaa.RSizesRanges Go.Proofs.YtanbicpkdkcpbaaW.PrintWords Go.Proofs.YtanbicpkdkcpbaaW.PrintLast Go.Proofs.YtanbicpkdkcpbaaW.PrintMore
set_option linter.unusedVariables false
set_option linter.unusedSimpArgs false
/-- At g lies a set, its list made from base on. -/
def IsSet (w : World) (base g : Nat) (L : List S67) : Prop := ∃ v, Holds w g v ∧ Kd.R k67 67 w base (fun _ => True) v L
/-- All but what lies at g is as it was. -/
abbrev Touch (w w' : World) (g : Nat) : Prop := Fr w w' (fun i => i ≠ g)
theorem Touch.of_below {w w' : World} {g : Nat} (h : Below w.heap.size w w') : Touch w w' g := Fr.of_below h _
theorem Touch.below {w0 w w' : World} {g : Nat} (h : Touch w w' g) (hB : Below w0.heap.size w0 w) (hg : w0.heap.size ≤ g) : Below w0.heap.size w0 w' :=
  ((Fr.of_below hB (fun i => i ≠ g)).then h).below (B := w0.heap.size) (fun i hi => ⟨hi, by omega⟩)
theorem Touch.holds {w w' : World} {g g2 : Nat} {v : Value} (h : Touch w w' g) (hg : g2 ≠ g) (hh : Holds w g2 v) : Holds w' g2 v := h.heap hh hg
theorem Touch.R {w w' : World} {g base : Nat} {v u : Value} {L : List S67} (h : Touch w w' g) (hg : Holds w g u) (hr : Kd.R k67 67 w base (fun _ => True) v L) : Kd.R k67 67 w' base (fun _ => True) v L :=
  Kd.R_mono (Kd.R_step (Kd.R_types hr hg (by decide)) (fun k hk hlt => h.block k hlt hk.2)) (fun _ _ => trivial)
theorem IsSet.holds {w : World} {base g : Nat} {L : List S67} (h : IsSet w base g L) : ∃ v, Holds w g v := h.imp fun _ h => h.1
theorem IsSet.lt {w : World} {base g : Nat} {L : List S67} (h : IsSet w base g L) : g < w.heap.size := by
  obtain ⟨v, h1, _⟩ := h
  exact blk_lt h1
theorem IsSet.below {w w' : World} {base g : Nat} {L : List S67} (h : IsSet w base g L) (hb : Below w.heap.size w w') : IsSet w' base g L := by
  obtain ⟨v, h1, h2⟩ := h
  exact ⟨v, blk_below h1 hb, Kd.R_below h2 hb⟩
theorem IsSet.other {w w' : World} {base g g2 : Nat} {L L2 : List S67} (h : IsSet w base g2 L2) (hs : IsSet w base g L) (ht : Touch w w' g) (hg : g2 ≠ g) : IsSet w' base g2 L2 := by
  obtain ⟨v, h1, h2⟩ := h
  obtain ⟨u, h3⟩ := hs.holds
  exact ⟨v, ht.holds hg h1, ht.R h3 h2⟩
/-- What Add and Cut leave of a set. -/
theorem set_post {w : World} {base g : Nat} {L : List S67} (hs : IsSet w base g L) (hb : base ≤ w.heap.size) {a b : Int} {r : List S67} {e : Ending} {w' : World} (h : AddPost w g (canB a b) a b r e w') (R : List S67 × Int)
    (hR : R = if canB a b = true then (if a = b then (L, 0) else if 65536 < r.length then (L, 2) else (r, 0)) else (L, 12)) :
    e = .returned (.int .i64 R.2) ∧ IsSet w' base g R.1 ∧ Touch w w' g := by
  rcases h with ⟨h1, rfl, h3⟩ | ⟨h1, h2, rfl, h4⟩ | ⟨h1, h2, h3, rfl, h5⟩ | ⟨h1, h2, h3, rfl, v, w1, h5, rfl, h6⟩
  · rw [h1, if_neg (by decide)] at hR
    rw [hR]
    exact ⟨rfl, hs.below h3, Touch.of_below h3⟩
  · rw [h1, if_pos rfl, if_pos h2] at hR
    rw [hR]
    exact ⟨rfl, hs.below h4, Touch.of_below h4⟩
  · rw [h1, if_pos rfl, if_neg h2, if_pos h3] at hR
    rw [hR]
    exact ⟨rfl, hs.below h5, Touch.of_below h5⟩
  · rw [h1, if_pos rfl, if_neg h2, if_neg (by omega)] at hR
    rw [hR]
    obtain ⟨u, hu⟩ := hs.holds
    have hu1 : Holds w1 g u := blk_below hu h5
    refine ⟨rfl, ⟨v, blk_set hu1 0 v, ?_⟩, (Fr.of_below h5 _).then (Fr.set ⟨g, 0, none⟩ v)⟩
    exact Kd.R_mono (Kd.R_far (p := ⟨g, 0, none⟩) (Kd.R_types (Kd.R_lower h6 hb) hu1 (by decide)) (fun _ hk => hk.2) v) (fun _ _ => trivial)
theorem add_set {w : World} {base g : Nat} {L : List S67} (hs : IsSet w base g L) (hb : base ≤ w.heap.size) (hL : L.length ≤ 1000000) (a b : Int) :
    Calls Try.prog 30 #[.pointer (some ⟨g, 0, none⟩), .agg #[.int .i64 a, .int .i64 b]] w fun e w' => e = .returned (.int .i64 (addR L a b).2) ∧ IsSet w' base g (addR L a b).1 ∧ Touch w w' g := by
  have hs' := hs
  obtain ⟨v, h1, h2⟩ := hs
  obtain ⟨A, c, rfl, hc, hC⟩ := Kd.R_reads h2
  refine (sizes_Ranges_Add.calls (L.length + 1) g A c L a b _ (canB a b) w (can_f a b) hC hc h1 (add_f (L.length + 1) L hL (by omega) a b)).mono fun e w' h => ?_
  refine set_post hs' hb h _ ?_
  unfold addR
  by_cases c1 : canB a b = true
  · simp only [if_pos c1]
    by_cases c2 : a = b
    · simp only [if_pos c2]
    · simp only [if_neg c2]
  · simp only [if_neg c1]
theorem cut_set {w : World} {base g : Nat} {L : List S67} (hs : IsSet w base g L) (hb : base ≤ w.heap.size) (hL : L.length ≤ 1000000) (a b : Int) :
    Calls Try.prog 28 #[.pointer (some ⟨g, 0, none⟩), .agg #[.int .i64 a, .int .i64 b]] w fun e w' => e = .returned (.int .i64 (cutR L a b).2) ∧ IsSet w' base g (cutR L a b).1 ∧ Touch w w' g := by
  have hs' := hs
  obtain ⟨v, h1, h2⟩ := hs
  obtain ⟨A, c, rfl, hc, hC⟩ := Kd.R_reads h2
  refine (sizes_Ranges_Cut.calls (4 * L.length + 1) g A c L a b _ (canB a b) w (can_f a b) hC hc h1 (cut_f (4 * L.length + 1) L hL (by omega) a b)).mono fun e w' h => ?_
  refine set_post hs' hb h _ ?_
  unfold cutR
  by_cases c1 : canB a b = true
  · simp only [if_pos c1]
    by_cases c2 : a = b
    · simp only [if_pos c2]
    · simp only [if_neg c2]
  · simp only [if_neg c1]
theorem gaps_set {w : World} {base g : Nat} {L : List S67} (hs : IsSet w base g L) (hL : L.length ≤ 1000000) (a b : Int) :
    Calls Try.prog 33 #[.pointer (some ⟨g, 0, none⟩), .agg #[.int .i64 a, .int .i64 b]] w fun e w' => ∃ v0_ : Value, e = .returned v0_ ∧ Kd.R k67 67 w' w.heap.size (fun _ => True) v0_ (gapsR L a b) ∧ Below w.heap.size w w' := by
  obtain ⟨v, h1, h2⟩ := hs
  obtain ⟨A, c, rfl, hc, hC⟩ := Kd.R_reads h2
  exact sizes_Ranges_Gaps.calls (L.length + 1) g A c L a b _ w hC hc h1 (gaps_f (L.length + 1) L hL (by omega) a b)
theorem tot_set {w : World} {base g : Nat} {L : List S67} (hs : IsSet w base g L) (hL : L.length ≤ 1000000) :
    Calls Try.prog 36 #[.pointer (some ⟨g, 0, none⟩)] w fun e w' => e = .returned (.int .i64 (wrap64 (totL L))) ∧ Below w.heap.size w w' := by
  obtain ⟨v, h1, h2⟩ := hs
  obtain ⟨A, c, rfl, hc, hC⟩ := Kd.R_reads h2
  exact sizes_Ranges_Total.calls (L.length + 1) g A c L _ w hC hc h1 (tot_f (L.length + 1) L hL (by omega))
theorem all_set {w : World} {base g : Nat} {L : List S67} (hs : IsSet w base g L) (hL : L.length ≤ 1000000) :
    Calls Try.prog 32 #[.pointer (some ⟨g, 0, none⟩)] w fun e w' => ∃ v0_ : Value, e = .returned v0_ ∧ Kd.R k67 67 w' w.heap.size (fun _ => True) v0_ L ∧ Below w.heap.size w w' := by
  obtain ⟨v, h1, h2⟩ := hs
  obtain ⟨A, c, rfl, hc, hC⟩ := Kd.R_reads h2
  exact sizes_Ranges_All.calls g A c L w hC hc h1 (by omega)
theorem has_set {w : World} {base g : Nat} {L : List S67} (hs : IsSet w base g L) (hL : L.length ≤ 1000000) (a b : Int) :
    Calls Try.prog 38 #[.pointer (some ⟨g, 0, none⟩), .agg #[.int .i64 a, .int .i64 b]] w fun e w' => e = .returned (.bool (hasR L a b)) ∧ Below w.heap.size w w' := by
  obtain ⟨v, h1, h2⟩ := hs
  obtain ⟨A, c, rfl, hc, hC⟩ := Kd.R_reads h2
  exact sizes_Ranges_Has.calls (L.length + 1) g A c L a b (canB a b) (gapsR L a b) w hC hc h1 (can_f a b) (gaps_f (L.length + 1) L hL (by omega) a b)
end Go.Proofs.Ytanbicpkdkcpbaa.Rng
