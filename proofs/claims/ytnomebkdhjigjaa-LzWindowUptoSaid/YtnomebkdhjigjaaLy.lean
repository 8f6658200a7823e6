/- Contract of lz.Parse: the sequences, each in memory of its own, the place and the error, as a plain function of the bytes. Conditions: fewer than 2^40 bytes, bytes are bytes. -/
import Derived.Test.YtnomebkdhjigjaaLx
namespace Go.Proofs.Ytnomebkdhjigjaa.W
open Go.RowKit Go.Proofs.Ytnomebkdhjigjaa.Z Go.Proofs.YtnomebkdhjigjaaW.PrintWords Go.Proofs.YtnomebkdhjigjaaW.PrintLast Go.Proofs.YtnomebkdhjigjaaW.PrintMore
set_option linter.unusedVariables false
set_option linter.unusedSimpArgs false
def parse (b : List Int) : List S44 × Int × Int := if (prs b (b.length + 1) 0 []).2.1 ≠ 0 then ([], (prs b (b.length + 1) 0 []).1, (prs b (b.length + 1) 0 []).2.1) else ((prs b (b.length + 1) 0 []).2.2, 0, 0)
/-- Sequences in memory of their own: the list, and each one's bytes. -/
def SeqL (B : Nat) (v : Value) (L : List (Value × S44)) : List Res := Res.row B 44 3 L.length v (cells3 L) :: L.map (innerR B)
/-- Things of an elder world and things that are newer. -/
theorem Sep.join {w0 w1 w2 : World} {l1 l2 : List Res} (h : Sep w0 w1 l1) (h' : Sep w1 w2 l2) : Sep w0 w2 (l2 ++ l1) := by
  have k := h.keep h'.B
  refine ⟨k.B, ?_, ?_, ?_⟩
  · intro r hr
    rcases List.mem_append.1 hr with hr | hr
    · exact h'.h r hr
    · exact k.h r hr
  · intro r hr i hi
    rcases List.mem_append.1 hr with hr | hr
    · exact Nat.le_trans h.size (h'.ge r hr i hi)
    · exact k.ge r hr i hi
  · refine List.pairwise_append.2 ⟨h'.ne, k.ne, fun r hr s hs i h1 h2 => ?_⟩
    have a := h'.ge r hr i h1
    have b := s.lt w1 (h.h s hs) i h2
    omega
theorem Sep.base {w0 w : World} {l l' : List Res} (h : Sep w0 w l) (hl : l'.length = l.length) (hh : ∀ (i : Nat) (r s : Res), l[i]? = some r → l'[i]? = some s → r.holds w → s.holds w ∧ ∀ i, s.foot i ↔ r.foot i) : Sep w0 w l' := by
  have at' : ∀ (i : Nat) (s : Res), l'[i]? = some s → ∃ r, l[i]? = some r ∧ s.holds w ∧ ∀ j, s.foot j ↔ r.foot j := by
    intro i s hs
    have hi : i < l.length := by
      have := (List.getElem?_eq_some_iff.1 hs).1
      omega
    have e := List.getElem?_eq_getElem hi
    exact ⟨l[i], e, hh i _ s e hs (h.h _ (List.getElem_mem hi))⟩
  refine ⟨h.B, ?_, ?_, ?_⟩
  · intro s hs
    obtain ⟨i, hi⟩ := List.mem_iff_getElem?.1 hs
    obtain ⟨r, _, h1, _⟩ := at' i s hi
    exact h1
  · intro s hs j hj
    obtain ⟨i, hi⟩ := List.mem_iff_getElem?.1 hs
    obtain ⟨r, hr, _, h2⟩ := at' i s hi
    exact h.ge r (List.mem_of_getElem? hr) j ((h2 j).1 hj)
  · rw [List.pairwise_iff_getElem]
    intro i j hi hj hij q h1 h2
    obtain ⟨r, hr, _, hr2⟩ := at' i _ (List.getElem?_eq_getElem hi)
    obtain ⟨s, hs, _, hs2⟩ := at' j _ (List.getElem?_eq_getElem hj)
    have hil : i < l.length := by omega
    have hjl : j < l.length := by omega
    rw [List.getElem?_eq_getElem hil] at hr
    rw [List.getElem?_eq_getElem hjl] at hs
    cases hr
    cases hs
    exact List.pairwise_iff_getElem.1 h.ne i j hil hjl hij q ((hr2 q).1 h1) ((hs2 q).1 h2)
set_option maxHeartbeats 2000000 in
set_option maxRecDepth 100000 in
theorem Parse_calls (A : Option Addr) (c : Nat) (b : List Int) (w : World) (hr : ReadsInt w .u8 A b.length b) (hc : b.length ≤ c) (hb : Byt b) (hl : b.length ≤ 1099511627776) :
    Calls Try.prog 21 #[.slice A b.length c] w fun e w' => ∃ v L, e = .returned (.tuple #[v, .int .i64 (parse b).2.1, .int .i64 (parse b).2.2]) ∧ L.map (·.2) = (parse b).1 ∧ Sep w w' (SeqL w.heap.size v L) := by
  obtain ⟨R, hR⟩ : ∃ R, R = prs b (b.length + 1) 0 [] := ⟨_, rfl⟩
  obtain ⟨D, hD⟩ : ∃ D, D = parse b := ⟨_, rfl⟩
  have e1 : D = if R.2.1 ≠ 0 then ([], R.1, R.2.1) else (R.2.2, 0, 0) := by rw [hD, hR]; rfl
  rw [← hD]
  have HR := Aside0.mk hr
  have HRR := Aside0.mk hR
  have HE := Aside0.mk e1
  clear hr hR hD e1
  have hq : QInv w (w.alloc (.cells #[.slice none 0 0] 37)) w.heap.size (.slice none 0 0) [] := by
    refine ⟨?_⟩
    have s0 : Sep w (w.alloc (.cells #[.slice none 0 0] 37)) [Res.row w.heap.size 44 3 0 (.slice none 0 0) []] :=
      ((Sep.nil w).push (Below.refl _ _) (Res.row w.heap.size 44 3 0 (.slice none 0 0) []) (own_nil _ _ _ _) (fun i hi => by cases hi)).alloc _
    have s1 : Sep w (w.alloc (.cells #[.slice none 0 0] 37)) [Res.blk w.heap.size #[.slice none 0 0] 37, Res.row w.heap.size 44 3 0 (.slice none 0 0) []] :=
      ((Sep.nil w).push (Below.refl _ _) (Res.row w.heap.size 44 3 0 (.slice none 0 0) []) (own_nil _ _ _ _) (fun i hi => by cases hi)).push (below_alloc (Below.refl _ _) _) (Res.blk w.heap.size #[.slice none 0 0] 37) (heap_alloc_new w _) (fun i hi => by have : i = w.heap.size := hi; omega)
    exact s1
  have HW := Aside0.mk (pwalk_calls w w.heap.size A c b (.slice none 0 0) _ hq HR.out hc hb hl)
  rw [← HRR.out] at HW
  clear hq
  go_enter Try.func21, Try.ntmps21
  go_upto_if 17 with (go_at_call 49; refine HW.out.mono ?_; rintro e w3 ⟨rfl, v3, L3, hi3, hm3⟩; have HI3 := Aside0.mk hi3; have HM3 := Aside0.mk hm3; clear hi3 hm3)
  clear HW
  by_cases hE : R.2.1 = 0
  · have e2 : D = (R.2.2, 0, 0) := by rw [HE.out, if_neg (by omega)]
    have HE2 := Aside0.mk e2
    have HL := Aside0.mk (HM3.out hE)
    have x3 := HI3.out.cell.1
    clear e2 HM3
    go_wp2
    go_ret3
    rw [HE2.out]
    exact ⟨v3, L3, rfl, HL.out, (HI3.out.s).drop 0⟩
  · have e2 : D = ([], R.1, R.2.1) := by rw [HE.out, if_pos hE]
    have HE2 := Aside0.mk e2
    clear e2 HM3
    go_wp2
    go_ret3
    rw [HE2.out]
    exact ⟨.slice none 0 0, [], rfl, rfl, ((Sep.nil w).push HI3.out.B (Res.row w.heap.size 44 3 0 (.slice none 0 0) []) (own_nil _ _ _ _) (fun i hi => by cases hi))⟩
end Go.Proofs.Ytnomebkdhjigjaa.W
