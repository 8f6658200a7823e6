/- lz.Encode's memory while it runs, and the function that learns a place. -/
import Derived.Test.YtnomebkdhjigjaaEb
import Derived.Test.YtnomebkdhjigjaaXq
namespace Go.Proofs.Ytnomebkdhjigjaa.W
open Go.RowKit Go.Proofs.Ytnomebkdhjigjaa.Z Go.Maps Go.Proofs.YtnomebkdhjigjaaW.PrintWords Go.Proofs.YtnomebkdhjigjaaW.PrintLast Go.Proofs.YtnomebkdhjigjaaW.PrintMore
set_option linter.unusedVariables false
set_option linter.unusedSimpArgs false
theorem own_slice2 {w : World} {B e size n : Nat} {v : Value} {xs : List Value} (h : w.ownsRow B e size v n xs) (hn : 0 < n) : ∃ g cp, v = .slice (some ⟨g, 0, none⟩) n cp ∧ n ≤ cp := by
  rcases h.2 with ⟨_, h0⟩ | ⟨g, cap, cur, rfl, _, _, h1, _⟩
  · omega
  · exact ⟨g, cap, rfl, h1⟩
structure EInv (w0 w : World) (ga gm B : Nat) (v : Value) (all : List Int) (cnt n : Nat) : Prop where
  B0 : Below w0.heap.size w0 w
  ha : w0.heap.size ≤ ga
  hm : w0.heap.size ≤ gm
  hB : w0.heap.size ≤ B
  a : w.heap[ga]? = some (.cells #[v] 22 (0, 0))
  m : w.heap[gm]? = some (.cells #[.map (some B)] 90 (0, 0))
  o : ∃ D : DataW Unit, w.ownsMap Try.prog 91 (plainElem Try.prog 3) B cnt D ∧ Learned D all n
  r : w.ownsRow w0.heap.size 5 1 v all.length (nums .u8 all)
  wf : WfB all
theorem own_map_fr {w w' : World} {ok : Nat → Prop} (f : Fr w w' ok) {B n : Nat} {D : DataW Unit} (h : w.ownsMap Try.prog 91 (plainElem Try.prog 3) B n D) (hB : ok B) : w'.ownsMap Try.prog 91 (plainElem Try.prog 3) B n D := by
  obtain ⟨es, clock, h1, h2⟩ := h
  exact ⟨es, clock, f.heap h1 hB, h2⟩
theorem EInv.fr {w0 w w' : World} {ga gm B cnt n : Nat} {v : Value} {all : List Int} {ok : Nat → Prop} (h : EInv w0 w ga gm B v all cnt n) (f : Fr w w' ok) (h0 : ∀ i, i < w0.heap.size → ok i) (h1 : ok ga) (h2 : ok gm) (h3 : ok B) (h4 : ∀ i, some i = v.ownBlock → ok i) : EInv w0 w' ga gm B v all cnt n := by
  obtain ⟨D, hD, hL⟩ := h.o
  exact ⟨h.B0.trans (f.below (fun i hi => ⟨Nat.lt_of_lt_of_le hi h.B0.size, h0 i hi⟩)), h.ha, h.hm, h.hB, f.heap h.a h1, f.heap h.m h2, ⟨D, own_map_fr f hD h3, hL⟩, own_fr f h.r h4, h.wf⟩
theorem EInv.keep {w0 w w' : World} {ga gm B cnt n : Nat} {v : Value} {all : List Int} (h : EInv w0 w ga gm B v all cnt n) (f : Fr w w' (fun _ => True)) : EInv w0 w' ga gm B v all cnt n :=
  h.fr f (fun _ _ => trivial) trivial trivial trivial (fun _ _ => trivial)
/-- The map's block is none of the others. -/
theorem EInv.ne {w0 w : World} {ga gm B cnt n : Nat} {v : Value} {all : List Int} (h : EInv w0 w ga gm B v all cnt n) : ga ≠ B ∧ gm ≠ B ∧ ∀ i, some i = v.ownBlock → i ≠ B := by
  obtain ⟨D, ⟨es, clock, hb, _⟩, _⟩ := h.o
  refine ⟨fun e => ?_, fun e => ?_, fun i hi e => ?_⟩
  · have := h.a; rw [e, hb] at this; cases this
  · have := h.m; rw [e, hb] at this; cases this
  · rcases h.r.2 with ⟨hn, _⟩ | ⟨g', cap, cur, e2, _, hh, _⟩
    · rw [hn] at hi; cases hi
    · rw [e2] at hi
      simp [Value.ownBlock] at hi
      rw [← hi, e, hb] at hh
      cases hh
theorem row_byte {w : World} {B g c : Nat} {all : List Int} (h : w.ownsRow B 5 1 (.slice (some ⟨g, 0, none⟩) all.length c) all.length (nums .u8 all)) (i : Nat) (hi : i < all.length) : w.cell? ⟨g, i, none⟩ = some (.int .u8 (all.getD i 0)) := by
  rw [World.ownsRow.cellAt h i (by omega)]
  simp [nums, List.getElem?_map, List.getD_eq_getElem?_getD, List.getElem?_eq_getElem hi]
theorem run_arrayAt (W : World) (A : Option Addr) (len cap : Nat) (h : 4 ≤ len) : (Instr.arrayAt 91 (.slice A len cap)).run Try.prog W = .ok (.pointer A) W := by
  unfold Instr.arrayAt
  simp [run_underlying Try.underlying91, Result.andThen]
  intro h'
  omega
theorem key4_list {all : List Int} {n : Nat} (h : n + 4 ≤ all.length) : key4 all n = [all.getD n 0, all.getD (n + 1) 0, all.getD (n + 2) 0, all.getD (n + 3) 0] := by
  unfold key4
  rw [drop_cons2 (show n < all.length by omega), drop_cons2 (show n + 1 < all.length by omega), drop_cons2 (show n + 1 + 1 < all.length by omega), drop_cons2 (show n + 1 + 1 + 1 < all.length by omega)]
  rfl
set_option maxHeartbeats 2000000 in
set_option maxRecDepth 100000 in
theorem learn_calls (w0 : World) (ga gm B : Nat) (v : Value) (all : List Int) (cnt n : Nat) (w : World) (h : EInv w0 w ga gm B v all cnt n) (hn : n ≤ 1099511627776) (hl : all.length ≤ 1099511627776) (hc : cnt ≤ 1099511627776) :
    Calls Try.prog 58 #[.int .i64 (n : Int), .pointer (some ⟨ga, 0, none⟩), .pointer (some ⟨gm, 0, none⟩)] w fun e w' => e = .returned (.tuple #[]) ∧ EInv w0 w' ga gm B v all (cnt + 1) (n + 1) ∧ Fr w w' (fun i => i ≠ B) := by
  have HI := Aside0.mk h
  have xa : w.cell? ⟨ga, 0, none⟩ = some v := cell_of_one h.a
  have xm : w.cell? ⟨gm, 0, none⟩ = some (.map (some B)) := cell_of_one h.m
  obtain ⟨D, hD, hL⟩ := h.o
  have HD := Aside0.mk hD
  have HL := Aside0.mk hL
  clear hD hL
  by_cases hle : n + 4 ≤ all.length
  · have h4 : (n : Int) + 4 ≤ (all.length : Int) := by omega
    obtain ⟨g, c, rfl, hcap⟩ := own_slice2 h.r (by omega)
    have b0 := row_byte h.r n (by omega)
    have b1 := row_byte h.r (n + 1) (by omega)
    have b2 := row_byte h.r (n + 2) (by omega)
    have b3 := row_byte h.r (n + 3) (by omega)
    have hk := key4_list hle
    have hw : ∀ i, i < all.length → (Lit.int .u8 (all.getD i 0)).wf = true := fun i hi => h.wf _ (by rw [List.getD_eq_getElem?_getD, List.getElem?_eq_getElem hi]; exact List.getElem_mem hi)
    have hkey := keyOf4 (hw n (by omega)) (hw (n + 1) (by omega)) (hw (n + 2) (by omega)) (hw (n + 3) (by omega))
    rw [← hk] at hkey
    have HLP := Aside0.mk (HL.out.put h.wf hle)
    have HNE := Aside0.mk h.ne
    generalize key4 all n = q at hk hkey HLP
    generalize all.getD n 0 = x0 at b0 hkey
    generalize all.getD (n + 1) 0 = x1 at b1 hkey
    generalize all.getD (n + 2) 0 = x2 at b2 hkey
    generalize all.getD (n + 3) 0 = x3 at b3 hkey
    have HKEY := Aside0.mk hkey
    clear hk hw hkey
    have HLE := Aside0.mk hle
    have h5 : (n : Int) ≤ (all.length : Int) := by omega
    have h6 : (all.length : Int) ≤ (c : Int) := by omega
    have h7 : (0 : Int) ≤ (n : Int) := by omega
    have h8 : ¬ c = n := by omega
    have hat := fun W => run_arrayAt W (some ⟨g, n, none⟩) (all.length - n) (c - n) (by omega)
    clear h hle
    go_enter Try.func58, Try.ntmps58
    go_upto_region 1 with fail
    refine QTail.wp_region_tail (C := fun w' => ∃ n, w' = w.drewN n) 7 (by kernel_rfl) (by kernel_rfl) ⟨1, rfl⟩ ?_
    simp only [List.take_succ_cons, List.take_zero, List.drop_succ_cons, List.drop_zero]
    repeat (quiet_step (fail))
    refine wpQuiet_nil ?_
    intro _ hw'
    obtain ⟨nq, hw''⟩ := hw'
    subst hw''
    have HI2 := Aside0.mk (HI.out.keep (Fr.drewN nq _))
    have HD2 := Aside0.mk (own_map_fr (Fr.drewN nq (fun _ => True)) HD.out trivial)
    have HF2 := Aside0.mk (Fr.drewN (w := w) nq (fun i => i ≠ B))
    clear HI HD xa xm b0 b1 b2 b3 hat
    generalize w.drewN nq = w2 at HI2 HD2 HF2 ⊢
    go_wp2_with (at_mapUpdate; refine wpList_mapUpdate_own _ rfl _ _ _ 90 rfl 91 3 keyed91 Try.underlying90 _ B cnt D rfl HD2.out (by unfold maxLen; omega) _ _ _ rfl rfl HKEY.out _ [] (plainElem_int Try.underlying3 (by simp [Lit.wf, show IntKind.i64.min = -9223372036854775808 from rfl, show IntKind.i64.max = 9223372036854775807 from rfl]; omega)) ?_; intro w1 hown1 hgrow1)
    go_end0
    have f := Fr.of_grown hgrow1
    have f' : Fr w2 w1 (fun i => i ≠ B) := f.mono (fun i _ hi e => hi (by injection e))
    refine ⟨rfl, ?_, HF2.out.then f'⟩
    have hi := HI2.out
    have hne := HNE.out
    exact ⟨hi.B0.trans (f'.below (fun i hlt => ⟨Nat.lt_of_lt_of_le hlt hi.B0.size, by have := hi.hB; omega⟩)), hi.ha, hi.hm, hi.hB, f'.heap hi.a hne.1, f'.heap hi.m hne.2.1, ⟨_, hown1, HLP.out⟩, own_fr f' hi.r hne.2.2, hi.wf⟩
  · have h4 : ¬ (n : Int) + 4 ≤ (all.length : Int) := by omega
    have HS := Aside0.mk (show EInv w0 w ga gm B v all (cnt + 1) (n + 1) from { h with o := ⟨D, HD.out.mono (Nat.le_succ _), HL.out.skip hle⟩ })
    clear h hle
    obtain ⟨A, c, rfl⟩ := own_slice HS.out.r
    go_enter Try.func58, Try.ntmps58
    go_wp2
    go_end0
    exact ⟨rfl, HS.out, Fr.refl _ _⟩
end Go.Proofs.Ytnomebkdhjigjaa.W
