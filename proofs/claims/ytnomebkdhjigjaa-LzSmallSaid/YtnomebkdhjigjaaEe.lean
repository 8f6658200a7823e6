/- lz.Encode's memory with the block that is made: lookup, learn, put. -/
import Derived.Test.YtnomebkdhjigjaaEc
import Derived.Test.YtnomebkdhjigjaaEd
namespace Go.Proofs.Ytnomebkdhjigjaa.W
open Go.RowKit Go.Proofs.Ytnomebkdhjigjaa.Z Go.Maps Go.Proofs.YtnomebkdhjigjaaW.PrintWords Go.Proofs.YtnomebkdhjigjaaW.PrintLast Go.Proofs.YtnomebkdhjigjaaW.PrintMore
set_option linter.unusedVariables false
set_option linter.unusedSimpArgs false
set_option maxRecDepth 100000 in
theorem look4 {w : World} {B cnt n : Nat} {D : DataW Unit} {all q : List Int} {key : Value} (h : w.ownsMap Try.prog 91 (plainElem Try.prog 3) B cnt D) (hL : Learned D all n) (hq : q.length = 4) (hw : WfB q) (hkey : keyOf Try.prog 91 key = some (lit4 q)) :
    ∃ c : Int, (∀ m, (Instr.lookup 90 (.map (some B)) key true).run Try.prog (w.drewN m) = .ok (.tuple #[.int .i64 c, .bool (find4 all n q).isSome]) (w.drewN m)) ∧ ∀ k, find4 all n q = some k → c = (k : Int) := by
  have step : ∀ m, ∃ c : Int, (Instr.lookup 90 (.map (some B)) key true).run Try.prog (w.drewN m) = .ok (.tuple #[.int .i64 c, .bool (find4 all n q).isSome]) (w.drewN m) ∧ D.atKey (lit4 q) (.lit (.int .i64 0)) = .lit (.int .i64 c) := fun m => by
    obtain ⟨v, ps, hrun, hv⟩ := (own_map_fr (Fr.drewN m (fun _ => True)) h trivial).look_ok keyed91 Try.underlying90 (zero3 _) (zd := .lit (.int .i64 0)) (zp := []) (plainElem_int Try.underlying3 (by decide)) hkey
    obtain ⟨c, rfl, hc, _⟩ := plainElem_int_inv Try.underlying3 hv
    rw [hL.has q hq hw] at hrun
    exact ⟨c, hrun, congrArg Prod.fst hc⟩
  obtain ⟨c, _, hc⟩ := step 0
  refine ⟨c, fun m => ?_, fun k hk => ?_⟩
  · obtain ⟨c', hr, hc'⟩ := step m
    rw [hc] at hc'
    injection hc' with hc'
    injection hc' with _ hc'
    rw [hc']
    exact hr
  · have := hL.at' q hq hw k hk
    rw [hc] at this
    injection this with this
    injection this
structure LInv (w0 w : World) (ga gm B : Nat) (va : Value) (all : List Int) (cnt n : Nat) (vb : Value) (lb : List Int) : Prop where
  e : EInv w0 w ga gm B va all cnt n
  b : w.ownsRow w0.heap.size 5 1 vb lb.length (nums .u8 lb)
  ne : ∀ i, some i = va.ownBlock → some i ≠ vb.ownBlock
theorem LInv.neB {w0 w : World} {ga gm B cnt n : Nat} {va vb : Value} {all lb : List Int} (h : LInv w0 w ga gm B va all cnt n vb lb) : ∀ i, some i = vb.ownBlock → i ≠ B ∧ i ≠ ga ∧ i ≠ gm := by
  obtain ⟨D, ⟨es, clock, hb, _⟩, _⟩ := h.e.o
  intro i hi
  rcases h.b.2 with ⟨hn, _⟩ | ⟨g', cap, cur, e2, _, hh, _⟩
  · rw [hn] at hi; cases hi
  · rw [e2] at hi
    simp [Value.ownBlock] at hi
    subst hi
    refine ⟨fun e => ?_, fun e => ?_, fun e => ?_⟩
    · rw [e, hb] at hh; cases hh
    · rw [e, h.e.a] at hh; cases hh
    · rw [e, h.e.m] at hh; cases hh
theorem LInv.keep {w0 w w' : World} {ga gm B cnt n : Nat} {va vb : Value} {all lb : List Int} (h : LInv w0 w ga gm B va all cnt n vb lb) (f : Fr w w' (fun _ => True)) : LInv w0 w' ga gm B va all cnt n vb lb :=
  ⟨h.e.keep f, own_fr f h.b (fun _ _ => trivial), h.ne⟩
theorem LInv.learn {w0 w w' : World} {ga gm B cnt n cnt' n' : Nat} {va vb : Value} {all lb : List Int} (h : LInv w0 w ga gm B va all cnt n vb lb) (e : EInv w0 w' ga gm B va all cnt' n') (f : Fr w w' (fun i => i ≠ B)) : LInv w0 w' ga gm B va all cnt' n' vb lb :=
  ⟨e, own_fr f h.b (fun i hi => (h.neB i hi).1), h.ne⟩
/-- A cut of the bytes. -/
theorem cut_C {w : World} {B g c : Nat} {all : List Int} (h : w.ownsRow B 5 1 (.slice (some ⟨g, 0, none⟩) all.length c) all.length (nums .u8 all)) (fr tt : Nat) (hft : fr ≤ tt) (ht : tt ≤ all.length) (hl : all.length ≤ 1099511627776) (A : Option Addr) (hA : fr < tt → A = some ⟨g, fr, none⟩) :
    Kd.C (Kd.int .u8) w A ((all.take tt).drop fr).length ((all.take tt).drop fr) := by
  have hlen : ((all.take tt).drop fr).length = tt - fr := by rw [List.length_drop, List.length_take]; omega
  refine Kd.C_of_reads (enc := Value.int .u8) (d := (0 : Int)) (h1 := fun _ => rfl) ⟨rfl, by rw [hlen]; omega, fun h0 => ?_⟩
  rw [hlen] at h0
  refine ⟨_, hA (by omega), fun i hi => ?_⟩
  rw [hlen] at hi
  have e : (⟨g, fr, none⟩ : Addr).add i = ⟨g, fr + i, none⟩ := by
    unfold Addr.add
    split
    · rename_i h; rw [h]; rfl
    · rfl
  rw [e, row_byte h (fr + i) (by omega)]
  congr 2
  rw [List.getD_eq_getElem?_getD, List.getD_eq_getElem?_getD, List.getElem?_drop, List.getElem?_take, if_pos (by omega)]
/-- put. -/
theorem put_calls (w0 : World) (ga gm B cnt n : Nat) (va vb : Value) (all lb : List Int) (w : World) (h : LInv w0 w ga gm B va all cnt n vb lb) (A : Option Addr) (c : Nat) (s : S44) (hs : OkS s) (h0 : s.f0.length ≤ 4194304) (h2 : s.f2 ≤ 4194304) (hx : lb.length < 140737000000000)
    (hC : ∀ W, w.ownsRow w0.heap.size 5 1 va all.length (nums .u8 all) → W.ownsRow w0.heap.size 5 1 va all.length (nums .u8 all) → Kd.C (Kd.int .u8) W A s.f0.length s.f0) (hc : s.f0.length ≤ c) :
    Calls Try.prog 59 #[vb, .agg #[.slice A s.f0.length c, .int .i64 s.f1, .int .i64 s.f2]] w fun e w' => ∃ vb', e = .returned vb' ∧ LInv w0 w' ga gm B va all cnt n vb' (lb ++ putP s) := by
  have hlt : ∀ i, some i = va.ownBlock → i < w.heap.size := fun i hi => (own_ge h.e.r i hi).2
  have hkf : ∀ W, Kept w W (fun k => some k = vb.ownBlock) → ∀ i, some i = va.ownBlock → W.heap[i]? = w.heap[i]? := fun W hk i hi => hk.2 i (hlt i hi) (fun e => h.ne i hi e)
  refine (lz_put.calls 20001 (fun k => some k = vb.ownBlock) vb lb A c s.f0 s.f1 s.f2 (lb ++ putP s) w0 w h.e.B0 (Kd.R_of_own h.b (fun k hk => hk.symm)) (fun W hk => hC W h.e.r ?_) hc (lzput_f 20001 lb s hs h0 h2 (by decide) hx)).mono ?_
  · rcases h.e.r.2 with ⟨hn, h1⟩ | ⟨g', cap, cur, e2, hge, hh, hr⟩
    · exact ⟨h.e.r.1, .inl ⟨hn, h1⟩⟩
    · exact ⟨h.e.r.1, .inr ⟨g', cap, cur, e2, hge, by rw [hkf W hk g' (by rw [e2]; rfl)]; exact hh, hr⟩⟩
  · rintro e w' ⟨vb', rfl, hR, hB, hk⟩
    have f : Fr w w' (fun i => some i ≠ vb.ownBlock) := ⟨hB.os.trans h.e.B0.os.symm, hB.tape.trans h.e.B0.tape.symm, hB.output.trans h.e.B0.output.symm, hk.1, fun i hi hn => hk.2 i hi hn⟩
    have hnb := h.neB
    have hvb : ∀ i, some i = vb.ownBlock → w0.heap.size ≤ i := fun i hi => (own_ge h.b i hi).1
    refine ⟨vb', rfl, ?_, Kd.own_of_R hR, fun i hi e => ?_⟩
    · exact h.e.fr f (fun i hi e => by have := hvb i e; omega) (fun e => (hnb _ e).2.1 rfl) (fun e => (hnb _ e).2.2 rfl) (fun e => (hnb _ e).1 rfl) (fun i hi e => h.ne i hi e)
    · rcases hR.1 i e.symm with h1 | h1
      · exact h.ne i hi h1
      · have := hlt i hi; omega
end Go.Proofs.Ytnomebkdhjigjaa.W
