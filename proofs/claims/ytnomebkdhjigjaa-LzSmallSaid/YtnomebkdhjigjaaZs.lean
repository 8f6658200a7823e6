/- seqs of lz's laws at one and the same list, walked by hand: it answers yes. -/
import Derived.Test.YtnomebkdhjigjaaZa
namespace Go.Proofs.Ytnomebkdhjigjaa.Z
open Go.RowKit Go.Proofs.Ytnomebkdhjigjaa.MLzDecodes Go.Proofs.YtnomebkdhjigjaaW.PrintWords Go.Proofs.YtnomebkdhjigjaaW.PrintLast Go.Proofs.YtnomebkdhjigjaaW.PrintMore
set_option linter.unusedVariables false
set_option linter.unusedSimpArgs false
def shortS (l : List S44) : Bool := l.all fun s => decide (s.f0.length ≤ 140737488355327)
theorem shortS_at {l : List S44} (h : shortS l = true) (i : Nat) (hi : i < l.length) : ((l.getD i z44).f0.length : Int) ≤ 140737488355327 := by
  unfold shortS at h
  rw [List.all_eq_true] at h
  have := h _ (List.getElem_mem hi)
  rw [List.getD_eq_getElem?_getD, List.getElem?_eq_getElem hi]
  have := of_decide_eq_true this
  simp only [Option.getD_some]
  omega
theorem rd_at' (l : List S44) (i : Nat) : rd_T44 l (i : Int) = l.getD i z44 := by simp [rd_T44]
set_option maxHeartbeats 8000000 in
set_option maxRecDepth 100000 in
theorem seqs_yes (A0 : Option Addr) (c0 : Nat) (l : List S44) (A1 : Option Addr) (c1 : Nat) (w : World) (hr0 : Kd.C k44 w A0 l.length l) (hc0 : l.length ≤ c0) (hr1 : Kd.C k44 w A1 l.length l) (hc1 : l.length ≤ c1) (hl : l.length ≤ 140737488355327) (hs : shortS l = true) :
    Calls Try.prog 23 #[.slice A0 l.length c0, .slice A1 l.length c1] w fun e w' => e = .returned (.bool true) ∧ ∃ m, w' = w.drewN m := by
  have H0 := Aside0.mk hr0
  have H1 := Aside0.mk hr1
  have HS := Aside0.mk hs
  clear hr0 hr1 hs
  go_enter Try.func23, Try.ntmps23
  go_wp2
  go_loopg [5] l.length (fun kq v5 wc => ∃ (i : Nat), kq + i = l.length ∧ v5 = .int .i64 i ∧ Aside0 (∃ m, wc = w.drewN m))
  case atStart => exact ⟨0, by omega, rfl, ⟨0, rfl⟩⟩
  case round =>
    obtain ⟨i, hk, rfl, HW⟩ := hrel
    cases gk with
    | zero =>
      have hge : ¬ ((i : Int) < (l.length : Int)) := by omega
      go_wp2
      go_ret
      exact ⟨rfl, HW.out⟩
    | succ k1 =>
      have hi0 : (0 : Int) ≤ (i : Int) := by omega
      have hilt : (i : Int) < (l.length : Int) := by omega
      obtain ⟨ad, As, cs, rfl, xs0, xs1, xs2, hcs, hrs⟩ := at_T44 H0.out (i : Int) hi0 hilt
      obtain ⟨bd, Bs, ds, rfl, ys0, ys1, ys2, hds, hts⟩ := at_T44 H1.out (i : Int) hi0 hilt
      have hsl := shortS_at HS.out i (by omega)
      rw [rd_at'] at xs0 xs1 xs2 hcs hrs ys0 ys1 ys2 hds hts
      generalize l.getD i z44 = s at xs0 xs1 xs2 hcs hrs ys0 ys1 ys2 hds hts hsl
      obtain ⟨f0, f1, f2⟩ := s
      simp only at xs0 xs1 xs2 hcs hrs ys0 ys1 ys2 hds hts hsl
      rw [Int.toNat_natCast] at xs0 xs1 xs2 ys0 ys1 ys2
      obtain ⟨m0, hm0⟩ := HW.out
      have HM := Aside0.mk hm0
      have HC := Aside0.mk (fun m : Nat => satchellaw03_same.calls (f0.length + 1) As cs f0 Bs ds f0 true (wr.drewN m) (by rw [hm0]; exact hrs) hcs (by rw [hm0]; exact hts) hds (W.same_f f0 (by omega)))
      replace xs0 := (show wr.cell? _ = w.cell? _ by rw [hm0]; rfl).trans xs0
      replace xs1 := (show wr.cell? _ = w.cell? _ by rw [hm0]; rfl).trans xs1
      replace xs2 := (show wr.cell? _ = w.cell? _ by rw [hm0]; rfl).trans xs2
      replace ys0 := (show wr.cell? _ = w.cell? _ by rw [hm0]; rfl).trans ys0
      replace ys1 := (show wr.cell? _ = w.cell? _ by rw [hm0]; rfl).trans ys1
      replace ys2 := (show wr.cell? _ = w.cell? _ by rw [hm0]; rfl).trans ys2
      clear hrs hts hm0 HW
      go_upto_region 6 with fail
      go_quiet ((go_at_call 37; refine (HC.out _).mono ?_; rintro e w' ⟨rfl, ⟨nd, rfl⟩⟩; first | exact ⟨rfl, _, World.drewN_drewN _ _ _⟩ | exact ⟨rfl, _, rfl⟩))
      go_wp2
      go_roundg k1
      case measure => omega
      case rel => exact ⟨i + 1, by omega, by simp, ⟨m0 + nq, by rw [HM.out]; simp⟩⟩
instance decS44 : DecidableEq S44 := fun a b => decidable_of_iff (a.f0 = b.f0 ∧ a.f1 = b.f1 ∧ a.f2 = b.f2) (by
  cases a
  cases b
  simp)
def satchellaw03_seqs.f (k : Nat) (l0 : List (S44)) (l1 : List (S44)) : Option (Bool) := if l0 = l1 ∧ l0.length ≤ 140737488355327 ∧ shortS l0 = true then some true else none
theorem satchellaw03_seqs.mono : ∀ a0 a1 k, LeO (satchellaw03_seqs.f k a0 a1) (satchellaw03_seqs.f (k + 1) a0 a1) := fun _ _ _ => LeO.refl _
theorem satchellaw03_seqs.calls (k : Nat) (A0 : Option Addr) (c0 : Nat) (l0 : List (S44)) (A1 : Option Addr) (c1 : Nat) (l1 : List (S44)) (r : Bool) (w : World) (hr0 : Kd.C k44 w A0 l0.length l0) (hc0 : l0.length ≤ c0) (hr1 : Kd.C k44 w A1 l1.length l1) (hc1 : l1.length ≤ c1) (h : satchellaw03_seqs.f k l0 l1 = some r) :
    Calls Try.prog 23 #[.slice A0 l0.length c0, .slice A1 l1.length c1] w fun e w' => e = .returned (.bool r) ∧ Below w.heap.size w w' := by
  unfold satchellaw03_seqs.f at h
  by_cases c : l0 = l1 ∧ l0.length ≤ 140737488355327 ∧ shortS l0 = true
  · rw [if_pos c] at h
    obtain rfl := Option.some.inj h
    obtain ⟨rfl, c2, c3⟩ := c
    exact (seqs_yes A0 c0 l0 A1 c1 w hr0 hc0 hr1 hc1 c2 c3).mono fun e w' ⟨he, m, hm⟩ => ⟨he, by rw [hm]; exact pw_below_drewN (Below.refl _ _) m⟩
  · rw [if_neg c] at h
    cases h
end Go.Proofs.Ytnomebkdhjigjaa.Z
