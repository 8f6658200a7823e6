/- Contracts and plain facts (texts of mine, and printed ones, made one; what nothing leads to is left out). -/
import Derived.Test.YtnkcbkfccbfjpaaProg
import Derived.Below
import Derived.Deep.Draws
import Derived.Deep.AppendLies
import Derived.Maps.AppendAt
import Derived.OwnWalk
import Derived.Laws.BytesArg
import Derived.Laws.MakeOwn
import Derived.Laws.OwnMore
import Derived.Deep.OwnRows
import Derived.Tactics
import Derived.Lib.ConvBytes
import Derived.Laws.Slices
import Derived.WalkKit
import Derived.KernelRfl
import Derived.RowKit3
import Derived.Deep.LoopGhost
import Derived.Deep.QuietTactic
import Derived.BigQuiet
import Derived.WideLaws
import Derived.Deep.DeepCutAuto
import Derived.Deep.CutBlock
import Derived.Deep.RegionHeld3
import Derived.Laws.Rows
import Derived.Lib.AppendStr
import Derived.ArgAppend
import Derived.Laws.IdiomCopy
import Derived.OrdersHeld
import Derived.Laws.BitsLemmas
import Derived.RowKit
import Derived.StillTail
import Derived.Deep.Quiet
import Derived.Lib.Hide
import Derived.WalkSpells
import Derived.Laws.BitsAllLaws
import Derived.Lib.SlBytesConst
import Derived.Test.YtnkcbkfccbfjpaaQma
/- Contracts of functions of volumes (most of it printed by a program of the kit's). -/
namespace Go.Proofs.Ytnkcbkfccbfjpaa.QVolumesCuts
open Go.RowKit Go.Proofs.YtnkcbkfccbfjpaaW.PrintWords Go.Proofs.YtnkcbkfccbfjpaaW.PrintLast Go.Proofs.YtnkcbkfccbfjpaaW.PrintMore
attribute [local go_sem] max2_int min2_int max_two min_two max_three min_three max_four min_four   -- for this text's walks alone
set_option linter.unusedVariables false
set_option linter.unusedSimpArgs false

def errW : Option Int → Value
  | none => .nilIface
  | some c => .iface 0 (.int .i64 c)
theorem errW_none : errW none = .nilIface := rfl
theorem errW_some (c : Int) : errW (some c) = .iface 0 (.int .i64 c) := rfl

theorem info5 : (Try.prog.info? 5).map (fun i => (i.zero, i.size, i.bytes)) = some (some (.int .u8 0), 1, 1) := by kernel_rfl
theorem info22 : (Try.prog.info? 22).map (fun i => (i.zero, i.size, i.bytes)) = some (some (.slice none 0 0), 1, 24) := by kernel_rfl
def rd_L1 (xs : List (List Int)) (i : Int) : (List Int) := xs.getD i.toNat ([] : List Int)
theorem at_L1 {w : World} {A : Option Addr} {n : Nat} {xs : List (List Int)} (h : Kd.C (Kd.slice 5 (Kd.int .u8)) w A n xs) (i : Int) (h0 : 0 ≤ i) (h1 : i < n) : ∃ ad A0 c0, A = some ad ∧ w.cell? (ad.add i.toNat) = some (.slice A0 (rd_L1 xs i).length c0) ∧ (rd_L1 xs i).length ≤ c0 ∧ (Kd.int .u8).C w A0 (rd_L1 xs i).length (rd_L1 xs i) := by
  obtain ⟨ad, c, e, _, hK, hc0⟩ := Kd.C_get h ([] : List Int) i h0 h1
  have hc : ∀ j u, c[j]? = some u → w.cell? (ad.add (i.toNat * 1 + j)) = some u := hc0
  obtain ⟨A0, c0, rfl, l0, g0⟩ := hK
  exact ⟨ad, A0, c0, e, by have hq := hc 0 _ rfl; rwa [Nat.mul_one, Nat.add_zero] at hq, l0, g0⟩

end Go.Proofs.Ytnkcbkfccbfjpaa.QVolumesCuts
/- Contracts of functions of volumes (most of it printed by a program of the kit's). -/
namespace Go.Proofs.Ytnkcbkfccbfjpaa.QVolumesCuts
open Go.RowKit Go.Proofs.YtnkcbkfccbfjpaaW.PrintWords Go.Proofs.YtnkcbkfccbfjpaaW.PrintLast Go.Proofs.YtnkcbkfccbfjpaaW.PrintMore
attribute [local go_sem] max2_int min2_int max_two min_two max_three min_three max_four min_four   -- for this text's walks alone
set_option linter.unusedVariables false
set_option linter.unusedSimpArgs false

/-! ### volumes_count: function 45 -/
def volumes_count.f (a0 : Int) (a1 : Int) : Option (Int) := if a1 = 0 then (none) else (some (mx 1 (wrap64 (Int.tdiv (wrap64 ((wrap64 (a0 + a1)) - 1)) a1))))
set_option maxHeartbeats 8000000 in
set_option maxRecDepth 100000 in
theorem volumes_count.calls (a0 : Int) (a1 : Int) (r : Int) (w : World) (h : volumes_count.f a0 a1 = some r) :
    Calls Try.prog 45 #[.int .i64 a0, .int .i64 a1] w fun e w' => e = .returned (.int .i64 r) ∧ Below w.heap.size w w' := by
  have HB := Aside0.mk (Below.refl w.heap.size w)
  have H : (if a1 = 0 then (none) else (some (mx 1 (wrap64 (Int.tdiv (wrap64 ((wrap64 (a0 + a1)) - 1)) a1))))) = some r := h
  clear h
  by_cases c3 : a1 = 0
  · rw [if_pos c3] at H
    exact absurd H (by simp)
  · rw [if_neg c3] at H
    have c3b0 : (a1 == 0) = false := beq_eq_false_iff_ne.mpr c3
    have c3b1 : (a1 != 0) = true := bne_iff_ne.mpr c3
    obtain ⟨ji4, hji4⟩ : ∃ j_ : Int, (mx 1 (wrap64 (Int.tdiv (wrap64 ((wrap64 (a0 + a1)) - 1)) a1))) = j_ := ⟨_, rfl⟩
    replace H : (some ji4) = some r := by first | (rw [hji4] at H; exact H) | (simp only [hji4] at H ⊢; exact H)
    (try (have hji4l : 1 ≤ ji4 := by (rw [← hji4]; unfold mx; (repeat' split) <;> omega)))
    (try (have hji4m : 0 ≤ ji4 := by omega))
    have hji4_ : (if 1 < (wrap64 (Int.tdiv (wrap64 ((wrap64 (a0 + a1)) - 1)) a1)) then (wrap64 (Int.tdiv (wrap64 ((wrap64 (a0 + a1)) - 1)) a1)) else 1) = ji4 := hji4
    obtain rfl := Option.some.inj H
    go_enter Try.func45, Try.ntmps45
    go_wp2
    go_ret
    exact ⟨by first | rfl | (simp [errW_none, errW_some] <;> rfl) | (simp only [← hji4]; first | rfl | (simp [errW_none, errW_some] <;> rfl)) | (simp [*, errW_none, errW_some] <;> rfl), by repeat (first | (with_reducible first | exact HB.out | apply below_alloc | apply pw_below_drewN | apply below_drew1) | exact HB.out)⟩

/-! ### volumes_xor: function 46 -/
def volumes_xor.l0 : Nat → List Int → List Int → Int → Int → Option (List Int)
  | 0, _, _, _, _ => none
  | k + 1, x0, x6, x7, x8 => if x8 < x7 then (if 0 ≤ x8 then (if x8 < (x6.length : Int) then (if x8 < (x0.length : Int) then (volumes_xor.l0 k (x0.set (x8 : Int).toNat (Go.bits .xor .u8 (rd x0 x8) (rd x6 x8))) x6 x7 (wrap64 (x8 + 1))) else (none)) else (none)) else (none)) else (some x0)
def volumes_xor.f (k : Nat) (l0 : List Int) (l1 : List Int) : Option (List Int) := volumes_xor.l0 k l0 l1 (l1.length : Int) 0
set_option maxHeartbeats 8000000 in
set_option maxRecDepth 100000 in
theorem volumes_xor.calls (k : Nat) (P0_ : Nat → Prop) (u9000_ : Value) (l0 : List Int) (A1 : Option Addr) (c1 : Nat) (l1 : List Int) (r : List Int) (w0 w : World) (hB : Below w0.heap.size w0 w) (ho0 : Kd.R (Kd.int .u8) 5 w w0.heap.size P0_ u9000_ l0) (hr1 : ∀ W_, Kept w W_ (fun k_ => P0_ k_) → Kd.C (Kd.int .u8) W_ A1 l1.length l1) (hc1 : l1.length ≤ c1) (h : volumes_xor.f k l0 l1 = some r) :
    Calls Try.prog 46 #[u9000_, .slice A1 l1.length c1] w fun e w' => e = .returned (.tuple #[]) ∧ Kd.R (Kd.int .u8) 5 w' w0.heap.size (fun k_ => (P0_ k_ ∨ w.heap.size ≤ k_)) u9000_ r ∧ Below w0.heap.size w0 w' ∧ Kept w w' (fun k_ => P0_ k_) := by
  have HO0 := Aside0.mk (show Kd.R (Kd.int .u8) 5 w w0.heap.size (fun k_ => (P0_ k_ ∨ w.heap.size ≤ k_)) u9000_ l0 from Kd.R_mono ho0 (fun k_ hk => (.inl hk)))
  have HR1 := Aside0.mk hr1
  have HC1 := Aside0.mk hc1
  clear hr1 hc1
  have HK := Aside0.mk (Kept.refl w (fun k_ => P0_ k_))
  have HW0 := Aside0.mk hB.size
  have HB := Aside0.mk hB
  clear hB
  have H : (volumes_xor.l0 k l0 l1 (l1.length : Int) 0) = some r := h
  clear h
  have H' := Aside0.mk H
  clear H
  go_enter Try.func46, Try.ntmps46
  go_wp2
  go_loopg [8] k (fun kq v8 w' => ∃ (x0_1 : List Int) (x8_1 : Int), v8 = .int .i64 x8_1 ∧ Aside0 (volumes_xor.l0 kq x0_1 l1 (l1.length : Int) x8_1 = some r) ∧ Aside0 (kq ≤ k) ∧ Aside0 (Kd.R (Kd.int .u8) 5 w' w0.heap.size (fun k_ => (P0_ k_ ∨ w.heap.size ≤ k_)) u9000_ x0_1) ∧ Aside0 (Kept w w' (fun k_ => P0_ k_)) ∧ Aside0 (Below w0.heap.size w0 w'))
  case atStart => exact ⟨(l0), (0), (by first | rfl | (simp; done) | (simp [*]; done)), H', ⟨Nat.le_refl _⟩, ⟨by (with_reducible repeat (first | apply Kd.R_alloc | apply Kd.R_drewN | apply Kd.R_drew)); exact HO0.out⟩, ⟨by repeat (first | (with_reducible first | exact HK.out | apply Kept.alloc | apply Kept.drewN | apply Kept.drew) | exact HK.out)⟩, ⟨by repeat (first | (with_reducible first | exact HB.out | apply below_alloc | apply pw_below_drewN | apply below_drew1) | exact HB.out)⟩⟩
  case round =>
    clear H'
    try clear c1
    try clear p2
    obtain ⟨x0_1, x8_1, rfl, HA, HK1, HO_0, HK, HB⟩ := hrel
    cases gk with
    | zero => exact absurd HA.out (by simp [volumes_xor.l0])
    | succ k1 =>
      have H := HA.out
      clear HA
      simp only [volumes_xor.l0] at H
      by_cases c3 : x8_1 < (l1.length : Int)
      · rw [if_pos c3] at H
        have c3b0 : decide (x8_1 < (l1.length : Int)) = true := decide_eq_true c3
        clear c3
        by_cases c4 : 0 ≤ x8_1
        · rw [if_pos c4] at H
          have c4b0 : decide (0 ≤ x8_1) = true := decide_eq_true c4
          clear c4
          by_cases c5 : x8_1 < (l1.length : Int)
          · rw [if_pos c5] at H
            have c5b0 : decide (x8_1 < (l1.length : Int)) = true := decide_eq_true c5
            clear c5
            by_cases c6 : x8_1 < (x0_1.length : Int)
            · rw [if_pos c6] at H
              have c6b0 : decide (x8_1 < (x0_1.length : Int)) = true := decide_eq_true c6
              clear c6
              obtain ⟨y115, hy115⟩ : ∃ y_ : List Int, y_ = (x0_1.set (x8_1 : Int).toNat (Go.bits .xor .u8 (rd x0_1 x8_1) (rd l1 x8_1))) := ⟨_, rfl⟩
              replace H : (volumes_xor.l0 k1 y115 l1 (l1.length : Int) (wrap64 (x8_1 + 1))) = some r := by first | (rw [hy115]; with_reducible exact H) | (have H2_ := (Option.bind_some _ _).symm.trans H; rw [hy115]; with_reducible exact H2_) | (have H2_ := (Option.bind_some _ _).symm.trans H; with_reducible exact H2_) | with_reducible exact H | (rw [hy115]; exact H) | exact H
              have Ny115 := Aside0.mk hy115
              clear hy115
              have H' := Aside0.mk H
              clear H
              have p113 : 0 ≤ (x8_1 : Int) := of_decide_eq_true (by first | (with_reducible assumption) | assumption)
              have q113 : x8_1 < (l1.length : Int) := of_decide_eq_true (by first | (with_reducible assumption) | assumption)
              obtain ⟨ad113, e113, hx113_0⟩ := Kd.at_int (Kd.C_kept_now HR1.out HK.out) x8_1 p113 q113
              cases e113
              replace p113 := eq_true p113
              replace q113 := eq_true q113
              obtain ⟨Ao8, co8, eo8⟩ := Kd.R_slice HO_0.out
              subst eo8
              have p114 : 0 ≤ (x8_1 : Int) := of_decide_eq_true (by first | (with_reducible assumption) | assumption)
              have q114 : x8_1 < (x0_1.length : Int) := of_decide_eq_true (by first | (with_reducible assumption) | assumption)
              obtain ⟨ad114, e114, hx114_0⟩ := Kd.at_int (Kd.R_reads' HO_0.out).2.2 x8_1 p114 q114
              cases e114
              replace p114 := eq_true p114
              replace q114 := eq_true q114
              have p7 : 0 ≤ (x8_1 : Int) := of_decide_eq_true (by first | (with_reducible assumption) | assumption)
              have q7 : (x8_1 : Int) < ((x0_1.length : Int) : Int) := of_decide_eq_true (by first | (with_reducible assumption) | assumption)
              obtain ⟨go7, co7, eo7, gb7, gl7, cl7, HG7⟩ := Kd.R_form HO_0.out (by omega)
              (first | cases eo7 | (injection eo7 with ea_ en_ ec_; (first | subst ea_ | (injection ea_ with ea_; subst ea_)); subst ec_; clear en_))
              have GB7 := Aside0.mk gb7
              have GG7 := Aside0.mk HG7
              clear gb7 gl7 HG7
              have HMgo7 := Aside0.mk (show (P0_ go7 ∨ w.heap.size ≤ go7) from (HO_0.out.1 _ rfl))
              (first | simp only [add_plain] at hx114_0 | skip)
              obtain ⟨hx7_0, hf7_0⟩ := Kd.R_celln 0 HO_0.out (x8_1 : Int) p7 q7
              replace p7 := eq_true p7
              replace q7 := eq_true q7
              have HP9 := Kd.R_putg HO_0.out (x8_1 : Int) (Go.bits .xor .u8 (rd x0_1 x8_1) (rd l1 x8_1))
              go_wp2_with (first | ((with_reducible refine gate_store (t := 5) (p := 19) rfl ?_); refine store_event (t := 5) (p := 19) (v := ?vo_w10) (w1 := (wr.setCell ⟨go7, (x8_1 : Int).toNat, none⟩ (.int .u8 (Go.bits .xor .u8 (rd x0_1 x8_1) (rd l1 x8_1))))) ?hg ?ho ?hn ?hr ?_; (case ho => rfl); (case hg => rfl); (case hn => rfl); (case hr => first | (go_simp; done) | (go_simp; rfl)); intro w10 hw; have hg : wr.grownBy w10 (some go7) := (by rw [hw]; exact HP9.2); have hp_ : Kd.R (Kd.int .u8) 5 w10 w0.heap.size (fun k_ => (P0_ k_ ∨ w.heap.size ≤ k_)) (.slice (some ⟨go7, 0, none⟩) x0_1.length co8) y115 := (by rw [hw, Ny115.out]; exact HP9.1); clear HP9; have n0_ := Aside0.mk (hp_); have n1_ := Aside0.mk ((by rw [hw]; exact below_set (HB.out) GB7.out : Below w0.heap.size w0 w10)); have n2_ := Aside0.mk (Kept.of_grown (S := (fun k_ => P0_ k_)) hg (by repeat (first | (with_reducible first | exact HK.out | apply Kept.alloc | apply Kept.drewN | apply Kept.drew) | exact HK.out)) (fun k_ e_ => (HO_0.out.1 k_ e_))); clear HO_0; clear HB; clear HK; have HO_0 := n0_; have HB := n1_; have HK := n2_; clear n0_ n1_ n2_; clear hg hw hp_))
              go_roundg k1
              case measure => have := HK1.out; omega
              case rel => exact ⟨(y115), (wrap64 (x8_1 + 1)), (by first | rfl | (simp; done) | (simp [*]; done)), H', ⟨by have := HK1.out; omega⟩, ⟨by (with_reducible repeat (first | apply Kd.R_alloc | apply Kd.R_drewN | apply Kd.R_drew)); exact HO_0.out⟩, ⟨by repeat (first | (with_reducible first | exact HK.out | apply Kept.alloc | apply Kept.drewN | apply Kept.drew) | exact HK.out)⟩, ⟨by repeat (first | (with_reducible first | exact HB.out | apply below_alloc | apply pw_below_drewN | apply below_drew1) | exact HB.out)⟩⟩
            · rw [if_neg c6] at H
              exact absurd H (by simp)
          · rw [if_neg c5] at H
            exact absurd H (by simp)
        · rw [if_neg c4] at H
          exact absurd H (by simp)
      · rw [if_neg c3] at H
        have c3b0 : decide (x8_1 < (l1.length : Int)) = false := decide_eq_false c3
        clear c3
        obtain rfl := Option.some.inj H
        go_wp2
        first | go_end0 | ((try simp only [Exit.inBlock, Exit.then]); refine bodyPost_ret (results_none rfl _ _ _) rfl ?_)
        exact ⟨by first | rfl | (simp [errW_none, errW_some] <;> rfl) | (simp [*, errW_none, errW_some] <;> rfl), by (with_reducible repeat (first | apply Kd.R_alloc | apply Kd.R_drewN | apply Kd.R_drew)); exact HO_0.out, by repeat (first | (with_reducible first | exact HB.out | apply below_alloc | apply pw_below_drewN | apply below_drew1) | exact HB.out), by repeat (first | (with_reducible first | exact HK.out | apply Kept.alloc | apply Kept.drewN | apply Kept.drew) | exact HK.out)⟩

/-! ### volumes_low: function 79 -/
def volumes_low.l0 : Nat → List Int → Int → Int → Int → Option (List Int)
  | 0, _, _, _, _ => none
  | k + 1, x0, x1, x8, x9 => if x9 < x8 then (if 0 ≤ (wrap64 (8 * x9)) then (if x0.length < 140737488355328 then (volumes_low.l0 k (x0 ++ [(shr .u64 x1 (wrap64 (8 * x9))) % 256]) x1 x8 (wrap64 (x9 + 1))) else (none)) else (none)) else (some x0)
def volumes_low.f (k : Nat) (l0 : List Int) (a1 : Int) (a2 : Int) : Option (List Int) := volumes_low.l0 k l0 a1 a2 0
set_option maxHeartbeats 8000000 in
set_option maxRecDepth 100000 in
theorem volumes_low.calls (k : Nat) (P0_ : Nat → Prop) (u9000_ : Value) (l0 : List Int) (a1 : Int) (a2 : Int) (r : List Int) (w0 w : World) (hB : Below w0.heap.size w0 w) (ho0 : Kd.R (Kd.int .u8) 5 w w0.heap.size P0_ u9000_ l0) (h : volumes_low.f k l0 a1 a2 = some r) :
    Calls Try.prog 79 #[u9000_, .int .u64 a1, .int .i64 a2] w fun e w' => ∃ v0_ : Value, e = .returned (v0_) ∧ Kd.R (Kd.int .u8) 5 w' w0.heap.size (fun k_ => (P0_ k_ ∨ w.heap.size ≤ k_)) v0_ r ∧ Below w0.heap.size w0 w' ∧ Kept w w' (fun k_ => P0_ k_) := by
  have HO0 := Aside0.mk (show Kd.R (Kd.int .u8) 5 w w0.heap.size (fun k_ => (P0_ k_ ∨ w.heap.size ≤ k_)) u9000_ l0 from Kd.R_mono ho0 (fun k_ hk => (.inl hk)))
  have HK := Aside0.mk (Kept.refl w (fun k_ => P0_ k_))
  have HW0 := Aside0.mk hB.size
  have HB := Aside0.mk hB
  clear hB
  have H : (volumes_low.l0 k l0 a1 a2 0) = some r := h
  clear h
  have H' := Aside0.mk H
  clear H
  go_enter Try.func79, Try.ntmps79
  go_wp2
  go_loopg [0, 9] k (fun kq v0 v9 w' => ∃ (x0_1 : List Int) (x9_1 : Int), v9 = .int .i64 x9_1 ∧ Aside0 (volumes_low.l0 kq x0_1 a1 a2 x9_1 = some r) ∧ Aside0 (kq ≤ k) ∧ Aside0 (Kd.R (Kd.int .u8) 5 w' w0.heap.size (fun k_ => (P0_ k_ ∨ w.heap.size ≤ k_)) v0 x0_1) ∧ Aside0 (Kept w w' (fun k_ => P0_ k_)) ∧ Aside0 (Below w0.heap.size w0 w'))
  case atStart => exact ⟨(l0), (0), (by first | rfl | (simp; done) | (simp [*]; done)), H', ⟨Nat.le_refl _⟩, ⟨by (with_reducible repeat (first | apply Kd.R_alloc | apply Kd.R_drewN | apply Kd.R_drew)); exact HO0.out⟩, ⟨by repeat (first | (with_reducible first | exact HK.out | apply Kept.alloc | apply Kept.drewN | apply Kept.drew) | exact HK.out)⟩, ⟨by repeat (first | (with_reducible first | exact HB.out | apply below_alloc | apply pw_below_drewN | apply below_drew1) | exact HB.out)⟩⟩
  case round =>
    clear H'
    try clear p2
    obtain ⟨x0_1, x9_1, rfl, HA, HK1, HO_0, HK, HB⟩ := hrel
    cases gk with
    | zero => exact absurd HA.out (by simp [volumes_low.l0])
    | succ k1 =>
      have H := HA.out
      clear HA
      simp only [volumes_low.l0] at H
      by_cases c4 : x9_1 < a2
      · rw [if_pos c4] at H
        have c4b0 : decide (x9_1 < a2) = true := decide_eq_true c4
        clear c4
        obtain ⟨ji5, hji5⟩ : ∃ j_ : Int, (wrap64 (8 * x9_1)) = j_ := ⟨_, rfl⟩
        replace H : (if 0 ≤ (ji5) then (if x0_1.length < 140737488355328 then (volumes_low.l0 k1 (x0_1 ++ [(shr .u64 a1 (ji5)) % 256]) a1 a2 (wrap64 (x9_1 + 1))) else (none)) else (none)) = some r := by first | (rw [hji5] at H; exact H) | (simp only [hji5] at H ⊢; exact H)
        have hji5w : (IntKind.i64.wrap (8 * x9_1)) = ji5 := (i64_w _).trans hji5
        by_cases c6 : 0 ≤ (ji5)
        · rw [if_pos c6] at H
          have c6b0 := eq_true c6
          have c6b1 : decide (0 ≤ (ji5)) = true := decide_eq_true c6
          clear c6
          obtain ⟨ji7, hji7⟩ : ∃ j_ : Int, (shr .u64 a1 (ji5)) = j_ := ⟨_, rfl⟩
          replace H : (if x0_1.length < 140737488355328 then (volumes_low.l0 k1 (x0_1 ++ [(ji7) % 256]) a1 a2 (wrap64 (x9_1 + 1))) else (none)) = some r := by first | (rw [hji7] at H; exact H) | (simp only [hji7] at H ⊢; exact H)
          have hji7_ : (a1 / 2 ^ min (ji5).toNat 64) = ji7 := hji7
          have hji7z : (ji5) ≤ 64 → (a1 / 2 ^ (ji5).toNat) = ji7 := shr_small hji7
          by_cases c8 : x0_1.length < 140737488355328
          · rw [if_pos c8] at H
            have LMc8 := Aside0.mk c8
            clear c8
            obtain ⟨y116, hy116⟩ : ∃ y_ : List Int, y_ = (x0_1 ++ [(ji7) % 256]) := ⟨_, rfl⟩
            replace H : (volumes_low.l0 k1 y116 a1 a2 (wrap64 (x9_1 + 1))) = some r := by first | (rw [hy116]; with_reducible exact H) | (have H2_ := (Option.bind_some _ _).symm.trans H; rw [hy116]; with_reducible exact H2_) | (have H2_ := (Option.bind_some _ _).symm.trans H; with_reducible exact H2_) | with_reducible exact H | (rw [hy116]; exact H) | exact H
            have Ny116 := Aside0.mk hy116
            clear hy116
            have H' := Aside0.mk H
            clear H
            go_wp2_with (first | ((with_reducible refine gate_builtin (b := .append) (xs := #[.tmp 12, .tmp 18]) rfl ?_); at_builtin; refine Kd.R_append (Kd.int .u8) (w0 := w0) w0.heap.size rfl (.tmp 12) (.tmp 18) 22 5 (.int .u8 0) 1 rfl Try.underlying22 info5 rfl (by decide) (by omega) u0 x0_1 ((ji7) % 256) [.int .u8 ((ji7) % 256)] (fun k_ => (P0_ k_ ∨ w.heap.size ≤ k_)) (fun _ => False) rfl rfl ?aP (fun _ hk => hk.elim) ?aF ?aO ?aB ?aS ?aL ?_; (case aP => exact rfl); (case aB => exact (by repeat (first | (with_reducible first | exact HB.out | apply below_alloc | apply pw_below_drewN | apply below_drew1) | exact HB.out))); (case aF => exact (fun k_ hk => (.inr (Nat.le_trans (by first | exact HK.out.1 | exact (show Kept w _ (fun k_ => P0_ k_) from by repeat (first | (with_reducible first | exact HK.out | apply Kept.alloc | apply Kept.drewN | apply Kept.drew) | exact HK.out)).1) hk)))); (case aO => exact (by (with_reducible repeat (first | apply Kd.R_alloc | apply Kd.R_drewN | apply Kd.R_drew)); exact HO_0.out)); (case aS => exact (below_size (by repeat (first | (with_reducible first | exact HB.out | apply below_alloc | apply pw_below_drewN | apply below_drew1) | exact HB.out)))); (case aL => have := LMc8.out; omega); intro v117 w9 ho hb hg hat; rw [← Ny116.out] at ho; have n0_ := Aside0.mk (hb); have n1_ := Aside0.mk (Kept.of_grown (S := (fun k_ => P0_ k_)) hg (by repeat (first | (with_reducible first | exact HK.out | apply Kept.alloc | apply Kept.drewN | apply Kept.drew) | exact HK.out)) (fun k_ e_ => (HO_0.out.1 k_ e_))); have n2_ := Aside0.mk (ho); clear HB; clear HK; clear HO_0; have HB := n0_; have HK := n1_; have HO118 := n2_; clear n0_ n1_ n2_; clear ho hb hg hat))
            go_roundg k1
            case measure => have := HK1.out; omega
            case rel => exact ⟨(y116), (wrap64 (x9_1 + 1)), (by first | rfl | (simp; done) | (simp [*]; done)), H', ⟨by have := HK1.out; omega⟩, ⟨by (with_reducible repeat (first | apply Kd.R_alloc | apply Kd.R_drewN | apply Kd.R_drew)); exact HO118.out⟩, ⟨by repeat (first | (with_reducible first | exact HK.out | apply Kept.alloc | apply Kept.drewN | apply Kept.drew) | exact HK.out)⟩, ⟨by repeat (first | (with_reducible first | exact HB.out | apply below_alloc | apply pw_below_drewN | apply below_drew1) | exact HB.out)⟩⟩
          · rw [if_neg c8] at H
            exact absurd H (by simp)
        · rw [if_neg c6] at H
          exact absurd H (by simp)
      · rw [if_neg c4] at H
        have c4b0 : decide (x9_1 < a2) = false := decide_eq_false c4
        clear c4
        obtain rfl := Option.some.inj H
        go_wp2
        go_ret
        exact ⟨_, by first | rfl | (simp [errW_none, errW_some] <;> rfl) | (simp [*, errW_none, errW_some] <;> rfl), by (with_reducible repeat (first | apply Kd.R_alloc | apply Kd.R_drewN | apply Kd.R_drew)); exact HO_0.out, by repeat (first | (with_reducible first | exact HB.out | apply below_alloc | apply pw_below_drewN | apply below_drew1) | exact HB.out), by repeat (first | (with_reducible first | exact HK.out | apply Kept.alloc | apply Kept.drewN | apply Kept.drew) | exact HK.out)⟩

theorem xor32_comm (x y : Int) : Go.bits .xor .u32 x y = Go.bits .xor .u32 y x := by
  unfold Go.bits
  simp only [BitVec.xor_comm]
/-! ### gzip_Sum: function 80 -/
mutual
def gzip_Sum.l0 : Nat → Int → List Int → Int → Int → Option (Int)
  | 0, _, _, _, _ => none
  | k + 1, x3, x7, x8, x9 => if x9 < x8 then (if 0 ≤ x9 then (if x9 < (x7.length : Int) then (gzip_Sum.l1 k (Go.bits .xor .u32 x3 ((rd x7 x9) % 4294967296)) x7 x8 x9 0) else (none)) else (none)) else (some (Go.bits .xor .u32 x3 4294967295))
def gzip_Sum.l1 : Nat → Int → List Int → Int → Int → Int → Option (Int)
  | 0, _, _, _, _, _ => none
  | k + 1, x3, x7, x8, x9, x17 => if x17 < 8 then (if (Go.bits .and .u32 x3 1) = 1 then (gzip_Sum.l1 k (Go.bits .xor .u32 (x3 / 2) 3988292384) x7 x8 x9 (wrap64 (x17 + 1))) else (gzip_Sum.l1 k (x3 / 2) x7 x8 x9 (wrap64 (x17 + 1)))) else (gzip_Sum.l0 k x3 x7 x8 (wrap64 (x9 + 1)))
end
def gzip_Sum.f (k : Nat) (l0 : List Int) : Option (Int) := gzip_Sum.l0 k 4294967295 l0 (l0.length : Int) 0
set_option maxHeartbeats 8000000 in
set_option maxRecDepth 100000 in
theorem gzip_Sum.calls (k : Nat) (A0 : Option Addr) (c0 : Nat) (l0 : List Int) (r : Int) (w : World) (hr0 : Kd.C (Kd.int .u8) w A0 l0.length l0) (hc0 : l0.length ≤ c0) (h : gzip_Sum.f k l0 = some r) :
    Calls Try.prog 80 #[.slice A0 l0.length c0] w fun e w' => e = .returned (.int .u32 r) ∧ Drawn0 w w' := by
  have HR0 := Aside0.mk hr0
  have HC0 := Aside0.mk hc0
  clear hr0 hc0
  have H : (gzip_Sum.l0 k 4294967295 l0 (l0.length : Int) 0) = some r := h
  clear h
  have H' := Aside0.mk H
  clear H
  go_enter Try.func80, Try.ntmps80
  go_wp2
  go_loopg [3, 9] k (fun kq v3 v9 w' => ∃ (x3_1 : Int) (x9_1 : Int), v3 = .int .u32 x3_1 ∧ v9 = .int .i64 x9_1 ∧ Aside0 (gzip_Sum.l0 kq x3_1 l0 (l0.length : Int) x9_1 = some r) ∧ Aside0 (kq ≤ k) ∧ Drawn0 w w')
  case atStart => exact ⟨(4294967295), (0), (by first | rfl | (simp; done) | (simp [*]; done)), (by first | rfl | (simp; done) | (simp [*]; done)), H', ⟨Nat.le_refl _⟩, by repeat (first | exact Drawn0.refl _ | apply Drawn0.step)⟩
  case round =>
    clear H'
    obtain ⟨x3_1, x9_1, rfl, rfl, HA, HK1, ⟨m1, rfl⟩⟩ := hrel
    cases gk with
    | zero => exact absurd HA.out (by simp [gzip_Sum.l0])
    | succ k1 =>
      have H := HA.out
      clear HA
      simp only [gzip_Sum.l0] at H
      by_cases c2 : x9_1 < (l0.length : Int)
      · rw [if_pos c2] at H
        have c2b0 : decide (x9_1 < (l0.length : Int)) = true := decide_eq_true c2
        clear c2
        by_cases c3 : 0 ≤ x9_1
        · rw [if_pos c3] at H
          have c3b0 : decide (0 ≤ x9_1) = true := decide_eq_true c3
          clear c3
          by_cases c4 : x9_1 < (l0.length : Int)
          · rw [if_pos c4] at H
            have c4b0 : decide (x9_1 < (l0.length : Int)) = true := decide_eq_true c4
            clear c4
            have H' := Aside0.mk H
            clear H
            have p119 : 0 ≤ (x9_1 : Int) := of_decide_eq_true (by first | (with_reducible assumption) | assumption)
            have q119 : x9_1 < (l0.length : Int) := of_decide_eq_true (by first | (with_reducible assumption) | assumption)
            obtain ⟨ad119, e119, hx119_0⟩ := Kd.at_int HR0.out x9_1 p119 q119
            cases e119
            replace p119 := eq_true p119
            replace q119 := eq_true q119
            go_wp2
            go_loopg [3, 17] k1 (fun kq v3 v17 w' => ∃ (x3_2 : Int) (x17_2 : Int), v3 = .int .u32 x3_2 ∧ v17 = .int .i64 x17_2 ∧ Aside0 (gzip_Sum.l1 kq x3_2 l0 (l0.length : Int) x9_1 x17_2 = some r) ∧ Aside0 (kq ≤ k1) ∧ Drawn0 w w')
            case atStart => exact ⟨(Go.bits .xor .u32 x3_1 ((rd l0 x9_1) % 4294967296)), (0), (by first | rfl | (simp; done) | (simp [*]; done)), (by first | rfl | (simp; done) | (simp [*]; done)), H', ⟨Nat.le_refl _⟩, by repeat (first | exact Drawn0.refl _ | apply Drawn0.step)⟩
            case round =>
              clear H'
              try clear p1
              try clear q1
              try clear hx1
              try clear c2
              try clear c2b0
              try clear p2
              try clear c3
              try clear c3b0
              try clear c4
              try clear c4b0
              try clear hx119_0
              try clear p119
              try clear q119
              obtain ⟨x3_2, x17_2, rfl, rfl, HA, HK2, ⟨m2, rfl⟩⟩ := hrel
              cases gk with
              | zero => exact absurd HA.out (by simp [gzip_Sum.l1])
              | succ k2 =>
                have H := HA.out
                clear HA
                simp only [gzip_Sum.l1] at H
                by_cases c5 : x17_2 < 8
                · rw [if_pos c5] at H
                  have c5b0 : decide (x17_2 < 8) = true := decide_eq_true c5
                  clear c5
                  by_cases c6 : (Go.bits .and .u32 x3_2 1) = 1
                  · rw [if_pos c6] at H
                    have c6b0 : ((Go.bits .and .u32 x3_2 1) == 1) = true := beq_iff_eq.mpr c6
                    have c6b1 : ((Go.bits .and .u32 x3_2 1) != 1) = false := bne_eq_false_iff_eq.mpr c6
                    clear c6
                    have H' := Aside0.mk H
                    clear H
                    go_wp2
                    go_roundg k2
                    case measure => have := HK1.out; have := HK2.out; omega
                    case rel => exact ⟨(Go.bits .xor .u32 (x3_2 / 2) 3988292384), (wrap64 (x17_2 + 1)), (by first | rfl | (simp; done) | (simp [*]; done)), (by first | rfl | (simp; done) | (simp [*]; done)), H', ⟨by have := HK1.out; have := HK2.out; omega⟩, by repeat (first | exact Drawn0.refl _ | apply Drawn0.step)⟩
                  · rw [if_neg c6] at H
                    have c6b0 : ((Go.bits .and .u32 x3_2 1) == 1) = false := beq_eq_false_iff_ne.mpr c6
                    have c6b1 : ((Go.bits .and .u32 x3_2 1) != 1) = true := bne_iff_ne.mpr c6
                    have H' := Aside0.mk H
                    clear H
                    go_wp2
                    go_roundg k2
                    case measure => have := HK1.out; have := HK2.out; omega
                    case rel => exact ⟨(x3_2 / 2), (wrap64 (x17_2 + 1)), (by first | rfl | (simp; done) | (simp [*]; done)), (by first | rfl | (simp; done) | (simp [*]; done)), H', ⟨by have := HK1.out; have := HK2.out; omega⟩, by repeat (first | exact Drawn0.refl _ | apply Drawn0.step)⟩
                · rw [if_neg c5] at H
                  have c5b0 : decide (x17_2 < 8) = false := decide_eq_false c5
                  clear c5
                  have H' := Aside0.mk H
                  clear H
                  go_wp2
                  go_roundg k2
                  case measure => have := HK1.out; have := HK2.out; omega
                  case rel => exact ⟨(x3_2), (wrap64 (x9_1 + 1)), (by first | rfl | (simp; done) | (simp [*]; done)), (by first | rfl | (simp; done) | (simp [*]; done)), H', ⟨by have := HK1.out; have := HK2.out; omega⟩, by repeat (first | exact Drawn0.refl _ | apply Drawn0.step)⟩
          · rw [if_neg c4] at H
            exact absurd H (by simp)
        · rw [if_neg c3] at H
          exact absurd H (by simp)
      · rw [if_neg c2] at H
        have c2b0 : decide (x9_1 < (l0.length : Int)) = false := decide_eq_false c2
        clear c2
        obtain rfl := Option.some.inj H
        go_wp2
        go_ret
        exact ⟨by first | rfl | (rw [xor32_comm]; rfl) | (simp; done) | (simp [*]; done), by repeat (first | exact Drawn0.refl _ | apply Drawn0.step)⟩

end Go.Proofs.Ytnkcbkfccbfjpaa.QVolumesCuts
namespace Go.Proofs.Ytnkcbkfccbfjpaa.PXxhSums
open Go.RowKit Go.Proofs.YtnkcbkfccbfjpaaW.PrintWords Go.Proofs.YtnkcbkfccbfjpaaW.PrintLast Go.Proofs.YtnkcbkfccbfjpaaW.PrintMore
attribute [local go_sem] max2_int min2_int max_two min_two max_three min_three max_four min_four   -- for this text's walks alone
set_option linter.unusedVariables false
set_option linter.unusedSimpArgs false

def errW : Option Int → Value
  | none => .nilIface
  | some c => .iface 0 (.int .i64 c)
theorem errW_none : errW none = .nilIface := rfl
theorem errW_some (c : Int) : errW (some c) = .iface 0 (.int .i64 c) := rfl

end Go.Proofs.Ytnkcbkfccbfjpaa.PXxhSums
/- Texts of mine made one: Xm, Xq, Xa, Xb, Xc, Xd, Xe, Xf, Xg, Xh. -/
/- Sums of 32 bits (XXH32) and of 64 bits (XXH64) as plain functions of numbers and lists: what the program's digests and the document's reference come to. No Go, no memory. -/
namespace Go.Proofs.Ytnkcbkfccbfjpaa.XxhW
open Go.RowKit Go.Proofs.YtnkcbkfccbfjpaaW.PrintWords Go.Proofs.YtnkcbkfccbfjpaaW.PrintLast Go.Proofs.YtnkcbkfccbfjpaaW.PrintMore
set_option linter.unusedVariables false
set_option linter.unusedSimpArgs false
theorem info5 : (Try.prog.info? 5).map (fun i => (i.zero, i.size, i.bytes)) = some (some (.int .u8 0), 1, 1) := by kernel_rfl

theorem clone_nil (n c : Nat) (w : World) : Calls Try.prog 68 #[.slice none n c] w fun e w' => e = .returned (.slice none 0 0) ∧ w' = w := by
  have hq := @Lib.run_eql_slice_nil Try.prog
  go_enter Try.func68, Try.ntmps68
  go_wp2
  go_ret
  exact ⟨rfl, rfl⟩

theorem clone_some (ad : Addr) (c : Nat) (l : List Int) (w : World) (hr : ReadsInt w .u8 (some ad) l.length l) (hl : l.length ≤ 140737488355327) :
    Calls Try.prog 68 #[.slice (some ad) l.length c] w fun e w' => ∃ v, e = .returned v ∧ w'.ownsRow w.heap.size 5 1 v l.length (nums .u8 l) ∧ Below w.heap.size w w' := by
  have hq := @Lib.run_eql_slice_nil Try.prog
  have hb : Below w.heap.size w (w.alloc (.cells #[] 5)) := below_alloc (Below.refl _ _) _
  have ho : (w.alloc (.cells #[] 5)).ownsRow w.heap.size 5 1 (.slice (some ⟨w.heap.size, 0, none⟩) 0 0) ([] : List Int).length (nums .u8 []) := own_lit w w.heap.size 5 .u8 [] (Nat.le_refl _) (by simp)
  go_enter Try.func68, Try.ntmps68
  go_wp2_with (first | (at_builtin; refine print_append_row (w0 := w) w.heap.size rfl (.tmp 5) (.tmp 6) 22 5 .u8 1 rfl Try.underlying22 info5 (by decide) (.slice (some ⟨w.heap.size, 0, none⟩) 0 0) [] l (some ad) l.length c rfl rfl ho (hr.below hb) hb (by simp) (by simp; omega) ?_; intro v1 w1 hO hB hG hA))
  go_ret
  exact ⟨v1, rfl, by simpa using hO, hB⟩

/-- Whatever the slice: what it reads is owned by the result. -/
theorem clone_any (A : Option Addr) (c : Nat) (l : List Int) (w : World) (hr : ReadsInt w .u8 A l.length l) (hl : l.length ≤ 140737488355327) :
    Calls Try.prog 68 #[.slice A l.length c] w fun e w' => ∃ A' c', e = .returned (.slice A' l.length c') ∧ w'.ownsRow w.heap.size 5 1 (.slice A' l.length c') l.length (nums .u8 l) ∧ Below w.heap.size w w' := by
  cases A with
  | some ad =>
    refine (clone_some ad c l w hr hl).mono fun e w' ⟨v, he, ho, hb⟩ => ?_
    obtain ⟨A', c', rfl⟩ := own_slice ho
    exact ⟨A', c', he, ho, hb⟩
  | none =>
    have h0 : l.length = 0 := by
      rcases Nat.eq_zero_or_pos l.length with h | h
      · exact h
      · obtain ⟨ad, e, _⟩ := hr.2.2 h; cases e
    obtain rfl : l = [] := List.eq_nil_of_length_eq_zero h0
    exact (clone_nil _ c w).mono fun e w' ⟨he, hw⟩ => by
      subst he hw
      exact ⟨_, _, rfl, own_nil _ _ _ _, Below.refl _ _⟩
end Go.Proofs.Ytnkcbkfccbfjpaa.XxhW
/- Contract of xxh's pieces, at digests of 32 bits: what waited and what came is taken in whole stripes, what is left waits. Conditions: the lengths stay below 2^47; bytes are bytes. -/
namespace Go.Proofs.Ytnkcbkfccbfjpaa.XxhW
open Go.RowKit Go.Proofs.YtnkcbkfccbfjpaaW.PrintWords Go.Proofs.YtnkcbkfccbfjpaaW.PrintLast Go.Proofs.YtnkcbkfccbfjpaaW.PrintMore
set_option linter.unusedVariables false
set_option linter.unusedSimpArgs false
/-- Behind what happened, the world is as it was at the blocks that ok holds of. -/
structure Fr (w w' : World) (ok : Nat → Prop) : Prop where
  os : w'.os = w.os
  tape : w'.tape = w.tape
  output : w'.output = w.output
  size : w.heap.size ≤ w'.heap.size
  block : ∀ i, i < w.heap.size → ok i → w'.heap[i]? = w.heap[i]?
theorem Fr.then {w w1 w2 : World} {ok : Nat → Prop} (h : Fr w w1 ok) (h' : Fr w1 w2 ok) : Fr w w2 ok :=
  ⟨h'.os.trans h.os, h'.tape.trans h.tape, h'.output.trans h.output, Nat.le_trans h.size h'.size, fun i hi ho => (h'.block i (Nat.lt_of_lt_of_le hi h.size) ho).trans (h.block i hi ho)⟩
theorem Fr.of_grown {w w1 : World} {row : Option Nat} (h : w.grownBy w1 row) : Fr w w1 (fun i => some i ≠ row) := ⟨h.os, h.tape, h.output, h.size, fun i hi ho => h.block i hi ho⟩
theorem Fr.of_below {w w1 : World} (h : Below w.heap.size w w1) (ok : Nat → Prop) : Fr w w1 ok := ⟨h.os, h.tape, h.output, h.size, fun i hi _ => h.block i hi⟩
theorem Fr.below {w w1 : World} {ok : Nat → Prop} {B : Nat} (h : Fr w w1 ok) (hk : ∀ i, i < B → i < w.heap.size ∧ ok i) : Below B w w1 := ⟨h.os, h.tape, h.output, h.size, fun i hi => h.block i (hk i hi).1 (hk i hi).2⟩
theorem Fr.set {w : World} (p : Addr) (u : Value) : Fr w (w.setCell p u) (fun i => i ≠ p.block) := ⟨rfl, rfl, rfl, by simp [World.setCell], fun i _ hi => Below.heap_setCell w p u i hi⟩
theorem Fr.heap {w w1 : World} {ok : Nat → Prop} (h : Fr w w1 ok) {i : Nat} {o : Obj} (hb : w.heap[i]? = some o) (hi : ok i) : w1.heap[i]? = some o := (h.block i (blk_lt hb) hi).trans hb
theorem own_lower {w : World} {base base' : Nat} {e : TypeId} {size n : Nat} {v : Value} {xs : List Value} (h : w.ownsRow base e size v n xs) (hb : base' ≤ base) : w.ownsRow base' e size v n xs := by
  refine ⟨h.1, ?_⟩
  rcases h.2 with h | ⟨g, cap, cur, a, b, c⟩
  · exact .inl h
  · exact .inr ⟨g, cap, cur, a, Nat.le_trans hb b, c⟩

end Go.Proofs.Ytnkcbkfccbfjpaa.XxhW
/- Contracts of xxh's begun32 and takes (32 bits). Conditions: the lengths stay below 2^47; bytes are bytes. -/
/- low behind the bytes of a constant string. -/
namespace Go.Proofs.Ytnkcbkfccbfjpaa.XxhW
open Go.RowKit Go.Proofs.Ytnkcbkfccbfjpaa.QVolumesCuts Go.Proofs.YtnkcbkfccbfjpaaW.PrintWords Go.Proofs.YtnkcbkfccbfjpaaW.PrintLast Go.Proofs.YtnkcbkfccbfjpaaW.PrintMore
set_option linter.unusedVariables false
set_option linter.unusedSimpArgs false
/-- A number's lowest bytes, the lowest first. -/
def lowL (a : Int) (m : Nat) : List Int := (List.range m).map fun i : Nat => a / 2 ^ (8 * i) % 256
theorem lowL_succ (a : Int) (m : Nat) : lowL a (m + 1) = lowL a m ++ [a / 2 ^ (8 * m) % 256] := by
  unfold lowL
  rw [List.range_succ, List.map_append]
  rfl
theorem lowL_len (a : Int) (m : Nat) : (lowL a m).length = m := by simp [lowL]
theorem reads_cells {w : World} {A : Option Addr} {l : List Int} (h : ReadsInt w .u8 A l.length l) : ∀ b, A = some b → ∀ j u, (nums .u8 l)[j]? = some u → w.cell? (b.add j) = some u := by
  rintro b rfl j u hj
  have hjl : j < l.length := by
    rcases Nat.lt_or_ge j l.length with c | c
    · exact c
    · rw [List.getElem?_eq_none (by simp [nums]; omega)] at hj; cases hj
  obtain ⟨ad, e, hh⟩ := h.2.2 (by omega)
  injection e with e
  subst e
  rw [hh j hjl]
  simp only [nums, List.getElem?_map, List.getElem?_eq_getElem hjl, Option.map_some] at hj
  injection hj with hj
  rw [← hj, List.getD_eq_getElem?_getD, List.getElem?_eq_getElem hjl]
  rfl
theorem one_cell (W : World) (v : Value) : ∀ j u, ([v] : List Value)[j]? = some u → (W.alloc (.cells #[v] 5)).cell? ((⟨W.heap.size, 0, none⟩ : Addr).add j) = some u := by
  intro j u hj
  cases j with
  | zero =>
    simp only [List.getElem?_cons_zero, Option.some.injEq] at hj
    subst hj
    exact cell_of_row (W.alloc _) _ 0 _ 5 (0, 0) (heap_alloc_new W _)
  | succ j => simp at hj
set_option maxHeartbeats 4000000 in
set_option maxRecDepth 100000 in
theorem low_first (g : Nat) (l0 : List Int) (a1 : Int) (m : Nat) (w : World) (hr : ReadsInt w .u8 (some ⟨g, 0, none⟩) l0.length l0) (h0 : 0 < l0.length) (hl : l0.length ≤ 1000) (hm : 1 ≤ m) (hm8 : m ≤ 8) :
    Calls Try.prog 79 #[.slice (some ⟨g, 0, none⟩) l0.length l0.length, .int .u64 a1, .int .i64 (m : Int)] w fun e w' => ∃ v, e = .returned v ∧ w'.ownsRow w.heap.size 5 1 v (l0 ++ lowL a1 m).length (nums .u8 (l0 ++ lowL a1 m)) ∧ Below w.heap.size w w' := by
  obtain ⟨i0, hi, hz0, hz1, hz2⟩ := info_parts info5
  have HR := Aside0.mk hr
  have HI := Aside0.mk (And.intro hi (And.intro hz0 (And.intro hz1 hz2)))
  clear hr hi hz0 hz1 hz2
  obtain ⟨LR, hLR⟩ : ∃ L, L = l0 ++ lowL a1 m := ⟨_, rfl⟩
  rw [← hLR]
  have HLR := Aside0.mk hLR
  clear hLR
  go_enter Try.func79, Try.ntmps79
  go_wp2
  go_loopg [0, 9] m (fun kq v0 v9 wc => ∃ i : Nat, kq + i = m ∧ v9 = .int .i64 i ∧ Aside0 (Below w.heap.size w wc) ∧ ((i = 0 ∧ v0 = .slice (some ⟨g, 0, none⟩) l0.length l0.length) ∨ (1 ≤ i ∧ Aside0 (wc.ownsRow w.heap.size 5 1 v0 (l0 ++ lowL a1 i).length (nums .u8 (l0 ++ lowL a1 i))))))
  case atStart => exact ⟨0, by omega, rfl, ⟨Below.refl _ _⟩, .inl ⟨rfl, rfl⟩⟩
  case round =>
    obtain ⟨i, hk, rfl, HB, hcase⟩ := hrel
    cases gk with
    | zero =>
      have hge : ¬ (i : Int) < (m : Int) := by omega
      rcases hcase with ⟨rfl, rfl⟩ | ⟨hi1, HO⟩
      · omega
      have him : i = m := by omega
      subst him
      rw [← HLR.out] at HO
      obtain ⟨A4, c4, rfl⟩ := own_slice HO.out
      go_wp2
      go_ret
      exact ⟨_, rfl, HO.out, HB.out⟩
    | succ k1 =>
      have hlt : (i : Int) < (m : Int) := by omega
      have h80 : (0 : Int) ≤ 8 * (i : Int) := by omega
      have hw8 : IntKind.i64.wrap (8 * (i : Int)) = 8 * (i : Int) := by
        have := IntWalk.wrap64_in (8 * (i : Int)) (by omega)
        rw [i64_w]; exact this
      rcases hcase with ⟨rfl, rfl⟩ | ⟨hi1, HO⟩
      · go_wp2_with (first | (at_builtin; refine wpList_append_grows _ rfl (.tmp 12) (.tmp 18) 22 rfl 5 i0 (.int .u8 0) 1 1 Try.underlying22 HI.out.1 HI.out.2.1 HI.out.2.2.1 HI.out.2.2.2 rfl (by decide) (some ⟨g, 0, none⟩) l0.length l0.length (nums .u8 l0) rfl (fun h => by cases h) (by simp [nums]) (reads_cells (HR.out.below (below_alloc HB.out _))) ⟨wr.heap.size, 0, none⟩ 1 1 [.int .u8 (a1 % 256)] rfl rfl ?hc (by simp [Value.oneCell']) (by omega) (by simp only [maxLen]; omega) (by omega) ?_; (case hc => exact one_cell _ _); intro v5 w5 hO hG; have HO5 := Aside0.mk hO; have HG5 := Aside0.mk hG; clear hO hG))
        go_roundg k1
        case measure => omega
        case rel =>
          refine ⟨1, by omega, by simp, ⟨below_step (below_alloc HB.out _) ((Fr.of_grown HG5.out).below (fun i hi => ⟨hi, by simp⟩))⟩, .inr ⟨Nat.le_refl _, ⟨?_⟩⟩⟩
          have h1 : lowL a1 1 = [a1 % 256] := by
            show [a1 / 2 ^ (8 * 0) % 256] = [a1 % 256]
            rw [show (8 * 0 : Nat) = 0 from rfl, Int.pow_zero, Int.ediv_one]
          have h2 : nums .u8 (l0 ++ lowL a1 1) = nums .u8 l0 ++ [.int .u8 (a1 % 256)] := by rw [h1]; simp [nums]
          have h3 : (l0 ++ lowL a1 1).length = l0.length + 1 := by rw [h1]; simp
          rw [h2, h3]
          exact own_lower HO5.out (below_alloc HB.out _).size
      · obtain ⟨L, hL⟩ : ∃ L, L = l0 ++ lowL a1 i := ⟨_, rfl⟩
        have hll : L.length = l0.length + i := by rw [hL, List.length_append, lowL_len]
        have HX := Aside0.mk (show l0 ++ lowL a1 (i + 1) = L ++ [a1 / 2 ^ (8 * i) % 256] by rw [lowL_succ, hL, List.append_assoc])
        rw [← hL] at HO
        obtain ⟨A4, c4, rfl⟩ := own_slice HO.out
        have hll2 : L.length + 1 ≤ 140737488355328 := by omega
        clear hL hll
        go_wp2_with (first | (at_builtin; refine print_append_num (w0 := w) w.heap.size rfl (.tmp 12) (.tmp 18) 22 5 .u8 1 rfl Try.underlying22 info5 (by decide) (.slice A4 L.length c4) L (a1 / 2 ^ (8 * i) % 256) rfl rfl HO.out HB.out HB.out.size (by omega) ?_; intro v5 w5 hO hB hG hA; have HO5 := Aside0.mk hO; have HB5 := Aside0.mk hB; clear hO hB hG hA))
        go_roundg k1
        case measure => omega
        case rel => exact ⟨i + 1, by omega, by simp, HB5, .inr ⟨by omega, by rw [HX.out]; exact HO5⟩⟩
theorem magic_reads (W : World) : ReadsInt (W.alloc (.cells #[.int .u8 83, .int .u8 65, .int .u8 84, .int .u8 67, .int .u8 72, .int .u8 86, .int .u8 79, .int .u8 76] 5 (8, 9))) .u8 (some ⟨W.heap.size, 0, none⟩) ([83, 65, 84, 67, 72, 86, 79, 76] : List Int).length [83, 65, 84, 67, 72, 86, 79, 76] := by
  refine ⟨rfl, by decide, fun _ => ⟨_, rfl, fun i hi => ?_⟩⟩
  rw [Addr.add_lit, Nat.zero_add, cell_of_row (W.alloc _) _ i _ 5 (8, 9) (heap_alloc_new W _)]
  rcases i with _ | _ | _ | _ | _ | _ | _ | _ | i
  all_goals first | rfl | (exfalso; simp only [List.length_cons, List.length_nil] at hi; omega)
theorem low_val (a : Int) (m : Nat) (hm : m ≤ 8) : ∀ (k i : Nat) (l r : List Int), i ≤ m → volumes_low.l0 k (l ++ lowL a i) a (m : Int) (i : Int) = some r → r = l ++ lowL a m := by
  intro k
  induction k with
  | zero => intro i l r _ h; simp [volumes_low.l0] at h
  | succ k ih =>
    intro i l r hi h
    rw [volumes_low.l0] at h
    by_cases c : (i : Int) < (m : Int)
    · have w1 : wrap64 (8 * (i : Int)) = 8 * (i : Int) := IntWalk.wrap64_in _ (by omega)
      have w2 : wrap64 ((i : Int) + 1) = ((i + 1 : Nat) : Int) := by clear w1; rw [IntWalk.wrap64_in _ (by omega)]; omega
      rw [if_pos c, w1, w2, if_pos (by clear w1 w2; omega)] at h
      by_cases c2 : (l ++ lowL a i).length < 140737488355328
      · have e : shr .u64 a (8 * (i : Int)) = a / 2 ^ (8 * i) := by
          unfold shr
          rw [show min (8 * (i : Int)).toNat IntKind.u64.bits = 8 * i by
            rw [show (8 * (i : Int)).toNat = 8 * i by clear w1 w2; omega, show IntKind.u64.bits = 64 from rfl]
            clear w1 w2
            omega]
        rw [if_pos c2, e, List.append_assoc, ← lowL_succ] at h
        exact ih (i + 1) l r (by clear w1 w2; omega) h
      · rw [if_neg c2] at h
        cases h
    · rw [if_neg c] at h
      have : i = m := by omega
      subst this
      exact (Option.some.inj h).symm
theorem low_magic (k : Nat) (a1 : Int) (t : List Int) (W : World) (h : volumes_low.f k [83, 65, 84, 67, 72, 86, 79, 76] a1 8 = some t) :
    Calls Try.prog 79 #[.slice (some ⟨W.heap.size, 0, none⟩) 8 8, .int .u64 a1, .int .i64 8] (W.alloc (.cells #[.int .u8 83, .int .u8 65, .int .u8 84, .int .u8 67, .int .u8 72, .int .u8 86, .int .u8 79, .int .u8 76] 5 (8, 9))) fun e w' =>
      ∃ v, e = .returned v ∧ Kd.R (Kd.int .u8) 5 w' W.heap.size (fun _ => True) v t ∧ Below (W.alloc (.cells #[.int .u8 83, .int .u8 65, .int .u8 84, .int .u8 67, .int .u8 72, .int .u8 86, .int .u8 79, .int .u8 76] 5 (8, 9))).heap.size (W.alloc (.cells #[.int .u8 83, .int .u8 65, .int .u8 84, .int .u8 67, .int .u8 72, .int .u8 86, .int .u8 79, .int .u8 76] 5 (8, 9))) w' := by
  have ht := low_val a1 8 (by decide) k 0 [83, 65, 84, 67, 72, 86, 79, 76] t (by decide) (by rw [show lowL a1 0 = [] from rfl, List.append_nil]; exact h)
  have hr := magic_reads W
  refine (low_first W.heap.size [83, 65, 84, 67, 72, 86, 79, 76] a1 8 _ hr (by decide) (by decide) (by decide) (by decide)).mono ?_
  rintro e w' ⟨v, rfl, ho, hb⟩
  rw [← ht] at ho
  exact ⟨v, rfl, Kd.R_of_own (own_lower ho (below_alloc (Below.refl _ _) _).size) (fun _ _ => trivial), hb⟩
end Go.Proofs.Ytnkcbkfccbfjpaa.XxhW
/- Volumes, plain: a number's bytes, the sum (CRC-32), exclusive or upon a list, as functions over lists. -/
namespace Go.Proofs.Ytnkcbkfccbfjpaa.XxhW
open Go.RowKit Go.Proofs.Ytnkcbkfccbfjpaa.QVolumesCuts Go.Proofs.YtnkcbkfccbfjpaaW.PrintWords Go.Proofs.YtnkcbkfccbfjpaaW.PrintLast Go.Proofs.YtnkcbkfccbfjpaaW.PrintMore
set_option linter.unusedVariables false
set_option linter.unusedSimpArgs false
theorem rd_at (l : List Int) (i : Nat) : rd l (i : Int) = l.getD i 0 := by simp [rd]
theorem wrap_small (x : Nat) (h : x ≤ 9223372036854775807) : wrap64 (x : Int) = (x : Int) := IntWalk.wrap64_in _ (by omega)
theorem wrap_succ (x : Nat) (h : x < 9223372036854775807) : wrap64 ((x : Int) + 1) = ((x + 1 : Nat) : Int) := by rw [IntWalk.wrap64_in _ (by omega)]; omega
/-! ### a number's bytes -/
theorem low_l0 (a : Int) (m : Nat) (hm : m ≤ 8) : ∀ (j k i : Nat) (l : List Int), i + j = m → j < k → l.length ≤ 1000000000 → volumes_low.l0 k (l ++ lowL a i) a (m : Int) (i : Int) = some (l ++ lowL a m) := by
  intro j
  induction j with
  | zero =>
    intro k i l hi hk hl
    obtain ⟨k, rfl⟩ : ∃ q, k = q + 1 := ⟨k - 1, by omega⟩
    rw [volumes_low.l0, if_neg (by omega), show i = m by omega]
  | succ j ih =>
    intro k i l hi hk hl
    obtain ⟨k, rfl⟩ : ∃ q, k = q + 1 := ⟨k - 1, by omega⟩
    have w1 : wrap64 (8 * (i : Int)) = 8 * (i : Int) := IntWalk.wrap64_in _ (by omega)
    have e : shr .u64 a (8 * (i : Int)) = a / 2 ^ (8 * i) := by
      unfold shr
      rw [show min (8 * (i : Int)).toNat IntKind.u64.bits = 8 * i by
        rw [show (8 * (i : Int)).toNat = 8 * i by clear w1; omega, show IntKind.u64.bits = 64 from rfl]
        clear w1
        omega]
    rw [volumes_low.l0, if_pos (by clear w1; omega), w1, if_pos (by clear w1; omega), if_pos (by rw [List.length_append, lowL_len]; clear w1; omega), e, wrap_succ _ (by clear w1; omega), List.append_assoc, ← lowL_succ]
    exact ih k (i + 1) l (by clear w1; omega) (by clear w1; omega) hl
theorem low_f (k : Nat) (l : List Int) (a : Int) (m : Nat) (hm : m ≤ 8) (hk : m < k) (hl : l.length ≤ 1000000000) : volumes_low.f k l a (m : Int) = some (l ++ lowL a m) := by
  have h := low_l0 a m hm m k 0 l (by omega) hk hl
  rw [show lowL a 0 = [] from rfl, List.append_nil] at h
  exact h
/-! ### the sum -/
def stepC (x : Int) : Int := if x % 2 = 1 then Go.bits .xor .u32 (x / 2) 3988292384 else x / 2
def stepN : Nat → Int → Int
  | 0, x => x
  | n + 1, x => stepN n (stepC x)
def crcL : List Int → Int → Int
  | [], c => c
  | b :: l, c => crcL l (stepN 8 (Go.bits .xor .u32 c (b % 4294967296)))
def crc (l : List Int) : Int := Go.bits .xor .u32 (crcL l 4294967295) 4294967295
theorem wrap_u32 (x : Int) : 0 ≤ IntKind.u32.wrap x ∧ IntKind.u32.wrap x < 4294967296 := by
  rw [IntKind.wrap_u32']
  omega
theorem xor32_in (x y : Int) : 0 ≤ Go.bits .xor .u32 x y ∧ Go.bits .xor .u32 x y < 4294967296 := wrap_u32 _
theorem stepC_in {x : Int} (h : 0 ≤ x ∧ x < 4294967296) : 0 ≤ stepC x ∧ stepC x < 4294967296 := by
  unfold stepC
  split
  · exact xor32_in _ _
  · omega
theorem stepN_in : ∀ (n : Nat) {x : Int}, 0 ≤ x ∧ x < 4294967296 → 0 ≤ stepN n x ∧ stepN n x < 4294967296
  | 0, x, h => h
  | n + 1, x, h => stepN_in n (stepC_in h)
theorem crc_in (l : List Int) : 0 ≤ crc l ∧ crc l < 4294967296 := xor32_in _ _
theorem and_one {x : Int} (h : 0 ≤ x ∧ x < 4294967296) : Go.bits .and .u32 x 1 = x % 2 := by
  rw [Go.u32_and x 1 h.1 h.2 (by decide) (by decide), show (1 : Int).toNat = 1 from rfl, Nat.and_one_is_mod]
  omega
theorem gz_l1 (l : List Int) (n i : Nat) (hi : i < 1000000000) : ∀ (j k q : Nat) (c : Int), q + j = 8 → 0 ≤ c ∧ c < 4294967296 → gzip_Sum.l1 (k + j + 1) c l (n : Int) (i : Int) (q : Int) = gzip_Sum.l0 k (stepN j c) l (n : Int) ((i + 1 : Nat) : Int) := by
  intro j
  induction j with
  | zero =>
    intro k q c hq hc
    rw [gzip_Sum.l1, if_neg (by omega), wrap_succ _ (by omega)]
    rfl
  | succ j ih =>
    intro k q c hq hc
    rw [show k + (j + 1) + 1 = (k + j + 1) + 1 by omega, gzip_Sum.l1, if_pos (by omega), and_one hc, wrap_succ _ (by omega)]
    have e : stepN (j + 1) c = stepN j (stepC c) := rfl
    rw [e, ← ih k (q + 1) (stepC c) (by omega) (stepC_in hc)]
    unfold stepC
    split <;> rfl
theorem gz_l0 (l : List Int) (hl : l.length ≤ 100000000) : ∀ (j k i : Nat) (c : Int), i + j = l.length → 10 * j < k → 0 ≤ c ∧ c < 4294967296 → gzip_Sum.l0 k c l (l.length : Int) (i : Int) = some (Go.bits .xor .u32 (crcL (l.drop i) c) 4294967295) := by
  intro j
  induction j with
  | zero =>
    intro k i c hi hk hc
    obtain ⟨k, rfl⟩ : ∃ q, k = q + 1 := ⟨k - 1, by omega⟩
    rw [gzip_Sum.l0, if_neg (by omega), List.drop_eq_nil_of_le (by omega)]
    rfl
  | succ j ih =>
    intro k i c hi hk hc
    obtain ⟨k, rfl⟩ : ∃ q, k = (q + 8 + 1) + 1 := ⟨k - 10, by omega⟩
    rw [gzip_Sum.l0, if_pos (by omega), if_pos (by omega), if_pos (by omega), rd_at]
    have h1 := gz_l1 l l.length i (by omega) 8 k 0 (Go.bits .xor .u32 c (l.getD i 0 % 4294967296)) rfl (xor32_in _ _)
    rw [show ((0 : Nat) : Int) = 0 from rfl] at h1
    rw [h1, ih k (i + 1) _ (by omega) (by omega) (stepN_in 8 (xor32_in _ _)), List.drop_eq_getElem_cons (show i < l.length by omega), crcL, List.getD_eq_getElem?_getD, List.getElem?_eq_getElem (show i < l.length by omega), Option.getD_some]
theorem gz_f (k : Nat) (l : List Int) (hl : l.length ≤ 100000000) (hk : 10 * l.length < k) : gzip_Sum.f k l = some (crc l) := by
  have h := gz_l0 l hl l.length k 0 4294967295 (by omega) hk (by decide)
  rw [List.drop_zero] at h
  exact h
/-! ### exclusive or upon a list -/
def xorG : Nat → Nat → List Int → List Int → List Int
  | 0, _, tt, _ => tt
  | n + 1, i, tt, b => xorG n (i + 1) (tt.set i (Go.bits .xor .u8 (tt.getD i 0) (b.getD i 0))) b
theorem xorG_len : ∀ (n i : Nat) (tt b : List Int), (xorG n i tt b).length = tt.length
  | 0, _, _, _ => rfl
  | n + 1, i, tt, b => by rw [xorG, xorG_len, List.length_set]
theorem xor_l0 (b : List Int) (hb : b.length ≤ 100000000) : ∀ (j k i : Nat) (tt : List Int), i + j = b.length → j < k → b.length ≤ tt.length → volumes_xor.l0 k tt b (b.length : Int) (i : Int) = some (xorG j i tt b) := by
  intro j
  induction j with
  | zero =>
    intro k i tt hi hk hl
    obtain ⟨k, rfl⟩ : ∃ q, k = q + 1 := ⟨k - 1, by omega⟩
    rw [volumes_xor.l0, if_neg (by omega)]
    rfl
  | succ j ih =>
    intro k i tt hi hk hl
    obtain ⟨k, rfl⟩ : ∃ q, k = q + 1 := ⟨k - 1, by omega⟩
    rw [volumes_xor.l0, if_pos (by omega), if_pos (by omega), if_pos (by omega), if_pos (by omega), rd_at, rd_at, wrap_succ _ (by omega), Int.toNat_natCast]
    exact ih k (i + 1) _ (by omega) (by omega) (by rw [List.length_set]; exact hl)
theorem xor_f (k : Nat) (tt b : List Int) (hb : b.length ≤ 100000000) (hk : b.length < k) (hl : b.length ≤ tt.length) : volumes_xor.f k tt b = some (xorG b.length 0 tt b) := xor_l0 b hb b.length k 0 tt (by omega) hk hl
end Go.Proofs.Ytnkcbkfccbfjpaa.XxhW
/- put of a volume: the print, turned to the bytes of a constant string. -/
namespace Go.Proofs.Ytnkcbkfccbfjpaa.QVolumesCuts
open Go.RowKit Go.Proofs.YtnkcbkfccbfjpaaW.PrintWords Go.Proofs.YtnkcbkfccbfjpaaW.PrintLast Go.Proofs.YtnkcbkfccbfjpaaW.PrintMore
attribute [local go_sem] max2_int min2_int max_two min_two max_three min_three max_four min_four   -- for this text's walks alone
set_option linter.unusedVariables false
set_option linter.unusedSimpArgs false
/-! ### volumes_volume_put: function 47 -/
def volumes_volume_put.j0 : Nat → Int → Int → Int → Int → Bool → Int → Int → Int → List Int → Option (List Int)
  | 0, _, _, _, _, _, _, _, _, _ => none
  | k + 1, x3, x121000, x121001, x121002, x121003, x121004, x121005, x121006, x121007 => (volumes_low.f k (([83, 65, 84, 67, 72, 86, 79, 76] : List Int)) x121000 8).bind fun t124 => ((volumes_low.f k t124 (IntKind.u64.wrap (x121001)) 4).bind fun t127 => ((volumes_low.f k t127 (IntKind.u64.wrap (x121002)) 4).bind fun t130 => ((volumes_low.f k t130 (IntKind.u64.wrap (x3)) 4).bind fun t133 => ((volumes_low.f k t133 (IntKind.u64.wrap (x121004)) 8).bind fun t136 => ((volumes_low.f k t136 (IntKind.u64.wrap (x121005)) 8).bind fun t139 => ((volumes_low.f k t139 (IntKind.u64.wrap (x121006)) 8).bind fun t142 => ((gzip_Sum.f k x121007).bind fun t145 => ((volumes_low.f k t142 (IntKind.u64.wrap (t145)) 4).bind fun t146 => ((volumes_low.f k t146 0 4).bind fun t149 => ((gzip_Sum.f k t149).bind fun t152 => ((volumes_low.f k t149 (IntKind.u64.wrap (t152)) 4).bind fun t153 => (if t153.length + x121007.length < 140737488355328 then (some (t153 ++ x121007)) else (none)))))))))))))
def volumes_volume_put.f (k : Nat) (a0_0 : Int) (a0_1 : Int) (a0_2 : Int) (a0_3 : Bool) (a0_4 : Int) (a0_5 : Int) (a0_6 : Int) (l0_7 : List Int) : Option (List Int) := if a0_3 = true then (volumes_volume_put.j0 k 1 a0_0 a0_1 a0_2 a0_3 a0_4 a0_5 a0_6 l0_7) else (volumes_volume_put.j0 k 0 a0_0 a0_1 a0_2 a0_3 a0_4 a0_5 a0_6 l0_7)
set_option maxHeartbeats 8000000 in
set_option maxRecDepth 100000 in
theorem volumes_volume_put.calls (k : Nat) (a0_0 : Int) (a0_1 : Int) (a0_2 : Int) (a0_3 : Bool) (a0_4 : Int) (a0_5 : Int) (a0_6 : Int) (A0_7 : Option Addr) (c0_7 : Nat) (l0_7 : List Int) (r : List Int) (w : World) (hr0_7 : Kd.C (Kd.int .u8) w A0_7 l0_7.length l0_7) (hc0_7 : l0_7.length ≤ c0_7) (h : volumes_volume_put.f k a0_0 a0_1 a0_2 a0_3 a0_4 a0_5 a0_6 l0_7 = some r) :
    Calls Try.prog 47 #[.agg #[.int .u64 a0_0, .int .i64 a0_1, .int .i64 a0_2, .bool a0_3, .int .i64 a0_4, .int .i64 a0_5, .int .i64 a0_6, .slice A0_7 l0_7.length c0_7]] w fun e w' => ∃ v0_ : Value, e = .returned (v0_) ∧ Kd.R (Kd.int .u8) 5 w' w.heap.size (fun _ => True) v0_ r ∧ Below w.heap.size w w' := by
  have hu88 := Try.underlying88
  have HR0_7 := Aside0.mk hr0_7
  have HC0_7 := Aside0.mk hc0_7
  clear hr0_7 hc0_7
  have HB := Aside0.mk (Below.refl w.heap.size w)
  have H : (if a0_3 = true then (volumes_volume_put.j0 k 1 a0_0 a0_1 a0_2 a0_3 a0_4 a0_5 a0_6 l0_7) else (volumes_volume_put.j0 k 0 a0_0 a0_1 a0_2 a0_3 a0_4 a0_5 a0_6 l0_7)) = some r := h
  clear h
  have HC2 := Aside0.mk H
  clear H
  go_enter Try.func47, Try.ntmps47
  go_upto_if 7 with (first | ((with_reducible refine gate_dst (N := 1) rfl ?_); refine box_event ?hg (N := 1) ?hd (cs := #[.int .u64 a0_0, .int .i64 a0_1, .int .i64 a0_2, .bool a0_3, .int .i64 a0_4, .int .i64 a0_5, .int .i64 a0_6, .slice A0_7 l0_7.length c0_7]) (t := 88) ?hr ?_; (case hd => rfl); (case hg => rfl); (case hr => first | (go_simp; done) | (go_simp; rfl)); intro gb120 hg w3 hbox hb; have n0_ := Aside0.mk (below_step (by repeat (first | (with_reducible first | exact HB.out | apply below_alloc | apply pw_below_drewN | apply below_drew1) | exact HB.out)) hb); have n1_ := Aside0.mk (hbox); have n2_ := Aside0.mk ((by rw [hg]; exact (below_size (by repeat (first | (with_reducible first | exact HB.out | apply below_alloc | apply pw_below_drewN | apply below_drew1) | exact HB.out))) : w.heap.size ≤ gb120)); have n3_ := Aside0.mk ((by rw [hg]; exact (below_size (by repeat (first | (with_reducible first | exact HB.out | apply below_alloc | apply pw_below_drewN | apply below_drew1) | exact HB.out))) : w.heap.size ≤ gb120)); clear HB; have HB := n0_; have BK120 := n1_; have GW120 := n2_; have GE120 := n3_; clear n0_ n1_ n2_ n3_; clear hb hbox hg; have hcz4_0 : w3.cell? ⟨gb120, 0, none⟩ = some (.int .u64 a0_0) := (blk_cell BK120.out 0).trans rfl; have hcz4_1 : w3.cell? ⟨gb120, 1, none⟩ = some (.int .i64 a0_1) := (blk_cell BK120.out 1).trans rfl; have hcz4_2 : w3.cell? ⟨gb120, 2, none⟩ = some (.int .i64 a0_2) := (blk_cell BK120.out 2).trans rfl; have hcz4_3 : w3.cell? ⟨gb120, 3, none⟩ = some (.bool a0_3) := (blk_cell BK120.out 3).trans rfl; have hcz4_4 : w3.cell? ⟨gb120, 4, none⟩ = some (.int .i64 a0_4) := (blk_cell BK120.out 4).trans rfl; have hcz4_5 : w3.cell? ⟨gb120, 5, none⟩ = some (.int .i64 a0_5) := (blk_cell BK120.out 5).trans rfl; have hcz4_6 : w3.cell? ⟨gb120, 6, none⟩ = some (.int .i64 a0_6) := (blk_cell BK120.out 6).trans rfl; have hcz4_7 : w3.cell? ⟨gb120, 7, none⟩ = some (.slice A0_7 l0_7.length c0_7) := (blk_cell BK120.out 7).trans rfl; have hfz4_0 := blk_frozen BK120.out 0; have hfz4_1 := blk_frozen BK120.out 1; have hfz4_2 := blk_frozen BK120.out 2; have hfz4_3 := blk_frozen BK120.out 3; have hfz4_4 := blk_frozen BK120.out 4; have hfz4_5 := blk_frozen BK120.out 5; have hfz4_6 := blk_frozen BK120.out 6; have hfz4_7 := blk_frozen BK120.out 7))
  (try simp only [Act.put, List.setIfInBounds_toArray, List.set_cons_zero, List.set_cons_succ])
  go_cut [3] (fun v3 wc => ∃ (kq : Nat) (x3_1 : Int), v3 = .int .u32 x3_1 ∧ Aside0 (volumes_volume_put.j0 kq x3_1 a0_0 a0_1 a0_2 a0_3 a0_4 a0_5 a0_6 l0_7 = some r) ∧ Aside0 (kq ≤ k) ∧ Aside0 (wc.heap[gb120]? = some (.cells #[.int .u64 a0_0, .int .i64 a0_1, .int .i64 a0_2, .bool a0_3, .int .i64 a0_4, .int .i64 a0_5, .int .i64 a0_6, (.slice A0_7 l0_7.length c0_7)] 88 (0, 0))) ∧ Aside0 (Below w.heap.size w wc))
  case first =>
    have H := HC2.out
    clear HC2
    by_cases c5 : a0_3 = true
    · subst c5
      have H1 : (volumes_volume_put.j0 k 1 a0_0 a0_1 a0_2 true a0_4 a0_5 a0_6 l0_7) = some r := by rw [if_pos rfl] at H; exact H
      clear H
      have H := H1
      clear H1
      have H' := Aside0.mk H
      clear H
      go_wp2
      go_meet
      case rel => exact ⟨_, (1), (by first | rfl | (simp; done) | (simp [*]; done)), H', ⟨by first | omega | exact Nat.le_refl _⟩, ⟨by (with_reducible repeat (first | refine blk_drewN ?_ _ | refine blk_drew ?_ | refine blk_alloc ?_ _)); exact BK120.out⟩, ⟨by repeat (first | (with_reducible first | exact HB.out | apply below_alloc | apply pw_below_drewN | apply below_drew1 | refine below_set ?_ GE120.out) | exact HB.out)⟩⟩
    · replace c5 := Bool.eq_false_iff.mpr c5
      subst c5
      have H1 : (volumes_volume_put.j0 k 0 a0_0 a0_1 a0_2 false a0_4 a0_5 a0_6 l0_7) = some r := by rw [if_neg (show ¬ (false = true) by decide)] at H; exact H
      clear H
      have H := H1
      clear H1
      have H' := Aside0.mk H
      clear H
      go_wp2
      go_meet
      case rel => exact ⟨_, (0), (by first | rfl | (simp; done) | (simp [*]; done)), H', ⟨by first | omega | exact Nat.le_refl _⟩, ⟨by (with_reducible repeat (first | refine blk_drewN ?_ _ | refine blk_drew ?_ | refine blk_alloc ?_ _)); exact BK120.out⟩, ⟨by repeat (first | (with_reducible first | exact HB.out | apply below_alloc | apply pw_below_drewN | apply below_drew1 | refine below_set ?_ GE120.out) | exact HB.out)⟩⟩
  case rest =>
    clear HC2
    try clear p2
    try clear c4
    try clear c5
    try clear hcz4_0
    try clear hcz4_1
    try clear hcz4_2
    try clear hcz4_3
    try clear hcz4_4
    try clear hcz4_5
    try clear hcz4_6
    try clear hcz4_7
    try clear hfz4_0
    try clear hfz4_1
    try clear hfz4_2
    try clear hfz4_3
    try clear hfz4_4
    try clear hfz4_5
    try clear hfz4_6
    try clear hfz4_7
    obtain ⟨kq, x3_1, rfl, HA, HJ1, BK120, HB⟩ := hcut
    cases kq with
    | zero => exact absurd HA.out (by simp [volumes_volume_put.j0])
    | succ kj1 =>
      have H := HA.out
      clear HA
      simp only [volumes_volume_put.j0] at H
      obtain ⟨y121, hy121⟩ : ∃ y_ : List Int, y_ = (([83, 65, 84, 67, 72, 86, 79, 76] : List Int)) := ⟨_, rfl⟩
      replace H : ((volumes_low.f kj1 y121 a0_0 8).bind fun t124 => ((volumes_low.f kj1 t124 (IntKind.u64.wrap (a0_1)) 4).bind fun t127 => ((volumes_low.f kj1 t127 (IntKind.u64.wrap (a0_2)) 4).bind fun t130 => ((volumes_low.f kj1 t130 (IntKind.u64.wrap (x3_1)) 4).bind fun t133 => ((volumes_low.f kj1 t133 (IntKind.u64.wrap (a0_4)) 8).bind fun t136 => ((volumes_low.f kj1 t136 (IntKind.u64.wrap (a0_5)) 8).bind fun t139 => ((volumes_low.f kj1 t139 (IntKind.u64.wrap (a0_6)) 8).bind fun t142 => ((gzip_Sum.f kj1 l0_7).bind fun t145 => ((volumes_low.f kj1 t142 (IntKind.u64.wrap (t145)) 4).bind fun t146 => ((volumes_low.f kj1 t146 0 4).bind fun t149 => ((gzip_Sum.f kj1 t149).bind fun t152 => ((volumes_low.f kj1 t149 (IntKind.u64.wrap (t152)) 4).bind fun t153 => (if t153.length + l0_7.length < 140737488355328 then (some (t153 ++ l0_7)) else (none)))))))))))))) = some r := by first | (rw [hy121]; with_reducible exact H) | (have H2_ := (Option.bind_some _ _).symm.trans H; rw [hy121]; with_reducible exact H2_) | (have H2_ := (Option.bind_some _ _).symm.trans H; with_reducible exact H2_) | with_reducible exact H | (rw [hy121]; exact H) | exact H
      have Ny121 := Aside0.mk hy121
      clear hy121
      replace H := Option.bind_eq_some_iff.mp H
      obtain ⟨t124, A60, H⟩ := H
      replace H : ((volumes_low.f kj1 t124 (IntKind.u64.wrap (a0_1)) 4).bind fun t127 => ((volumes_low.f kj1 t127 (IntKind.u64.wrap (a0_2)) 4).bind fun t130 => ((volumes_low.f kj1 t130 (IntKind.u64.wrap (x3_1)) 4).bind fun t133 => ((volumes_low.f kj1 t133 (IntKind.u64.wrap (a0_4)) 8).bind fun t136 => ((volumes_low.f kj1 t136 (IntKind.u64.wrap (a0_5)) 8).bind fun t139 => ((volumes_low.f kj1 t139 (IntKind.u64.wrap (a0_6)) 8).bind fun t142 => ((gzip_Sum.f kj1 l0_7).bind fun t145 => ((volumes_low.f kj1 t142 (IntKind.u64.wrap (t145)) 4).bind fun t146 => ((volumes_low.f kj1 t146 0 4).bind fun t149 => ((gzip_Sum.f kj1 t149).bind fun t152 => ((volumes_low.f kj1 t149 (IntKind.u64.wrap (t152)) 4).bind fun t153 => (if t153.length + l0_7.length < 140737488355328 then (some (t153 ++ l0_7)) else (none))))))))))))) = some r := H
      have A6 := Aside0.mk A60
      clear A60
      replace H := Option.bind_eq_some_iff.mp H
      obtain ⟨t127, A70, H⟩ := H
      replace H : ((volumes_low.f kj1 t127 (IntKind.u64.wrap (a0_2)) 4).bind fun t130 => ((volumes_low.f kj1 t130 (IntKind.u64.wrap (x3_1)) 4).bind fun t133 => ((volumes_low.f kj1 t133 (IntKind.u64.wrap (a0_4)) 8).bind fun t136 => ((volumes_low.f kj1 t136 (IntKind.u64.wrap (a0_5)) 8).bind fun t139 => ((volumes_low.f kj1 t139 (IntKind.u64.wrap (a0_6)) 8).bind fun t142 => ((gzip_Sum.f kj1 l0_7).bind fun t145 => ((volumes_low.f kj1 t142 (IntKind.u64.wrap (t145)) 4).bind fun t146 => ((volumes_low.f kj1 t146 0 4).bind fun t149 => ((gzip_Sum.f kj1 t149).bind fun t152 => ((volumes_low.f kj1 t149 (IntKind.u64.wrap (t152)) 4).bind fun t153 => (if t153.length + l0_7.length < 140737488355328 then (some (t153 ++ l0_7)) else (none)))))))))))) = some r := H
      have A7 := Aside0.mk A70
      clear A70
      replace H := Option.bind_eq_some_iff.mp H
      obtain ⟨t130, A80, H⟩ := H
      replace H : ((volumes_low.f kj1 t130 (IntKind.u64.wrap (x3_1)) 4).bind fun t133 => ((volumes_low.f kj1 t133 (IntKind.u64.wrap (a0_4)) 8).bind fun t136 => ((volumes_low.f kj1 t136 (IntKind.u64.wrap (a0_5)) 8).bind fun t139 => ((volumes_low.f kj1 t139 (IntKind.u64.wrap (a0_6)) 8).bind fun t142 => ((gzip_Sum.f kj1 l0_7).bind fun t145 => ((volumes_low.f kj1 t142 (IntKind.u64.wrap (t145)) 4).bind fun t146 => ((volumes_low.f kj1 t146 0 4).bind fun t149 => ((gzip_Sum.f kj1 t149).bind fun t152 => ((volumes_low.f kj1 t149 (IntKind.u64.wrap (t152)) 4).bind fun t153 => (if t153.length + l0_7.length < 140737488355328 then (some (t153 ++ l0_7)) else (none))))))))))) = some r := H
      have A8 := Aside0.mk A80
      clear A80
      replace H := Option.bind_eq_some_iff.mp H
      obtain ⟨t133, A90, H⟩ := H
      replace H : ((volumes_low.f kj1 t133 (IntKind.u64.wrap (a0_4)) 8).bind fun t136 => ((volumes_low.f kj1 t136 (IntKind.u64.wrap (a0_5)) 8).bind fun t139 => ((volumes_low.f kj1 t139 (IntKind.u64.wrap (a0_6)) 8).bind fun t142 => ((gzip_Sum.f kj1 l0_7).bind fun t145 => ((volumes_low.f kj1 t142 (IntKind.u64.wrap (t145)) 4).bind fun t146 => ((volumes_low.f kj1 t146 0 4).bind fun t149 => ((gzip_Sum.f kj1 t149).bind fun t152 => ((volumes_low.f kj1 t149 (IntKind.u64.wrap (t152)) 4).bind fun t153 => (if t153.length + l0_7.length < 140737488355328 then (some (t153 ++ l0_7)) else (none)))))))))) = some r := H
      have A9 := Aside0.mk A90
      clear A90
      replace H := Option.bind_eq_some_iff.mp H
      obtain ⟨t136, A100, H⟩ := H
      replace H : ((volumes_low.f kj1 t136 (IntKind.u64.wrap (a0_5)) 8).bind fun t139 => ((volumes_low.f kj1 t139 (IntKind.u64.wrap (a0_6)) 8).bind fun t142 => ((gzip_Sum.f kj1 l0_7).bind fun t145 => ((volumes_low.f kj1 t142 (IntKind.u64.wrap (t145)) 4).bind fun t146 => ((volumes_low.f kj1 t146 0 4).bind fun t149 => ((gzip_Sum.f kj1 t149).bind fun t152 => ((volumes_low.f kj1 t149 (IntKind.u64.wrap (t152)) 4).bind fun t153 => (if t153.length + l0_7.length < 140737488355328 then (some (t153 ++ l0_7)) else (none))))))))) = some r := H
      have A10 := Aside0.mk A100
      clear A100
      replace H := Option.bind_eq_some_iff.mp H
      obtain ⟨t139, A110, H⟩ := H
      replace H : ((volumes_low.f kj1 t139 (IntKind.u64.wrap (a0_6)) 8).bind fun t142 => ((gzip_Sum.f kj1 l0_7).bind fun t145 => ((volumes_low.f kj1 t142 (IntKind.u64.wrap (t145)) 4).bind fun t146 => ((volumes_low.f kj1 t146 0 4).bind fun t149 => ((gzip_Sum.f kj1 t149).bind fun t152 => ((volumes_low.f kj1 t149 (IntKind.u64.wrap (t152)) 4).bind fun t153 => (if t153.length + l0_7.length < 140737488355328 then (some (t153 ++ l0_7)) else (none)))))))) = some r := H
      have A11 := Aside0.mk A110
      clear A110
      replace H := Option.bind_eq_some_iff.mp H
      obtain ⟨t142, A120, H⟩ := H
      replace H : ((gzip_Sum.f kj1 l0_7).bind fun t145 => ((volumes_low.f kj1 t142 (IntKind.u64.wrap (t145)) 4).bind fun t146 => ((volumes_low.f kj1 t146 0 4).bind fun t149 => ((gzip_Sum.f kj1 t149).bind fun t152 => ((volumes_low.f kj1 t149 (IntKind.u64.wrap (t152)) 4).bind fun t153 => (if t153.length + l0_7.length < 140737488355328 then (some (t153 ++ l0_7)) else (none))))))) = some r := H
      have A12 := Aside0.mk A120
      clear A120
      replace H := Option.bind_eq_some_iff.mp H
      obtain ⟨t145, A130, H⟩ := H
      replace H : ((volumes_low.f kj1 t142 (IntKind.u64.wrap (t145)) 4).bind fun t146 => ((volumes_low.f kj1 t146 0 4).bind fun t149 => ((gzip_Sum.f kj1 t149).bind fun t152 => ((volumes_low.f kj1 t149 (IntKind.u64.wrap (t152)) 4).bind fun t153 => (if t153.length + l0_7.length < 140737488355328 then (some (t153 ++ l0_7)) else (none)))))) = some r := H
      have A13 := Aside0.mk A130
      clear A130
      replace H := Option.bind_eq_some_iff.mp H
      obtain ⟨t146, A140, H⟩ := H
      replace H : ((volumes_low.f kj1 t146 0 4).bind fun t149 => ((gzip_Sum.f kj1 t149).bind fun t152 => ((volumes_low.f kj1 t149 (IntKind.u64.wrap (t152)) 4).bind fun t153 => (if t153.length + l0_7.length < 140737488355328 then (some (t153 ++ l0_7)) else (none))))) = some r := H
      have A14 := Aside0.mk A140
      clear A140
      replace H := Option.bind_eq_some_iff.mp H
      obtain ⟨t149, A150, H⟩ := H
      replace H : ((gzip_Sum.f kj1 t149).bind fun t152 => ((volumes_low.f kj1 t149 (IntKind.u64.wrap (t152)) 4).bind fun t153 => (if t153.length + l0_7.length < 140737488355328 then (some (t153 ++ l0_7)) else (none)))) = some r := H
      have A15 := Aside0.mk A150
      clear A150
      replace H := Option.bind_eq_some_iff.mp H
      obtain ⟨t152, A160, H⟩ := H
      replace H : ((volumes_low.f kj1 t149 (IntKind.u64.wrap (t152)) 4).bind fun t153 => (if t153.length + l0_7.length < 140737488355328 then (some (t153 ++ l0_7)) else (none))) = some r := H
      have A16 := Aside0.mk A160
      clear A160
      replace H := Option.bind_eq_some_iff.mp H
      obtain ⟨t153, A170, H⟩ := H
      replace H : (if t153.length + l0_7.length < 140737488355328 then (some (t153 ++ l0_7)) else (none)) = some r := H
      have A17 := Aside0.mk A170
      clear A170
      by_cases c18 : t153.length + l0_7.length < 140737488355328
      · rw [if_pos c18] at H
        have LMc18 := Aside0.mk c18
        clear c18
        obtain ⟨y156, hy156⟩ : ∃ y_ : List Int, y_ = (t153 ++ l0_7) := ⟨_, rfl⟩
        replace H : (some y156) = some r := by first | (rw [hy156]; with_reducible exact H) | (have H2_ := (Option.bind_some _ _).symm.trans H; rw [hy156]; with_reducible exact H2_) | (have H2_ := (Option.bind_some _ _).symm.trans H; with_reducible exact H2_) | with_reducible exact H | (rw [hy156]; exact H) | exact H
        have Ny156 := Aside0.mk hy156
        clear hy156
        obtain rfl := Option.some.inj H
        have kc := fun (W : World) (C : Array Value) (n c : Nat) => Lib.run_convert_bytes_const (P := Try.prog) W 22 5 C n c Try.underlying22 Try.underlying5
        go_upto_region 5 with fail
        clear kc
        have BKm := Aside0.mk (show (wc.alloc (.cells #[.int .u8 83, .int .u8 65, .int .u8 84, .int .u8 67, .int .u8 72, .int .u8 86, .int .u8 79, .int .u8 76] 5 (8, 9))).heap[gb120]? = some (.cells #[.int .u64 a0_0, .int .i64 a0_1, .int .i64 a0_2, .bool a0_3, .int .i64 a0_4, .int .i64 a0_5, .int .i64 a0_6, .slice A0_7 l0_7.length c0_7] 88 (0, 0)) from blk_alloc BK120.out _)
        have HBm := Aside0.mk (below_alloc HB.out (.cells #[.int .u8 83, .int .u8 65, .int .u8 84, .int .u8 67, .int .u8 72, .int .u8 86, .int .u8 79, .int .u8 76] 5 (8, 9)))
        have HLOW := Aside0.mk (Go.Proofs.Ytnkcbkfccbfjpaa.XxhW.low_magic kj1 a0_0 t124 wc (by rw [← Ny121.out]; exact A6.out))
        obtain ⟨wm, hwm⟩ : ∃ W, W = wc.alloc (.cells #[.int .u8 83, .int .u8 65, .int .u8 84, .int .u8 67, .int .u8 72, .int .u8 86, .int .u8 79, .int .u8 76] 5 (8, 9)) := ⟨_, rfl⟩
        rw [← hwm] at BKm HBm HLOW ⊢
        clear hwm
        have hcz21_0 : wm.cell? ⟨gb120, 0, none⟩ = some (.int .u64 a0_0) := (blk_cell BKm.out 0).trans rfl
        have hcz21_1 : wm.cell? ⟨gb120, 1, none⟩ = some (.int .i64 a0_1) := (blk_cell BKm.out 1).trans rfl
        have hcz21_2 : wm.cell? ⟨gb120, 2, none⟩ = some (.int .i64 a0_2) := (blk_cell BKm.out 2).trans rfl
        have hcz21_3 : wm.cell? ⟨gb120, 3, none⟩ = some (.bool a0_3) := (blk_cell BKm.out 3).trans rfl
        have hcz21_4 : wm.cell? ⟨gb120, 4, none⟩ = some (.int .i64 a0_4) := (blk_cell BKm.out 4).trans rfl
        have hcz21_5 : wm.cell? ⟨gb120, 5, none⟩ = some (.int .i64 a0_5) := (blk_cell BKm.out 5).trans rfl
        have hcz21_6 : wm.cell? ⟨gb120, 6, none⟩ = some (.int .i64 a0_6) := (blk_cell BKm.out 6).trans rfl
        have hcz21_7 : wm.cell? ⟨gb120, 7, none⟩ = some (.slice A0_7 l0_7.length c0_7) := (blk_cell BKm.out 7).trans rfl
        have hfz21_0 := blk_frozen BKm.out 0
        have hfz21_1 := blk_frozen BKm.out 1
        have hfz21_2 := blk_frozen BKm.out 2
        have hfz21_3 := blk_frozen BKm.out 3
        have hfz21_4 := blk_frozen BKm.out 4
        have hfz21_5 := blk_frozen BKm.out 5
        have hfz21_6 := blk_frozen BKm.out 6
        have hfz21_7 := blk_frozen BKm.out 7
        go_wp2_with (first | (go_at_call 79; refine HLOW.out.mono ?_; rintro e w23 ⟨v125, rfl, ho0, hb⟩; have n0_ := Aside0.mk (blk_below (g := gb120) (o := .cells #[.int .u64 a0_0, .int .i64 a0_1, .int .i64 a0_2, .bool a0_3, .int .i64 a0_4, .int .i64 a0_5, .int .i64 a0_6, .slice A0_7 l0_7.length c0_7] 88 (0, 0)) BKm.out hb); have n1_ := Aside0.mk (Kd.R_lower ho0 HB.out.size); have n2_ := Aside0.mk (below_step HBm.out hb); clear BK120 BKm; clear HB HBm HLOW; have BK120 := n0_; have HO126 := n1_; have HB := n2_; clear n0_ n1_ n2_; (try clear hb); (try clear ho0); have hcz24_0 : w23.cell? ⟨gb120, 0, none⟩ = some (.int .u64 a0_0) := (blk_cell BK120.out 0).trans rfl; have hcz24_1 : w23.cell? ⟨gb120, 1, none⟩ = some (.int .i64 a0_1) := (blk_cell BK120.out 1).trans rfl; have hcz24_2 : w23.cell? ⟨gb120, 2, none⟩ = some (.int .i64 a0_2) := (blk_cell BK120.out 2).trans rfl; have hcz24_3 : w23.cell? ⟨gb120, 3, none⟩ = some (.bool a0_3) := (blk_cell BK120.out 3).trans rfl; have hcz24_4 : w23.cell? ⟨gb120, 4, none⟩ = some (.int .i64 a0_4) := (blk_cell BK120.out 4).trans rfl; have hcz24_5 : w23.cell? ⟨gb120, 5, none⟩ = some (.int .i64 a0_5) := (blk_cell BK120.out 5).trans rfl; have hcz24_6 : w23.cell? ⟨gb120, 6, none⟩ = some (.int .i64 a0_6) := (blk_cell BK120.out 6).trans rfl; have hcz24_7 : w23.cell? ⟨gb120, 7, none⟩ = some (.slice A0_7 l0_7.length c0_7) := (blk_cell BK120.out 7).trans rfl; have hfz24_0 := blk_frozen BK120.out 0; have hfz24_1 := blk_frozen BK120.out 1; have hfz24_2 := blk_frozen BK120.out 2; have hfz24_3 := blk_frozen BK120.out 3; have hfz24_4 := blk_frozen BK120.out 4; have hfz24_5 := blk_frozen BK120.out 5; have hfz24_6 := blk_frozen BK120.out 6; have hfz24_7 := blk_frozen BK120.out 7; obtain ⟨Ao25, co25, eo25⟩ := Kd.R_slice HO126.out; subst eo25) | ((with_reducible refine gate_callee (f := 79) rfl ?_); refine goesL_ (some 20) rfl rfl Try.func79 (by kernel_rfl) rfl #[.slice Ao25 t124.length co25, .int .u64 (IntKind.u64.wrap (a0_1)), .int .i64 4] rfl (by (try simp only [List.map_toArray, List.map_cons, List.map_nil]); first | done | rfl | (simp only [List.length_drop, List.length_take]; rfl)) ?_; (with_reducible refine (volumes_low.calls kj1 (fun k_ => some k_ = (.slice Ao25 t124.length co25 : Value).ownBlock) (.slice Ao25 t124.length co25) t124 (IntKind.u64.wrap (a0_1)) 4 t127 w _ ?side1 ?side2 A7.out).mono ?_); (case side1 => repeat (first | (with_reducible first | exact HB.out | apply below_alloc | apply pw_below_drewN | apply below_drew1 | refine below_set ?_ GE120.out) | exact HB.out)); (case side2 => exact Kd.R_tight rfl HO126.out); rintro e w26 ⟨v128, rfl, ho0, hb, hkp⟩; refine ⟨_, rfl, ?_⟩; have n0_ := Aside0.mk (blk_kept (by (with_reducible repeat (first | refine blk_drewN ?_ _ | refine blk_drew ?_ | refine blk_alloc ?_ _)); exact BK120.out) hkp (fun hs_ => (fun e_ => (Kd.R_ne HO126.out BK120.out (by decide)) e_) hs_)); have n1_ := Aside0.mk (Kd.R_mono (ok' := fun k_ => True) ho0 (fun k_ hk_ => trivial)); have n2_ := Aside0.mk (hb); clear BK120; clear HB; clear HO126; have BK120 := n0_; have HO129 := n1_; have HB := n2_; clear n0_ n1_ n2_; (try clear hb); (try clear hkp); (try clear ho0); have hcz27_0 : w26.cell? ⟨gb120, 0, none⟩ = some (.int .u64 a0_0) := (blk_cell BK120.out 0).trans rfl; have hcz27_1 : w26.cell? ⟨gb120, 1, none⟩ = some (.int .i64 a0_1) := (blk_cell BK120.out 1).trans rfl; have hcz27_2 : w26.cell? ⟨gb120, 2, none⟩ = some (.int .i64 a0_2) := (blk_cell BK120.out 2).trans rfl; have hcz27_3 : w26.cell? ⟨gb120, 3, none⟩ = some (.bool a0_3) := (blk_cell BK120.out 3).trans rfl; have hcz27_4 : w26.cell? ⟨gb120, 4, none⟩ = some (.int .i64 a0_4) := (blk_cell BK120.out 4).trans rfl; have hcz27_5 : w26.cell? ⟨gb120, 5, none⟩ = some (.int .i64 a0_5) := (blk_cell BK120.out 5).trans rfl; have hcz27_6 : w26.cell? ⟨gb120, 6, none⟩ = some (.int .i64 a0_6) := (blk_cell BK120.out 6).trans rfl; have hcz27_7 : w26.cell? ⟨gb120, 7, none⟩ = some (.slice A0_7 l0_7.length c0_7) := (blk_cell BK120.out 7).trans rfl; have hfz27_0 := blk_frozen BK120.out 0; have hfz27_1 := blk_frozen BK120.out 1; have hfz27_2 := blk_frozen BK120.out 2; have hfz27_3 := blk_frozen BK120.out 3; have hfz27_4 := blk_frozen BK120.out 4; have hfz27_5 := blk_frozen BK120.out 5; have hfz27_6 := blk_frozen BK120.out 6; have hfz27_7 := blk_frozen BK120.out 7; obtain ⟨Ao28, co28, eo28⟩ := Kd.R_slice HO129.out; subst eo28) | ((with_reducible refine gate_callee (f := 79) rfl ?_); refine goesL_ (some 26) rfl rfl Try.func79 (by kernel_rfl) rfl #[.slice Ao28 t127.length co28, .int .u64 (IntKind.u64.wrap (a0_2)), .int .i64 4] rfl (by (try simp only [List.map_toArray, List.map_cons, List.map_nil]); first | done | rfl | (simp only [List.length_drop, List.length_take]; rfl)) ?_; (with_reducible refine (volumes_low.calls kj1 (fun k_ => some k_ = (.slice Ao28 t127.length co28 : Value).ownBlock) (.slice Ao28 t127.length co28) t127 (IntKind.u64.wrap (a0_2)) 4 t130 w _ ?side1 ?side2 A8.out).mono ?_); (case side1 => repeat (first | (with_reducible first | exact HB.out | apply below_alloc | apply pw_below_drewN | apply below_drew1 | refine below_set ?_ GE120.out) | exact HB.out)); (case side2 => exact Kd.R_tight rfl HO129.out); rintro e w29 ⟨v131, rfl, ho0, hb, hkp⟩; refine ⟨_, rfl, ?_⟩; have n0_ := Aside0.mk (blk_kept (by (with_reducible repeat (first | refine blk_drewN ?_ _ | refine blk_drew ?_ | refine blk_alloc ?_ _)); exact BK120.out) hkp (fun hs_ => (fun e_ => (Kd.R_ne HO129.out BK120.out (by decide)) e_) hs_)); have n1_ := Aside0.mk (Kd.R_mono (ok' := fun k_ => True) ho0 (fun k_ hk_ => trivial)); have n2_ := Aside0.mk (hb); clear BK120; clear HB; clear HO129; have BK120 := n0_; have HO132 := n1_; have HB := n2_; clear n0_ n1_ n2_; (try clear hb); (try clear hkp); (try clear ho0); obtain ⟨Ao30, co30, eo30⟩ := Kd.R_slice HO132.out; subst eo30) | ((with_reducible refine gate_callee (f := 79) rfl ?_); refine goesL_ (some 30) rfl rfl Try.func79 (by kernel_rfl) rfl #[.slice Ao30 t130.length co30, .int .u64 (IntKind.u64.wrap (x3_1)), .int .i64 4] rfl (by (try simp only [List.map_toArray, List.map_cons, List.map_nil]); first | done | rfl | (simp only [List.length_drop, List.length_take]; rfl)) ?_; (with_reducible refine (volumes_low.calls kj1 (fun k_ => some k_ = (.slice Ao30 t130.length co30 : Value).ownBlock) (.slice Ao30 t130.length co30) t130 (IntKind.u64.wrap (x3_1)) 4 t133 w _ ?side1 ?side2 A9.out).mono ?_); (case side1 => repeat (first | (with_reducible first | exact HB.out | apply below_alloc | apply pw_below_drewN | apply below_drew1 | refine below_set ?_ GE120.out) | exact HB.out)); (case side2 => exact Kd.R_tight rfl HO132.out); rintro e w31 ⟨v134, rfl, ho0, hb, hkp⟩; refine ⟨_, rfl, ?_⟩; have n0_ := Aside0.mk (blk_kept (by (with_reducible repeat (first | refine blk_drewN ?_ _ | refine blk_drew ?_ | refine blk_alloc ?_ _)); exact BK120.out) hkp (fun hs_ => (fun e_ => (Kd.R_ne HO132.out BK120.out (by decide)) e_) hs_)); have n1_ := Aside0.mk (Kd.R_mono (ok' := fun k_ => True) ho0 (fun k_ hk_ => trivial)); have n2_ := Aside0.mk (hb); clear BK120; clear HB; clear HO132; have BK120 := n0_; have HO135 := n1_; have HB := n2_; clear n0_ n1_ n2_; (try clear hb); (try clear hkp); (try clear ho0); have hcz32_0 : w31.cell? ⟨gb120, 0, none⟩ = some (.int .u64 a0_0) := (blk_cell BK120.out 0).trans rfl; have hcz32_1 : w31.cell? ⟨gb120, 1, none⟩ = some (.int .i64 a0_1) := (blk_cell BK120.out 1).trans rfl; have hcz32_2 : w31.cell? ⟨gb120, 2, none⟩ = some (.int .i64 a0_2) := (blk_cell BK120.out 2).trans rfl; have hcz32_3 : w31.cell? ⟨gb120, 3, none⟩ = some (.bool a0_3) := (blk_cell BK120.out 3).trans rfl; have hcz32_4 : w31.cell? ⟨gb120, 4, none⟩ = some (.int .i64 a0_4) := (blk_cell BK120.out 4).trans rfl; have hcz32_5 : w31.cell? ⟨gb120, 5, none⟩ = some (.int .i64 a0_5) := (blk_cell BK120.out 5).trans rfl; have hcz32_6 : w31.cell? ⟨gb120, 6, none⟩ = some (.int .i64 a0_6) := (blk_cell BK120.out 6).trans rfl; have hcz32_7 : w31.cell? ⟨gb120, 7, none⟩ = some (.slice A0_7 l0_7.length c0_7) := (blk_cell BK120.out 7).trans rfl; have hfz32_0 := blk_frozen BK120.out 0; have hfz32_1 := blk_frozen BK120.out 1; have hfz32_2 := blk_frozen BK120.out 2; have hfz32_3 := blk_frozen BK120.out 3; have hfz32_4 := blk_frozen BK120.out 4; have hfz32_5 := blk_frozen BK120.out 5; have hfz32_6 := blk_frozen BK120.out 6; have hfz32_7 := blk_frozen BK120.out 7; obtain ⟨Ao33, co33, eo33⟩ := Kd.R_slice HO135.out; subst eo33) | ((with_reducible refine gate_callee (f := 79) rfl ?_); refine goesL_ (some 36) rfl rfl Try.func79 (by kernel_rfl) rfl #[.slice Ao33 t133.length co33, .int .u64 (IntKind.u64.wrap (a0_4)), .int .i64 8] rfl (by (try simp only [List.map_toArray, List.map_cons, List.map_nil]); first | done | rfl | (simp only [List.length_drop, List.length_take]; rfl)) ?_; (with_reducible refine (volumes_low.calls kj1 (fun k_ => some k_ = (.slice Ao33 t133.length co33 : Value).ownBlock) (.slice Ao33 t133.length co33) t133 (IntKind.u64.wrap (a0_4)) 8 t136 w _ ?side1 ?side2 A10.out).mono ?_); (case side1 => repeat (first | (with_reducible first | exact HB.out | apply below_alloc | apply pw_below_drewN | apply below_drew1 | refine below_set ?_ GE120.out) | exact HB.out)); (case side2 => exact Kd.R_tight rfl HO135.out); rintro e w34 ⟨v137, rfl, ho0, hb, hkp⟩; refine ⟨_, rfl, ?_⟩; have n0_ := Aside0.mk (blk_kept (by (with_reducible repeat (first | refine blk_drewN ?_ _ | refine blk_drew ?_ | refine blk_alloc ?_ _)); exact BK120.out) hkp (fun hs_ => (fun e_ => (Kd.R_ne HO135.out BK120.out (by decide)) e_) hs_)); have n1_ := Aside0.mk (Kd.R_mono (ok' := fun k_ => True) ho0 (fun k_ hk_ => trivial)); have n2_ := Aside0.mk (hb); clear BK120; clear HB; clear HO135; have BK120 := n0_; have HO138 := n1_; have HB := n2_; clear n0_ n1_ n2_; (try clear hb); (try clear hkp); (try clear ho0); have hcz35_0 : w34.cell? ⟨gb120, 0, none⟩ = some (.int .u64 a0_0) := (blk_cell BK120.out 0).trans rfl; have hcz35_1 : w34.cell? ⟨gb120, 1, none⟩ = some (.int .i64 a0_1) := (blk_cell BK120.out 1).trans rfl; have hcz35_2 : w34.cell? ⟨gb120, 2, none⟩ = some (.int .i64 a0_2) := (blk_cell BK120.out 2).trans rfl; have hcz35_3 : w34.cell? ⟨gb120, 3, none⟩ = some (.bool a0_3) := (blk_cell BK120.out 3).trans rfl; have hcz35_4 : w34.cell? ⟨gb120, 4, none⟩ = some (.int .i64 a0_4) := (blk_cell BK120.out 4).trans rfl; have hcz35_5 : w34.cell? ⟨gb120, 5, none⟩ = some (.int .i64 a0_5) := (blk_cell BK120.out 5).trans rfl; have hcz35_6 : w34.cell? ⟨gb120, 6, none⟩ = some (.int .i64 a0_6) := (blk_cell BK120.out 6).trans rfl; have hcz35_7 : w34.cell? ⟨gb120, 7, none⟩ = some (.slice A0_7 l0_7.length c0_7) := (blk_cell BK120.out 7).trans rfl; have hfz35_0 := blk_frozen BK120.out 0; have hfz35_1 := blk_frozen BK120.out 1; have hfz35_2 := blk_frozen BK120.out 2; have hfz35_3 := blk_frozen BK120.out 3; have hfz35_4 := blk_frozen BK120.out 4; have hfz35_5 := blk_frozen BK120.out 5; have hfz35_6 := blk_frozen BK120.out 6; have hfz35_7 := blk_frozen BK120.out 7; obtain ⟨Ao36, co36, eo36⟩ := Kd.R_slice HO138.out; subst eo36) | ((with_reducible refine gate_callee (f := 79) rfl ?_); refine goesL_ (some 42) rfl rfl Try.func79 (by kernel_rfl) rfl #[.slice Ao36 t136.length co36, .int .u64 (IntKind.u64.wrap (a0_5)), .int .i64 8] rfl (by (try simp only [List.map_toArray, List.map_cons, List.map_nil]); first | done | rfl | (simp only [List.length_drop, List.length_take]; rfl)) ?_; (with_reducible refine (volumes_low.calls kj1 (fun k_ => some k_ = (.slice Ao36 t136.length co36 : Value).ownBlock) (.slice Ao36 t136.length co36) t136 (IntKind.u64.wrap (a0_5)) 8 t139 w _ ?side1 ?side2 A11.out).mono ?_); (case side1 => repeat (first | (with_reducible first | exact HB.out | apply below_alloc | apply pw_below_drewN | apply below_drew1 | refine below_set ?_ GE120.out) | exact HB.out)); (case side2 => exact Kd.R_tight rfl HO138.out); rintro e w37 ⟨v140, rfl, ho0, hb, hkp⟩; refine ⟨_, rfl, ?_⟩; have n0_ := Aside0.mk (blk_kept (by (with_reducible repeat (first | refine blk_drewN ?_ _ | refine blk_drew ?_ | refine blk_alloc ?_ _)); exact BK120.out) hkp (fun hs_ => (fun e_ => (Kd.R_ne HO138.out BK120.out (by decide)) e_) hs_)); have n1_ := Aside0.mk (Kd.R_mono (ok' := fun k_ => True) ho0 (fun k_ hk_ => trivial)); have n2_ := Aside0.mk (hb); clear BK120; clear HB; clear HO138; have BK120 := n0_; have HO141 := n1_; have HB := n2_; clear n0_ n1_ n2_; (try clear hb); (try clear hkp); (try clear ho0); have hcz38_0 : w37.cell? ⟨gb120, 0, none⟩ = some (.int .u64 a0_0) := (blk_cell BK120.out 0).trans rfl; have hcz38_1 : w37.cell? ⟨gb120, 1, none⟩ = some (.int .i64 a0_1) := (blk_cell BK120.out 1).trans rfl; have hcz38_2 : w37.cell? ⟨gb120, 2, none⟩ = some (.int .i64 a0_2) := (blk_cell BK120.out 2).trans rfl; have hcz38_3 : w37.cell? ⟨gb120, 3, none⟩ = some (.bool a0_3) := (blk_cell BK120.out 3).trans rfl; have hcz38_4 : w37.cell? ⟨gb120, 4, none⟩ = some (.int .i64 a0_4) := (blk_cell BK120.out 4).trans rfl; have hcz38_5 : w37.cell? ⟨gb120, 5, none⟩ = some (.int .i64 a0_5) := (blk_cell BK120.out 5).trans rfl; have hcz38_6 : w37.cell? ⟨gb120, 6, none⟩ = some (.int .i64 a0_6) := (blk_cell BK120.out 6).trans rfl; have hcz38_7 : w37.cell? ⟨gb120, 7, none⟩ = some (.slice A0_7 l0_7.length c0_7) := (blk_cell BK120.out 7).trans rfl; have hfz38_0 := blk_frozen BK120.out 0; have hfz38_1 := blk_frozen BK120.out 1; have hfz38_2 := blk_frozen BK120.out 2; have hfz38_3 := blk_frozen BK120.out 3; have hfz38_4 := blk_frozen BK120.out 4; have hfz38_5 := blk_frozen BK120.out 5; have hfz38_6 := blk_frozen BK120.out 6; have hfz38_7 := blk_frozen BK120.out 7; obtain ⟨Ao39, co39, eo39⟩ := Kd.R_slice HO141.out; subst eo39) | ((with_reducible refine gate_callee (f := 79) rfl ?_); refine goesL_ (some 48) rfl rfl Try.func79 (by kernel_rfl) rfl #[.slice Ao39 t139.length co39, .int .u64 (IntKind.u64.wrap (a0_6)), .int .i64 8] rfl (by (try simp only [List.map_toArray, List.map_cons, List.map_nil]); first | done | rfl | (simp only [List.length_drop, List.length_take]; rfl)) ?_; (with_reducible refine (volumes_low.calls kj1 (fun k_ => some k_ = (.slice Ao39 t139.length co39 : Value).ownBlock) (.slice Ao39 t139.length co39) t139 (IntKind.u64.wrap (a0_6)) 8 t142 w _ ?side1 ?side2 A12.out).mono ?_); (case side1 => repeat (first | (with_reducible first | exact HB.out | apply below_alloc | apply pw_below_drewN | apply below_drew1 | refine below_set ?_ GE120.out) | exact HB.out)); (case side2 => exact Kd.R_tight rfl HO141.out); rintro e w40 ⟨v143, rfl, ho0, hb, hkp⟩; refine ⟨_, rfl, ?_⟩; have n0_ := Aside0.mk (blk_kept (by (with_reducible repeat (first | refine blk_drewN ?_ _ | refine blk_drew ?_ | refine blk_alloc ?_ _)); exact BK120.out) hkp (fun hs_ => (fun e_ => (Kd.R_ne HO141.out BK120.out (by decide)) e_) hs_)); have n1_ := Aside0.mk (Kd.R_mono (ok' := fun k_ => True) ho0 (fun k_ hk_ => trivial)); have n2_ := Aside0.mk (hb); clear BK120; clear HB; clear HO141; have BK120 := n0_; have HO144 := n1_; have HB := n2_; clear n0_ n1_ n2_; (try clear hb); (try clear hkp); (try clear ho0); have hcz41_0 : w40.cell? ⟨gb120, 0, none⟩ = some (.int .u64 a0_0) := (blk_cell BK120.out 0).trans rfl; have hcz41_1 : w40.cell? ⟨gb120, 1, none⟩ = some (.int .i64 a0_1) := (blk_cell BK120.out 1).trans rfl; have hcz41_2 : w40.cell? ⟨gb120, 2, none⟩ = some (.int .i64 a0_2) := (blk_cell BK120.out 2).trans rfl; have hcz41_3 : w40.cell? ⟨gb120, 3, none⟩ = some (.bool a0_3) := (blk_cell BK120.out 3).trans rfl; have hcz41_4 : w40.cell? ⟨gb120, 4, none⟩ = some (.int .i64 a0_4) := (blk_cell BK120.out 4).trans rfl; have hcz41_5 : w40.cell? ⟨gb120, 5, none⟩ = some (.int .i64 a0_5) := (blk_cell BK120.out 5).trans rfl; have hcz41_6 : w40.cell? ⟨gb120, 6, none⟩ = some (.int .i64 a0_6) := (blk_cell BK120.out 6).trans rfl; have hcz41_7 : w40.cell? ⟨gb120, 7, none⟩ = some (.slice A0_7 l0_7.length c0_7) := (blk_cell BK120.out 7).trans rfl; have hfz41_0 := blk_frozen BK120.out 0; have hfz41_1 := blk_frozen BK120.out 1; have hfz41_2 := blk_frozen BK120.out 2; have hfz41_3 := blk_frozen BK120.out 3; have hfz41_4 := blk_frozen BK120.out 4; have hfz41_5 := blk_frozen BK120.out 5; have hfz41_6 := blk_frozen BK120.out 6; have hfz41_7 := blk_frozen BK120.out 7) | ((with_reducible refine gate_callee (f := 80) rfl ?_); refine goesL_ (some 52) rfl rfl Try.func80 (by kernel_rfl) rfl #[.slice A0_7 l0_7.length c0_7] rfl (by (try simp only [List.map_toArray, List.map_cons, List.map_nil]); first | done | rfl | (simp only [List.length_drop, List.length_take]; rfl)) ?_; (with_reducible refine (gzip_Sum.calls kj1 _ _ l0_7 t145 _ ?side1 ?side2 A13.out).mono ?_); (case side1 => repeat (first | exact (Kd.C_below HR0_7.out HB.out) | (with_reducible refine Kd.C_alloc ?_ _) | (with_reducible refine Kd.C_drewN ?_ _) | (with_reducible refine Kd.C_drew ?_))); (case side2 => exact HC0_7.out); rintro e w' ⟨rfl, ⟨nd, rfl⟩⟩; refine ⟨_, rfl, ?_⟩; obtain ⟨Ao42, co42, eo42⟩ := Kd.R_slice HO144.out; subst eo42) | ((with_reducible refine gate_callee (f := 79) rfl ?_); refine goesL_ (some 54) rfl rfl Try.func79 (by kernel_rfl) rfl #[.slice Ao42 t142.length co42, .int .u64 (IntKind.u64.wrap (t145)), .int .i64 4] rfl (by (try simp only [List.map_toArray, List.map_cons, List.map_nil]); first | done | rfl | (simp only [List.length_drop, List.length_take]; rfl)) ?_; (with_reducible refine (volumes_low.calls kj1 (fun k_ => some k_ = (.slice Ao42 t142.length co42 : Value).ownBlock) (.slice Ao42 t142.length co42) t142 (IntKind.u64.wrap (t145)) 4 t146 w _ ?side1 ?side2 A14.out).mono ?_); (case side1 => repeat (first | (with_reducible first | exact HB.out | apply below_alloc | apply pw_below_drewN | apply below_drew1 | refine below_set ?_ GE120.out) | exact HB.out)); (case side2 => exact Kd.R_tight rfl HO144.out); rintro e w43 ⟨v147, rfl, ho0, hb, hkp⟩; refine ⟨_, rfl, ?_⟩; have n0_ := Aside0.mk (blk_kept (by (with_reducible repeat (first | refine blk_drewN ?_ _ | refine blk_drew ?_ | refine blk_alloc ?_ _)); exact BK120.out) hkp (fun hs_ => (fun e_ => (Kd.R_ne HO144.out BK120.out (by decide)) e_) hs_)); have n1_ := Aside0.mk (Kd.R_mono (ok' := fun k_ => True) ho0 (fun k_ hk_ => trivial)); have n2_ := Aside0.mk (hb); clear BK120; clear HB; clear HO144; have BK120 := n0_; have HO148 := n1_; have HB := n2_; clear n0_ n1_ n2_; (try clear hb); (try clear hkp); (try clear ho0); obtain ⟨Ao44, co44, eo44⟩ := Kd.R_slice HO148.out; subst eo44) | ((with_reducible refine gate_callee (f := 79) rfl ?_); refine goesL_ (some 56) rfl rfl Try.func79 (by kernel_rfl) rfl #[.slice Ao44 t146.length co44, .int .u64 0, .int .i64 4] rfl (by (try simp only [List.map_toArray, List.map_cons, List.map_nil]); first | done | rfl | (simp only [List.length_drop, List.length_take]; rfl)) ?_; (with_reducible refine (volumes_low.calls kj1 (fun k_ => some k_ = (.slice Ao44 t146.length co44 : Value).ownBlock) (.slice Ao44 t146.length co44) t146 0 4 t149 w _ ?side1 ?side2 A15.out).mono ?_); (case side1 => repeat (first | (with_reducible first | exact HB.out | apply below_alloc | apply pw_below_drewN | apply below_drew1 | refine below_set ?_ GE120.out) | exact HB.out)); (case side2 => exact Kd.R_tight rfl HO148.out); rintro e w45 ⟨v150, rfl, ho0, hb, hkp⟩; refine ⟨_, rfl, ?_⟩; have n0_ := Aside0.mk (blk_kept (by (with_reducible repeat (first | refine blk_drewN ?_ _ | refine blk_drew ?_ | refine blk_alloc ?_ _)); exact BK120.out) hkp (fun hs_ => (fun e_ => (Kd.R_ne HO148.out BK120.out (by decide)) e_) hs_)); have n1_ := Aside0.mk (Kd.R_mono (ok' := fun k_ => True) ho0 (fun k_ hk_ => trivial)); have n2_ := Aside0.mk (hb); clear BK120; clear HB; clear HO148; have BK120 := n0_; have HO151 := n1_; have HB := n2_; clear n0_ n1_ n2_; (try clear hb); (try clear hkp); (try clear ho0); obtain ⟨Ao46, co46, eo46⟩ := Kd.R_slice HO151.out; subst eo46) | ((with_reducible refine gate_callee (f := 80) rfl ?_); refine goesL_ (some 59) rfl rfl Try.func80 (by kernel_rfl) rfl #[.slice Ao46 t149.length co46] rfl (by (try simp only [List.map_toArray, List.map_cons, List.map_nil]); first | done | rfl | (simp only [List.length_drop, List.length_take]; rfl)) ?_; (with_reducible refine (gzip_Sum.calls kj1 _ _ t149 t152 _ ?side1 ?side2 A16.out).mono ?_); (case side1 => repeat (first | exact (Kd.R_reads' HO151.out).2.2 | (with_reducible refine Kd.C_alloc ?_ _) | (with_reducible refine Kd.C_drewN ?_ _) | (with_reducible refine Kd.C_drew ?_))); (case side2 => exact (Kd.R_reads' HO151.out).2.1); rintro e w' ⟨rfl, ⟨nd, rfl⟩⟩; refine ⟨_, rfl, ?_⟩) | ((with_reducible refine gate_callee (f := 79) rfl ?_); refine goesL_ (some 61) rfl rfl Try.func79 (by kernel_rfl) rfl #[.slice Ao46 t149.length co46, .int .u64 (IntKind.u64.wrap (t152)), .int .i64 4] rfl (by (try simp only [List.map_toArray, List.map_cons, List.map_nil]); first | done | rfl | (simp only [List.length_drop, List.length_take]; rfl)) ?_; (with_reducible refine (volumes_low.calls kj1 (fun k_ => some k_ = (.slice Ao46 t149.length co46 : Value).ownBlock) (.slice Ao46 t149.length co46) t149 (IntKind.u64.wrap (t152)) 4 t153 w _ ?side1 ?side2 A17.out).mono ?_); (case side1 => repeat (first | (with_reducible first | exact HB.out | apply below_alloc | apply pw_below_drewN | apply below_drew1 | refine below_set ?_ GE120.out) | exact HB.out)); (case side2 => exact Kd.R_tight rfl HO151.out); rintro e w47 ⟨v154, rfl, ho0, hb, hkp⟩; refine ⟨_, rfl, ?_⟩; have n0_ := Aside0.mk (blk_kept (by (with_reducible repeat (first | refine blk_drewN ?_ _ | refine blk_drew ?_ | refine blk_alloc ?_ _)); exact BK120.out) hkp (fun hs_ => (fun e_ => (Kd.R_ne HO151.out BK120.out (by decide)) e_) hs_)); have n1_ := Aside0.mk (Kd.R_mono (ok' := fun k_ => True) ho0 (fun k_ hk_ => trivial)); have n2_ := Aside0.mk (hb); clear BK120; clear HB; clear HO151; have BK120 := n0_; have HO155 := n1_; have HB := n2_; clear n0_ n1_ n2_; (try clear hb); (try clear hkp); (try clear ho0); have hcz48_0 : w47.cell? ⟨gb120, 0, none⟩ = some (.int .u64 a0_0) := (blk_cell BK120.out 0).trans rfl; have hcz48_1 : w47.cell? ⟨gb120, 1, none⟩ = some (.int .i64 a0_1) := (blk_cell BK120.out 1).trans rfl; have hcz48_2 : w47.cell? ⟨gb120, 2, none⟩ = some (.int .i64 a0_2) := (blk_cell BK120.out 2).trans rfl; have hcz48_3 : w47.cell? ⟨gb120, 3, none⟩ = some (.bool a0_3) := (blk_cell BK120.out 3).trans rfl; have hcz48_4 : w47.cell? ⟨gb120, 4, none⟩ = some (.int .i64 a0_4) := (blk_cell BK120.out 4).trans rfl; have hcz48_5 : w47.cell? ⟨gb120, 5, none⟩ = some (.int .i64 a0_5) := (blk_cell BK120.out 5).trans rfl; have hcz48_6 : w47.cell? ⟨gb120, 6, none⟩ = some (.int .i64 a0_6) := (blk_cell BK120.out 6).trans rfl; have hcz48_7 : w47.cell? ⟨gb120, 7, none⟩ = some (.slice A0_7 l0_7.length c0_7) := (blk_cell BK120.out 7).trans rfl; have hfz48_0 := blk_frozen BK120.out 0; have hfz48_1 := blk_frozen BK120.out 1; have hfz48_2 := blk_frozen BK120.out 2; have hfz48_3 := blk_frozen BK120.out 3; have hfz48_4 := blk_frozen BK120.out 4; have hfz48_5 := blk_frozen BK120.out 5; have hfz48_6 := blk_frozen BK120.out 6; have hfz48_7 := blk_frozen BK120.out 7) | ((with_reducible refine gate_builtin (b := .append) (xs := #[.tmp 62, .tmp 64]) rfl ?_); at_builtin; refine Kd.R_append_rows (Kd.int .u8) (w0 := w) w.heap.size rfl (.tmp 62) (.tmp 64) 22 5 (.int .u8 0) 1 rfl Try.underlying22 info5 rfl (by decide) (by omega) v154 t153 l0_7 _ _ _ (fun _ => True) (fun _ => False) rfl rfl ?aO ?aR (fun _ _ h => h) (fun _ h => h.elim) ?aF ?aB ?aS ?aL ?_; (case aR => repeat (first | exact (Kd.C_below HR0_7.out HB.out) | (with_reducible refine Kd.C_alloc ?_ _) | (with_reducible refine Kd.C_drewN ?_ _) | (with_reducible refine Kd.C_drew ?_))); (case aB => exact (by repeat (first | (with_reducible first | exact HB.out | apply below_alloc | apply pw_below_drewN | apply below_drew1 | refine below_set ?_ GE120.out) | exact HB.out))); (case aF => exact (fun _ _ => trivial)); (case aO => exact (by (with_reducible repeat (first | apply Kd.R_alloc | apply Kd.R_drewN | apply Kd.R_drew)); exact HO155.out)); (case aS => exact (below_size (by repeat (first | (with_reducible first | exact HB.out | apply below_alloc | apply pw_below_drewN | apply below_drew1 | refine below_set ?_ GE120.out) | exact HB.out)))); (case aL => have := LMc18.out; omega); intro v157 w49 ho hb hg hat; rw [← Ny156.out] at ho; have n0_ := Aside0.mk (blk_grown (g := gb120) (o := .cells #[.int .u64 a0_0, .int .i64 a0_1, .int .i64 a0_2, .bool a0_3, .int .i64 a0_4, .int .i64 a0_5, .int .i64 a0_6, .slice A0_7 l0_7.length c0_7] 88 (0, 0)) (by (with_reducible repeat (first | refine blk_drewN ?_ _ | refine blk_drew ?_ | refine blk_alloc ?_ _)); exact BK120.out) hg (Kd.R_ne HO155.out BK120.out (by decide))); have n1_ := Aside0.mk (hb); have n2_ := Aside0.mk (ho); clear BK120; clear HB; clear HO155; have BK120 := n0_; have HB := n1_; have HO158 := n2_; clear n0_ n1_ n2_; clear ho hb hg hat))
        go_ret
        exact ⟨_, by first | rfl | (simp [errW_none, errW_some] <;> rfl) | (simp [*, errW_none, errW_some] <;> rfl), by (with_reducible repeat (first | apply Kd.R_alloc | apply Kd.R_drewN | apply Kd.R_drew)); exact HO158.out, by repeat (first | (with_reducible first | exact HB.out | apply below_alloc | apply pw_below_drewN | apply below_drew1 | refine below_set ?_ GE120.out) | exact HB.out)⟩
      · rw [if_neg c18] at H
        exact absurd H (by simp)

end Go.Proofs.Ytnkcbkfccbfjpaa.QVolumesCuts
/- same of the volumes' laws. -/
/- Contracts of functions of volumes (most of it printed by a program of the kit's). -/
namespace Go.Proofs.Ytnkcbkfccbfjpaa.QVolumesCuts
open Go.RowKit Go.Proofs.YtnkcbkfccbfjpaaW.PrintWords Go.Proofs.YtnkcbkfccbfjpaaW.PrintLast Go.Proofs.YtnkcbkfccbfjpaaW.PrintMore
attribute [local go_sem] max2_int min2_int max_two min_two max_three min_three max_four min_four   -- for this text's walks alone
set_option linter.unusedVariables false
set_option linter.unusedSimpArgs false

/-! ### volumes_Cut: function 15 -/
def volumes_Cut.l0 : Nat → List Int → Int → Bool → Int → Int → List (List Int) → List Int → Int → Int → Option ((List (List Int)) × Int)
  | 0, _, _, _, _, _, _, _, _, _ => none
  | k + 1, x0, x2, x3, x10, x11, x12, x13, x39, x40 => if x40 < x39 then (if 0 ≤ (wrap64 (x40 * x10)) then (if (wrap64 (x40 * x10)) ≤ (mn (wrap64 ((wrap64 (x40 * x10)) + x10)) (x0.length : Int)) then (if (mn (wrap64 ((wrap64 (x40 * x10)) + x10)) (x0.length : Int)) ≤ (x0.length : Int) then ((volumes_xor.f k x13 ((x0.take ((mn (wrap64 ((wrap64 (x40 * x10)) + x10)) (x0.length : Int)) : Int).toNat).drop ((wrap64 (x40 * x10)) : Int).toNat)).bind fun t164 => ((volumes_volume_put.f k x2 x40 x11 false (x0.length : Int) (wrap64 (x40 * x10)) (((x0.take ((mn (wrap64 ((wrap64 (x40 * x10)) + x10)) (x0.length : Int)) : Int).toNat).drop ((wrap64 (x40 * x10)) : Int).toNat).length : Int) ((x0.take ((mn (wrap64 ((wrap64 (x40 * x10)) + x10)) (x0.length : Int)) : Int).toNat).drop ((wrap64 (x40 * x10)) : Int).toNat)).bind fun t165 => (if x12.length < 5864062014805 then (volumes_Cut.l0 k x0 x2 x3 x10 x11 (x12 ++ [t165]) t164 x39 (wrap64 (x40 + 1))) else (none)))) else (none)) else (none)) else (none)) else (if x3 = true then ((volumes_volume_put.f k x2 x11 x11 true (x0.length : Int) 0 (x13.length : Int) x13).bind fun t171 => (if x12.length < 5864062014805 then (some ((x12 ++ [t171]), 0)) else (none))) else (some (x12, 0)))
def volumes_Cut.f (k : Nat) (l0 : List Int) (a1 : Int) (a2 : Int) (a3 : Bool) : Option ((List (List Int)) × Int) := if a1 ≤ 64 then (some (([] : List (List Int)), 1)) else (if (l0.length : Int) > 4194304 then (some (([] : List (List Int)), 2)) else ((volumes_count.f (l0.length : Int) (mn (wrap64 (a1 - 64)) (mx 1 (l0.length : Int)))).bind fun t159 => (if t159 > 1000 then (some (([] : List (List Int)), 2)) else (if 0 ≤ (mn (mn (wrap64 (a1 - 64)) (mx 1 (l0.length : Int))) (l0.length : Int)) then (if (mn (mn (wrap64 (a1 - 64)) (mx 1 (l0.length : Int))) (l0.length : Int) : Int).toNat ≤ 281474976710656 then (volumes_Cut.l0 k l0 a2 a3 (mn (wrap64 (a1 - 64)) (mx 1 (l0.length : Int))) t159 ([] : List (List Int)) (List.replicate (mn (mn (wrap64 (a1 - 64)) (mx 1 (l0.length : Int))) (l0.length : Int) : Int).toNat 0) t159 0) else (none)) else (none)))))
set_option maxHeartbeats 8000000 in
set_option maxRecDepth 100000 in
theorem volumes_Cut.calls (k : Nat) (A0 : Option Addr) (c0 : Nat) (l0 : List Int) (a1 : Int) (a2 : Int) (a3 : Bool) (r1 : List (List Int)) (r2 : Int) (w : World) (hr0 : Kd.C (Kd.int .u8) w A0 l0.length l0) (hc0 : l0.length ≤ c0) (h : volumes_Cut.f k l0 a1 a2 a3 = some (r1, r2)) :
    Calls Try.prog 15 #[.slice A0 l0.length c0, .int .i64 a1, .int .u64 a2, .bool a3] w fun e w' => ∃ v0_ : Value, e = .returned (.tuple #[v0_, .int .i64 r2]) ∧ Kd.S (Kd.slice 5 (Kd.int .u8)) 22 w' w.heap.size (fun _ => True) v0_ r1 ∧ Below w.heap.size w w' := by
  have hu68 := Try.underlying68
  have hu88 := Try.underlying88
  have HR0 := Aside0.mk hr0
  have HC0 := Aside0.mk hc0
  clear hr0 hc0
  have HB := Aside0.mk (Below.refl w.heap.size w)
  have H : (if a1 ≤ 64 then (some (([] : List (List Int)), 1)) else (if (l0.length : Int) > 4194304 then (some (([] : List (List Int)), 2)) else ((volumes_count.f (l0.length : Int) (mn (wrap64 (a1 - 64)) (mx 1 (l0.length : Int)))).bind fun t159 => (if t159 > 1000 then (some (([] : List (List Int)), 2)) else (if 0 ≤ (mn (mn (wrap64 (a1 - 64)) (mx 1 (l0.length : Int))) (l0.length : Int)) then (if (mn (mn (wrap64 (a1 - 64)) (mx 1 (l0.length : Int))) (l0.length : Int) : Int).toNat ≤ 281474976710656 then (volumes_Cut.l0 k l0 a2 a3 (mn (wrap64 (a1 - 64)) (mx 1 (l0.length : Int))) t159 ([] : List (List Int)) (List.replicate (mn (mn (wrap64 (a1 - 64)) (mx 1 (l0.length : Int))) (l0.length : Int) : Int).toNat 0) t159 0) else (none)) else (none)))))) = some (r1, r2) := h
  clear h
  by_cases c5 : a1 ≤ 64
  · rw [if_pos c5] at H
    have c5b0 : decide (a1 ≤ 64) = true := decide_eq_true c5
    clear c5
    simp only [Option.some.injEq, Prod.mk.injEq] at H
    obtain ⟨rfl, rfl⟩ := H
    go_enter Try.func15, Try.ntmps15
    go_wp2
    go_ret2
    exact ⟨_, by first | rfl | (simp [errW_none, errW_some] <;> rfl) | (simp [*, errW_none, errW_some] <;> rfl), by first | exact Kd.S_nil _ _ _ _ _ | exact Kd.N_nil _ _ _ _ _ | exact Kd.V_nil _ _ _ _ _ | exact Kd.Q_nil _ _ _ _ _ | exact Kd.R_nil _ _ _ _ _, by repeat (first | (with_reducible first | exact HB.out | apply below_alloc | apply pw_below_drewN | apply below_drew1) | exact HB.out)⟩
  · rw [if_neg c5] at H
    have c5b0 : decide (a1 ≤ 64) = false := decide_eq_false c5
    clear c5
    by_cases c6 : (l0.length : Int) > 4194304
    · rw [if_pos c6] at H
      have c6b0 : decide (4194304 < (l0.length : Int)) = true := decide_eq_true c6
      have c6b1 : decide (4194304 < l0.length) = true := decide_eq_true (by omega)
      clear c6
      simp only [Option.some.injEq, Prod.mk.injEq] at H
      obtain ⟨rfl, rfl⟩ := H
      go_enter Try.func15, Try.ntmps15
      go_wp2
      go_ret2
      exact ⟨_, by first | rfl | (simp [errW_none, errW_some] <;> rfl) | (simp [*, errW_none, errW_some] <;> rfl), by first | exact Kd.S_nil _ _ _ _ _ | exact Kd.N_nil _ _ _ _ _ | exact Kd.V_nil _ _ _ _ _ | exact Kd.Q_nil _ _ _ _ _ | exact Kd.R_nil _ _ _ _ _, by repeat (first | (with_reducible first | exact HB.out | apply below_alloc | apply pw_below_drewN | apply below_drew1) | exact HB.out)⟩
    · rw [if_neg c6] at H
      have c6b0 : decide (4194304 < (l0.length : Int)) = false := decide_eq_false c6
      have c6b1 : decide (4194304 < l0.length) = false := decide_eq_false (by omega)
      clear c6
      obtain ⟨ji7, hji7⟩ : ∃ j_ : Int, (mx 1 (l0.length : Int)) = j_ := ⟨_, rfl⟩
      replace H : ((volumes_count.f (l0.length : Int) (mn (wrap64 (a1 - 64)) (ji7))).bind fun t159 => (if t159 > 1000 then (some (([] : List (List Int)), 2)) else (if 0 ≤ (mn (mn (wrap64 (a1 - 64)) (ji7)) (l0.length : Int)) then (if (mn (mn (wrap64 (a1 - 64)) (ji7)) (l0.length : Int) : Int).toNat ≤ 281474976710656 then (volumes_Cut.l0 k l0 a2 a3 (mn (wrap64 (a1 - 64)) (ji7)) t159 ([] : List (List Int)) (List.replicate (mn (mn (wrap64 (a1 - 64)) (ji7)) (l0.length : Int) : Int).toNat 0) t159 0) else (none)) else (none)))) = some (r1, r2) := by first | (rw [hji7] at H; exact H) | (simp only [hji7] at H ⊢; exact H)
      (try (have hji7l : 1 ≤ ji7 := by (rw [← hji7]; unfold mx; (repeat' split) <;> omega)))
      (try (have hji7m : 0 ≤ ji7 := by omega))
      have hji7_ : (if 1 < (l0.length : Int) then (l0.length : Int) else 1) = ji7 := hji7
      obtain ⟨ji8, hji8⟩ : ∃ j_ : Int, (mn (wrap64 (a1 - 64)) (ji7)) = j_ := ⟨_, rfl⟩
      replace H : ((volumes_count.f (l0.length : Int) (ji8)).bind fun t159 => (if t159 > 1000 then (some (([] : List (List Int)), 2)) else (if 0 ≤ (mn (ji8) (l0.length : Int)) then (if (mn (ji8) (l0.length : Int) : Int).toNat ≤ 281474976710656 then (volumes_Cut.l0 k l0 a2 a3 ji8 t159 ([] : List (List Int)) (List.replicate (mn (ji8) (l0.length : Int) : Int).toNat 0) t159 0) else (none)) else (none)))) = some (r1, r2) := by first | (rw [hji8] at H; exact H) | (simp only [hji8] at H ⊢; exact H)
      have hji8_ : (if (ji7) < (wrap64 (a1 - 64)) then (ji7) else (wrap64 (a1 - 64))) = ji8 := hji8
      replace H := Option.bind_eq_some_iff.mp H
      obtain ⟨t159, A90, H⟩ := H
      replace H : (if t159 > 1000 then (some (([] : List (List Int)), 2)) else (if 0 ≤ (mn (ji8) (l0.length : Int)) then (if (mn (ji8) (l0.length : Int) : Int).toNat ≤ 281474976710656 then (volumes_Cut.l0 k l0 a2 a3 ji8 t159 ([] : List (List Int)) (List.replicate (mn (ji8) (l0.length : Int) : Int).toNat 0) t159 0) else (none)) else (none))) = some (r1, r2) := H
      have A9 := Aside0.mk A90
      clear A90
      by_cases c10 : t159 > 1000
      · rw [if_pos c10] at H
        have c10b0 : decide (1000 < t159) = true := decide_eq_true c10
        clear c10
        simp only [Option.some.injEq, Prod.mk.injEq] at H
        obtain ⟨rfl, rfl⟩ := H
        go_enter Try.func15, Try.ntmps15
        go_wp2_with (first | ((with_reducible refine gate_callee (f := 45) rfl ?_); refine goesL_ (some 31) rfl rfl Try.func45 (by kernel_rfl) rfl #[.int .i64 (l0.length : Int), .int .i64 ji8] rfl (by (try simp only [List.map_toArray, List.map_cons, List.map_nil]); first | done | (simp only [hji8]; rfl) | rfl | (simp only [List.length_drop, List.length_take]; rfl)) ?_; (with_reducible refine (volumes_count.calls (l0.length : Int) ji8 t159 _ A9.out).mono ?_); rintro e w11 ⟨rfl, hb⟩; refine ⟨_, rfl, ?_⟩; have n0_ := Aside0.mk (below_step (by repeat (first | (with_reducible first | exact HB.out | apply below_alloc | apply pw_below_drewN | apply below_drew1) | exact HB.out)) hb); clear HB; have HB := n0_; clear n0_; (try clear hb); (try clear hb2); (try clear hk); (try clear hi)))
        go_ret2
        exact ⟨_, by first | rfl | (simp [errW_none, errW_some] <;> rfl) | (simp only [← hji7, ← hji8]; first | rfl | (simp [errW_none, errW_some] <;> rfl)) | (simp [*, errW_none, errW_some] <;> rfl), by first | exact Kd.S_nil _ _ _ _ _ | exact Kd.N_nil _ _ _ _ _ | exact Kd.V_nil _ _ _ _ _ | exact Kd.Q_nil _ _ _ _ _ | exact Kd.R_nil _ _ _ _ _, by repeat (first | (with_reducible first | exact HB.out | apply below_alloc | apply pw_below_drewN | apply below_drew1) | exact HB.out)⟩
      · rw [if_neg c10] at H
        have c10b0 : decide (1000 < t159) = false := decide_eq_false c10
        clear c10
        obtain ⟨ji12, hji12⟩ : ∃ j_ : Int, (mn (ji8) (l0.length : Int)) = j_ := ⟨_, rfl⟩
        replace H : (if 0 ≤ (ji12) then (if (ji12 : Int).toNat ≤ 281474976710656 then (volumes_Cut.l0 k l0 a2 a3 ji8 t159 ([] : List (List Int)) (List.replicate (ji12 : Int).toNat 0) t159 0) else (none)) else (none)) = some (r1, r2) := by first | (rw [hji12] at H; exact H) | (simp only [hji12] at H ⊢; exact H)
        (try rw [hji12] at A9)
        have hji12_ : (if (l0.length : Int) < (ji8) then (l0.length : Int) else (ji8)) = ji12 := hji12
        by_cases c13 : 0 ≤ (ji12)
        · rw [if_pos c13] at H
          have c13b0 := eq_true c13
          have c13b1 : decide (0 ≤ (ji12)) = true := decide_eq_true c13
          clear c13
          by_cases c14 : (ji12 : Int).toNat ≤ 281474976710656
          · rw [if_pos c14] at H
            have c14b0 := eq_true c14
            have c14b1 : decide ((ji12 : Int).toNat ≤ 281474976710656) = true := decide_eq_true c14
            clear c14
            obtain ⟨y160, hy160⟩ : ∃ y_ : List Int, y_ = (List.replicate (ji12 : Int).toNat 0) := ⟨_, rfl⟩
            replace H : (volumes_Cut.l0 k l0 a2 a3 ji8 t159 ([] : List (List Int)) y160 t159 0) = some (r1, r2) := by first | (rw [hy160]; with_reducible exact H) | (have H2_ := (Option.bind_some _ _).symm.trans H; rw [hy160]; with_reducible exact H2_) | (have H2_ := (Option.bind_some _ _).symm.trans H; with_reducible exact H2_) | with_reducible exact H | (rw [hy160]; exact H) | exact H
            have Ny160 := Aside0.mk hy160
            clear hy160
            have H' := Aside0.mk H
            clear H
            go_enter Try.func15, Try.ntmps15
            go_wp2_with (first | ((with_reducible refine gate_callee (f := 45) rfl ?_); refine goesL_ (some 31) rfl rfl Try.func45 (by kernel_rfl) rfl #[.int .i64 (l0.length : Int), .int .i64 ji8] rfl (by (try simp only [List.map_toArray, List.map_cons, List.map_nil]); first | done | (simp only [hji8]; rfl) | rfl | (simp only [List.length_drop, List.length_take]; rfl)) ?_; (with_reducible refine (volumes_count.calls (l0.length : Int) ji8 t159 _ A9.out).mono ?_); rintro e w15 ⟨rfl, hb⟩; refine ⟨_, rfl, ?_⟩; have n0_ := Aside0.mk (below_step (by repeat (first | (with_reducible first | exact HB.out | apply below_alloc | apply pw_below_drewN | apply below_drew1) | exact HB.out)) hb); clear HB; have HB := n0_; clear n0_; (try clear hb); (try clear hb2); (try clear hk); (try clear hi)) | ((with_reducible refine gate_dst (N := 38) rfl ?_); refine Kd.R_make (Kd.int .u8) _ 5 rfl (N := 38) rfl 22 _ _ rfl ji12 rfl rfl Try.underlying22 (.int .u8 0) 1 info5 rfl (by decide) (by omega) 0 (ok := fun _ => True) (okp := fun _ => True) rfl (fun _ hk => hk) trivial (of_decide_eq_true (by first | (with_reducible assumption) | assumption)) (Nat.le_trans (Nat.mul_le_mul_right _ (of_decide_eq_true (by first | (with_reducible assumption) | assumption) : ji12.toNat ≤ 281474976710656)) (by omega)) (Below.refl _ _) (Nat.le_refl _) ?_; intro v161 w16 ho17 hb hg_ hnew_; clear hg_ hnew_; (first | rw [← Ny160.out] at ho17 | (simp only [Int.reduceToNat] at ho17; rw [← Ny160.out] at ho17)); have n0_ := Aside0.mk (Kd.R_lower ho17 (below_size (by repeat (first | (with_reducible first | exact HB.out | apply below_alloc | apply pw_below_drewN | apply below_drew1) | exact HB.out)))); have n1_ := Aside0.mk (below_step (by repeat (first | (with_reducible first | exact HB.out | apply below_alloc | apply pw_below_drewN | apply below_drew1) | exact HB.out)) hb); clear HB; have HO162 := n0_; have HB := n1_; clear n0_ n1_; clear hb ho17))
            go_loopg [12, 40] k (fun kq v12 v40 w' => ∃ (x12_1 : List (List Int)) (x13_1 : List Int) (x40_1 : Int), v40 = .int .i64 x40_1 ∧ Aside0 (volumes_Cut.l0 kq l0 a2 a3 ji8 t159 x12_1 x13_1 t159 x40_1 = some (r1, r2)) ∧ Aside0 (kq ≤ k) ∧ Aside0 (Kd.S (Kd.slice 5 (Kd.int .u8)) 22 w' w.heap.size (fun k_ => some k_ ≠ (v161 : Value).ownBlock) v12 x12_1) ∧ Aside0 (Kd.R (Kd.int .u8) 5 w' w.heap.size (fun _ => True) v161 x13_1) ∧ Aside0 (Below w.heap.size w w'))
            case atStart => exact ⟨(([] : List (List Int))), (y160), (0), (by first | rfl | (simp; done) | (simp [*]; done)), H', ⟨Nat.le_refl _⟩, ⟨by first | exact Kd.S_nil _ _ _ _ _ | exact Kd.N_nil _ _ _ _ _ | exact Kd.V_nil _ _ _ _ _ | exact Kd.Q_nil _ _ _ _ _ | exact Kd.R_nil _ _ _ _ _⟩, ⟨by (with_reducible repeat (first | apply Kd.R_alloc | apply Kd.R_drewN | apply Kd.R_drew)); exact HO162.out⟩, ⟨by repeat (first | (with_reducible first | exact HB.out | apply below_alloc | apply pw_below_drewN | apply below_drew1) | exact HB.out)⟩⟩
            case round =>
              clear H'
              try clear c1
              try clear p2
              try clear c4
              try clear c5
              try clear c5b0
              try clear c6
              try clear c6b0
              try clear c6b1
              try clear p6
              try clear c10
              try clear c10b0
              try clear c13
              try clear c13b0
              try clear c13b1
              try clear c14
              try clear c14b0
              try clear c14b1
              try clear c15
              obtain ⟨x12_1, x13_1, x40_1, rfl, HA, HK1, HO_12, HO_13, HB⟩ := hrel
              cases gk with
              | zero => exact absurd HA.out (by simp [volumes_Cut.l0])
              | succ k1 =>
                have H := HA.out
                clear HA
                simp only [volumes_Cut.l0] at H
                by_cases c18 : x40_1 < t159
                · rw [if_pos c18] at H
                  have c18b0 : decide (x40_1 < t159) = true := decide_eq_true c18
                  clear c18
                  obtain ⟨ji19, hji19⟩ : ∃ j_ : Int, (mn (wrap64 ((wrap64 (x40_1 * ji8)) + ji8)) (l0.length : Int)) = j_ := ⟨_, rfl⟩
                  replace H : (if 0 ≤ (wrap64 (x40_1 * ji8)) then (if (wrap64 (x40_1 * ji8)) ≤ (ji19) then (if (ji19) ≤ (l0.length : Int) then ((volumes_xor.f k1 x13_1 ((l0.take ((ji19) : Int).toNat).drop ((wrap64 (x40_1 * ji8)) : Int).toNat)).bind fun t164 => ((volumes_volume_put.f k1 a2 x40_1 t159 false (l0.length : Int) (wrap64 (x40_1 * ji8)) (((l0.take ((ji19) : Int).toNat).drop ((wrap64 (x40_1 * ji8)) : Int).toNat).length : Int) ((l0.take ((ji19) : Int).toNat).drop ((wrap64 (x40_1 * ji8)) : Int).toNat)).bind fun t165 => (if x12_1.length < 5864062014805 then (volumes_Cut.l0 k1 l0 a2 a3 ji8 t159 (x12_1 ++ [t165]) t164 t159 (wrap64 (x40_1 + 1))) else (none)))) else (none)) else (none)) else (none)) = some (r1, r2) := by first | (rw [hji19] at H; exact H) | (simp only [hji19] at H ⊢; exact H)
                  have hji19_ : (if (l0.length : Int) < (wrap64 ((wrap64 (x40_1 * ji8)) + ji8)) then (l0.length : Int) else (wrap64 ((wrap64 (x40_1 * ji8)) + ji8))) = ji19 := hji19
                  obtain ⟨ji20, hji20⟩ : ∃ j_ : Int, (wrap64 (x40_1 * ji8)) = j_ := ⟨_, rfl⟩
                  replace H : (if 0 ≤ (ji20) then (if (ji20) ≤ (ji19) then (if (ji19) ≤ (l0.length : Int) then ((volumes_xor.f k1 x13_1 ((l0.take ((ji19) : Int).toNat).drop ((ji20) : Int).toNat)).bind fun t164 => ((volumes_volume_put.f k1 a2 x40_1 t159 false (l0.length : Int) (ji20) (((l0.take ((ji19) : Int).toNat).drop ((ji20) : Int).toNat).length : Int) ((l0.take ((ji19) : Int).toNat).drop ((ji20) : Int).toNat)).bind fun t165 => (if x12_1.length < 5864062014805 then (volumes_Cut.l0 k1 l0 a2 a3 ji8 t159 (x12_1 ++ [t165]) t164 t159 (wrap64 (x40_1 + 1))) else (none)))) else (none)) else (none)) else (none)) = some (r1, r2) := by first | (rw [hji20] at H; exact H) | (simp only [hji20] at H ⊢; exact H)
                  have hji20w : (IntKind.i64.wrap (x40_1 * ji8)) = ji20 := (i64_w _).trans hji20
                  have hji19b : (if (l0.length : Int) < wrap64 (ji20 + ji8) then (l0.length : Int) else wrap64 (ji20 + ji8)) = ji19 := by rw [← hji20]; exact hji19_
                  by_cases c21 : 0 ≤ (ji20)
                  · rw [if_pos c21] at H
                    have c21b0 := eq_true c21
                    have c21b1 : decide (0 ≤ (ji20)) = true := decide_eq_true c21
                    clear c21
                    by_cases c22 : (ji20) ≤ (ji19)
                    · rw [if_pos c22] at H
                      have c22b0 := eq_true c22
                      have c22b1 : decide ((ji20) ≤ (ji19)) = true := decide_eq_true c22
                      clear c22
                      by_cases c23 : (ji19) ≤ (l0.length : Int)
                      · rw [if_pos c23] at H
                        have c23b0 := eq_true c23
                        have c23b1 : decide ((ji19) ≤ (l0.length : Int)) = true := decide_eq_true c23
                        clear c23
                        replace H := Option.bind_eq_some_iff.mp H
                        obtain ⟨t164, A240, H⟩ := H
                        replace H : ((volumes_volume_put.f k1 a2 x40_1 t159 false (l0.length : Int) (ji20) (((l0.take ((ji19) : Int).toNat).drop ((ji20) : Int).toNat).length : Int) ((l0.take ((ji19) : Int).toNat).drop ((ji20) : Int).toNat)).bind fun t165 => (if x12_1.length < 5864062014805 then (volumes_Cut.l0 k1 l0 a2 a3 ji8 t159 (x12_1 ++ [t165]) t164 t159 (wrap64 (x40_1 + 1))) else (none))) = some (r1, r2) := H
                        have A24 := Aside0.mk A240
                        clear A240
                        replace H := Option.bind_eq_some_iff.mp H
                        obtain ⟨t165, A250, H⟩ := H
                        replace H : (if x12_1.length < 5864062014805 then (volumes_Cut.l0 k1 l0 a2 a3 ji8 t159 (x12_1 ++ [t165]) t164 t159 (wrap64 (x40_1 + 1))) else (none)) = some (r1, r2) := H
                        have A25 := Aside0.mk A250
                        clear A250
                        by_cases c26 : x12_1.length < 5864062014805
                        · rw [if_pos c26] at H
                          have LMc26 := Aside0.mk c26
                          clear c26
                          obtain ⟨y168, hy168⟩ : ∃ y_ : List (List Int), y_ = (x12_1 ++ [t165]) := ⟨_, rfl⟩
                          replace H : (volumes_Cut.l0 k1 l0 a2 a3 ji8 t159 y168 t164 t159 (wrap64 (x40_1 + 1))) = some (r1, r2) := by first | (rw [hy168]; with_reducible exact H) | (have H2_ := (Option.bind_some _ _).symm.trans H; rw [hy168]; with_reducible exact H2_) | (have H2_ := (Option.bind_some _ _).symm.trans H; with_reducible exact H2_) | with_reducible exact H | (rw [hy168]; exact H) | exact H
                          have Ny168 := Aside0.mk hy168
                          clear hy168
                          have H' := Aside0.mk H
                          clear H
                          obtain ⟨i027, hi027, _, hsz27, _⟩ := info_parts info5
                          obtain ⟨A27, hcut27, hA27, hC27⟩ := print_mid_of (P := Try.prog) (Value.int .u8) 0 22 5 .i64 .i64 Try.underlying22 hi027 hsz27 A0 c0 l0 (ji20) (ji19) (of_decide_eq_true (by first | (with_reducible assumption) | assumption)) (by first | omega | exact of_decide_eq_true (by first | (with_reducible assumption) | assumption)) (of_decide_eq_true (by first | (with_reducible assumption) | assumption)) HC0.out
                          have HR163 := Aside0.mk (Kd.C_of_reads (h1 := fun _ => rfl) (hA27 _ (Kd.reads_of_C HR0.out)))
                          have HC163 := Aside0.mk hC27
                          clear hA27 hC27 hi027 hsz27
                          obtain ⟨Ao28, co28, eo28⟩ := Kd.R_slice HO_13.out
                          subst eo28
                          go_wp2_with (first | ((with_reducible refine gate_callee (f := 46) rfl ?_); refine goesL_ (some 57) rfl rfl Try.func46 (by kernel_rfl) rfl #[.slice Ao28 x13_1.length co28, .slice A27 ((l0.take ((ji19) : Int).toNat).drop ((ji20) : Int).toNat).length (c0 - (ji20).toNat)] rfl (by (try simp only [List.map_toArray, List.map_cons, List.map_nil]); first | done | (rw [show ((l0.take ((ji19) : Int).toNat).drop ((ji20) : Int).toNat).length = ((ji19).toNat - (ji20).toNat) from (by rw [List.length_drop, List.length_take]; have h_ : ((ji19) : Int) ≤ (l0.length : Int) := of_decide_eq_true (by first | (with_reducible assumption) | assumption); omega)] <;> rfl) | (simp only [hji19, hji20]; rfl) | rfl | (simp only [List.length_drop, List.length_take]; rfl)) ?_; (with_reducible refine (volumes_xor.calls k1 (fun k_ => some k_ = (.slice Ao28 x13_1.length co28 : Value).ownBlock) (.slice Ao28 x13_1.length co28) x13_1 _ _ ((l0.take ((ji19) : Int).toNat).drop ((ji20) : Int).toNat) t164 w _ ?side1 ?side2 ?side3 ?side4 A24.out).mono ?_); (case side1 => repeat (first | (with_reducible first | exact HB.out | apply below_alloc | apply pw_below_drewN | apply below_drew1) | exact HB.out)); (case side2 => exact Kd.R_tight rfl HO_13.out); (case side3 => exact Kd.C_kept_came (Kd.heap_int .u8) HR163.out (by repeat (first | (with_reducible first | exact HB.out | apply below_alloc | apply pw_below_drewN | apply below_drew1) | exact HB.out)) (fun k_ hs_ => (fun e_ => Kd.R_base HO_13.out k_ e_.symm) hs_)); (case side4 => exact HC163.out); rintro e w29 ⟨rfl, hy0, hb, hkp⟩; refine ⟨_, rfl, ?_⟩; have n0_ := Aside0.mk (Kd.S_mono (ok' := fun k_ => some k_ ≠ (.slice Ao28 x13_1.length co28 : Value).ownBlock) (Kd.S_keptB (HO_12.out) hkp (fun k_ hk_ hs_ => (hk_) hs_)) (fun k_ hk_ => hk_.1)); have n1_ := Aside0.mk (Kd.R_reok rfl hy0 (fun k_ e_ => HO_13.out.1 k_ e_)); have n2_ := Aside0.mk (hb); clear HO_12; clear HO_13; clear HB; have HO_12 := n0_; have HO_13 := n1_; have HB := n2_; clear n0_ n1_ n2_; (try clear hb); (try clear hkp); (try clear hy0)) | ((with_reducible refine gate_callee (f := 47) rfl ?_); refine goesL_ (some 70) rfl rfl Try.func47 (by kernel_rfl) rfl #[.agg #[.int .u64 a2, .int .i64 x40_1, .int .i64 t159, .bool false, .int .i64 (l0.length : Int), .int .i64 ji20, .int .i64 (((l0.take ((ji19) : Int).toNat).drop ((ji20) : Int).toNat).length : Int), .slice A27 ((l0.take ((ji19) : Int).toNat).drop ((ji20) : Int).toNat).length (c0 - (ji20).toNat)]] rfl (by (try simp only [List.map_toArray, List.map_cons, List.map_nil]); first | done | (rw [show ((l0.take ((ji19) : Int).toNat).drop ((ji20) : Int).toNat).length = ((ji19).toNat - (ji20).toNat) from (by rw [List.length_drop, List.length_take]; have h_ : ((ji19) : Int) ≤ (l0.length : Int) := of_decide_eq_true (by first | (with_reducible assumption) | assumption); omega)] <;> rfl) | (simp only [hji19, hji20]; rfl) | rfl | (simp only [List.length_drop, List.length_take]; rfl)) ?_; (with_reducible refine (volumes_volume_put.calls k1 a2 x40_1 t159 false (l0.length : Int) ji20 (((l0.take ((ji19) : Int).toNat).drop ((ji20) : Int).toNat).length : Int) _ _ ((l0.take ((ji19) : Int).toNat).drop ((ji20) : Int).toNat) t165 _ ?side1 ?side2 A25.out).mono ?_); (case side1 => repeat (first | exact (Kd.C_below HR163.out HB.out) | (with_reducible refine Kd.C_alloc ?_ _) | (with_reducible refine Kd.C_drewN ?_ _) | (with_reducible refine Kd.C_drew ?_))); (case side2 => exact HC163.out); rintro e w30 ⟨v166, rfl, ho0, hb⟩; refine ⟨_, rfl, ?_⟩; have n0_ := Aside0.mk (Kd.S_elder' (by (with_reducible repeat (first | apply Kd.S_alloc | apply Kd.S_drewN | apply Kd.S_drew)); exact HO_12.out) (Kd.R_base ho0) hb); have n1_ := Aside0.mk (Kd.R_elder' (by (with_reducible repeat (first | apply Kd.R_alloc | apply Kd.R_drewN | apply Kd.R_drew)); exact HO_13.out) (Kd.R_base ho0) hb); have n2_ := Aside0.mk (Kd.R_lower (Kd.R_new' ho0 (Kd.R_lt (by (with_reducible repeat (first | apply Kd.R_alloc | apply Kd.R_drewN | apply Kd.R_drew)); exact HO_13.out))) (below_size (by repeat (first | (with_reducible first | exact HB.out | apply below_alloc | apply pw_below_drewN | apply below_drew1) | exact HB.out)))); have n3_ := Aside0.mk (below_step (by repeat (first | (with_reducible first | exact HB.out | apply below_alloc | apply pw_below_drewN | apply below_drew1) | exact HB.out)) hb); clear HO_12; clear HO_13; clear HB; have HO_12 := n0_; have HO_13 := n1_; have HO167 := n2_; have HB := n3_; clear n0_ n1_ n2_ n3_; (try clear hb); (try clear hb2); (try clear hk); (try clear hi); (try clear ho0); obtain ⟨Ao32, co32, eo32⟩ := Kd.R_slice HO167.out; subst eo32) | ((with_reducible refine gate_builtin (b := .append) (xs := #[.tmp 58, .tmp 71]) rfl ?_); at_builtin; refine Kd.S_append (Kd.slice 5 (Kd.int .u8)) (w0 := w) w.heap.size rfl (.tmp 58) (.tmp 71) 28 22 (.slice none 0 0) 24 rfl Try.underlying28 info22 rfl (by decide) (by omega) u12 x12_1 t165 [.slice Ao32 t165.length co32] (fun k_ => some k_ ≠ (.slice Ao28 x13_1.length co28 : Value).ownBlock) (fun k_ => some k_ = (.slice Ao32 t165.length co32 : Value).ownBlock) rfl rfl ?aP (fun k_ hk_ => ((Kd.R_mono (ok' := fun k_ => ((fun k_ => some k_ ≠ (.slice Ao28 x13_1.length co28 : Value).ownBlock)) k_ ∧ some k_ ≠ (u12 : Value).ownBlock) (Kd.R_apart' (HO167.out) (Kd.S_typed HO_12.out) (by decide)) (fun k_ hk => ⟨hk.1.2, hk.2⟩))).1 k_ hk_.symm) ?aF ?aO ?aB ?aS ?aL ?_; (case aP => exact Kd.M_row (Kd.R_mono (Kd.R_tight rfl (Kd.R_mono (ok' := fun k_ => ((fun k_ => some k_ ≠ (.slice Ao28 x13_1.length co28 : Value).ownBlock)) k_ ∧ some k_ ≠ (u12 : Value).ownBlock) (Kd.R_apart' (HO167.out) (Kd.S_typed HO_12.out) (by decide)) (fun k_ hk => ⟨hk.1.2, hk.2⟩))) (fun _ h_ => h_))); (case aB => exact (by repeat (first | (with_reducible first | exact HB.out | apply below_alloc | apply pw_below_drewN | apply below_drew1) | exact HB.out))); (case aF => exact (fun k_ hk => Kd.fresh' (Kd.R_lt (by (with_reducible repeat (first | apply Kd.R_alloc | apply Kd.R_drewN | apply Kd.R_drew)); exact HO_13.out)) k_ hk)); (case aO => exact (by (with_reducible repeat (first | apply Kd.S_alloc | apply Kd.S_drewN | apply Kd.S_drew)); exact Kd.S_mono HO_12.out (fun k_ hk => ⟨hk.1, fun e_ => hk.2 e_⟩))); (case aS => exact (below_size (by repeat (first | (with_reducible first | exact HB.out | apply below_alloc | apply pw_below_drewN | apply below_drew1) | exact HB.out)))); (case aL => have := LMc26.out; omega); intro v169 w31 ho hb hg hat; rw [← Ny168.out] at ho; have n0_ := Aside0.mk (Kd.R_over' (by (with_reducible repeat (first | apply Kd.R_alloc | apply Kd.R_drewN | apply Kd.R_drew)); exact HO_13.out) (Kd.S_typed (by (with_reducible repeat (first | apply Kd.S_alloc | apply Kd.S_drewN | apply Kd.S_drew)); exact HO_12.out)) (by decide) hg); have n1_ := Aside0.mk (hb); have n2_ := Aside0.mk (ho); clear HO_13; clear HB; clear HO_12; clear HO167; have HO_13 := n0_; have HB := n1_; have HO170 := n2_; clear n0_ n1_ n2_; clear ho hb hg hat))
                          go_roundg k1
                          case measure => have := HK1.out; omega
                          case rel => exact ⟨(y168), (t164), (wrap64 (x40_1 + 1)), (by first | rfl | (simp; done) | (simp [*]; done)), H', ⟨by have := HK1.out; omega⟩, ⟨by (with_reducible repeat (first | apply Kd.S_alloc | apply Kd.S_drewN | apply Kd.S_drew)); exact HO170.out⟩, ⟨by (with_reducible repeat (first | apply Kd.R_alloc | apply Kd.R_drewN | apply Kd.R_drew)); exact Kd.R_mono HO_13.out (fun _ hk => trivial)⟩, ⟨by repeat (first | (with_reducible first | exact HB.out | apply below_alloc | apply pw_below_drewN | apply below_drew1) | exact HB.out)⟩⟩
                        · rw [if_neg c26] at H
                          exact absurd H (by simp)
                      · rw [if_neg c23] at H
                        exact absurd H (by simp)
                    · rw [if_neg c22] at H
                      exact absurd H (by simp)
                  · rw [if_neg c21] at H
                    exact absurd H (by simp)
                · rw [if_neg c18] at H
                  have c18b0 : decide (x40_1 < t159) = false := decide_eq_false c18
                  clear c18
                  by_cases c33 : a3 = true
                  · subst c33
                    have H1 : ((volumes_volume_put.f k1 a2 t159 t159 true (l0.length : Int) 0 (x13_1.length : Int) x13_1).bind fun t171 => (if x12_1.length < 5864062014805 then (some ((x12_1 ++ [t171]), 0)) else (none))) = some (r1, r2) := by rw [if_pos rfl] at H; exact H
                    clear H
                    have H := H1
                    clear H1
                    replace H := Option.bind_eq_some_iff.mp H
                    obtain ⟨t171, A340, H⟩ := H
                    replace H : (if x12_1.length < 5864062014805 then (some ((x12_1 ++ [t171]), 0)) else (none)) = some (r1, r2) := H
                    have A34 := Aside0.mk A340
                    clear A340
                    by_cases c35 : x12_1.length < 5864062014805
                    · rw [if_pos c35] at H
                      have LMc35 := Aside0.mk c35
                      clear c35
                      obtain ⟨y174, hy174⟩ : ∃ y_ : List (List Int), y_ = (x12_1 ++ [t171]) := ⟨_, rfl⟩
                      replace H : (some (y174, 0)) = some (r1, r2) := by first | (rw [hy174]; with_reducible exact H) | (have H2_ := (Option.bind_some _ _).symm.trans H; rw [hy174]; with_reducible exact H2_) | (have H2_ := (Option.bind_some _ _).symm.trans H; with_reducible exact H2_) | with_reducible exact H | (rw [hy174]; exact H) | exact H
                      have Ny174 := Aside0.mk hy174
                      clear hy174
                      simp only [Option.some.injEq, Prod.mk.injEq] at H
                      obtain ⟨rfl, rfl⟩ := H
                      obtain ⟨Ao36, co36, eo36⟩ := Kd.R_slice HO_13.out
                      subst eo36
                      go_wp2_with (first | ((with_reducible refine gate_callee (f := 47) rfl ?_); refine goesL_ (some 86) rfl rfl Try.func47 (by kernel_rfl) rfl #[.agg #[.int .u64 a2, .int .i64 t159, .int .i64 t159, .bool true, .int .i64 (l0.length : Int), .int .i64 0, .int .i64 (x13_1.length : Int), .slice Ao36 x13_1.length co36]] rfl (by (try simp only [List.map_toArray, List.map_cons, List.map_nil]); first | done | rfl | (simp only [List.length_drop, List.length_take]; rfl)) ?_; (with_reducible refine (volumes_volume_put.calls k1 a2 t159 t159 true (l0.length : Int) 0 (x13_1.length : Int) _ _ x13_1 t171 _ ?side1 ?side2 A34.out).mono ?_); (case side1 => repeat (first | exact (Kd.R_reads' HO_13.out).2.2 | (with_reducible refine Kd.C_alloc ?_ _) | (with_reducible refine Kd.C_drewN ?_ _) | (with_reducible refine Kd.C_drew ?_))); (case side2 => exact (Kd.R_reads' HO_13.out).2.1); rintro e w37 ⟨v172, rfl, ho0, hb⟩; refine ⟨_, rfl, ?_⟩; have n0_ := Aside0.mk (Kd.S_elder' (by (with_reducible repeat (first | apply Kd.S_alloc | apply Kd.S_drewN | apply Kd.S_drew)); exact HO_12.out) (Kd.R_base ho0) hb); have n1_ := Aside0.mk (Kd.R_elder' (by (with_reducible repeat (first | apply Kd.R_alloc | apply Kd.R_drewN | apply Kd.R_drew)); exact HO_13.out) (Kd.R_base ho0) hb); have n2_ := Aside0.mk (Kd.R_lower (Kd.R_new' ho0 (Kd.R_lt (by (with_reducible repeat (first | apply Kd.R_alloc | apply Kd.R_drewN | apply Kd.R_drew)); exact HO_13.out))) (below_size (by repeat (first | (with_reducible first | exact HB.out | apply below_alloc | apply pw_below_drewN | apply below_drew1) | exact HB.out)))); have n3_ := Aside0.mk (below_step (by repeat (first | (with_reducible first | exact HB.out | apply below_alloc | apply pw_below_drewN | apply below_drew1) | exact HB.out)) hb); clear HO_12; clear HO_13; clear HB; have HO_12 := n0_; have HO_13 := n1_; have HO173 := n2_; have HB := n3_; clear n0_ n1_ n2_ n3_; (try clear hb); (try clear hb2); (try clear hk); (try clear hi); (try clear ho0); obtain ⟨Ao39, co39, eo39⟩ := Kd.R_slice HO173.out; subst eo39) | ((with_reducible refine gate_builtin (b := .append) (xs := #[.tmp 75, .tmp 87]) rfl ?_); at_builtin; refine Kd.S_append (Kd.slice 5 (Kd.int .u8)) (w0 := w) w.heap.size rfl (.tmp 75) (.tmp 87) 28 22 (.slice none 0 0) 24 rfl Try.underlying28 info22 rfl (by decide) (by omega) u12 x12_1 t171 [.slice Ao39 t171.length co39] (fun k_ => some k_ ≠ (.slice Ao36 x13_1.length co36 : Value).ownBlock) (fun k_ => some k_ = (.slice Ao39 t171.length co39 : Value).ownBlock) rfl rfl ?aP (fun k_ hk_ => ((Kd.R_mono (ok' := fun k_ => ((fun k_ => some k_ ≠ (.slice Ao36 x13_1.length co36 : Value).ownBlock)) k_ ∧ some k_ ≠ (u12 : Value).ownBlock) (Kd.R_apart' (HO173.out) (Kd.S_typed HO_12.out) (by decide)) (fun k_ hk => ⟨hk.1.2, hk.2⟩))).1 k_ hk_.symm) ?aF ?aO ?aB ?aS ?aL ?_; (case aP => exact Kd.M_row (Kd.R_mono (Kd.R_tight rfl (Kd.R_mono (ok' := fun k_ => ((fun k_ => some k_ ≠ (.slice Ao36 x13_1.length co36 : Value).ownBlock)) k_ ∧ some k_ ≠ (u12 : Value).ownBlock) (Kd.R_apart' (HO173.out) (Kd.S_typed HO_12.out) (by decide)) (fun k_ hk => ⟨hk.1.2, hk.2⟩))) (fun _ h_ => h_))); (case aB => exact (by repeat (first | (with_reducible first | exact HB.out | apply below_alloc | apply pw_below_drewN | apply below_drew1) | exact HB.out))); (case aF => exact (fun k_ hk => Kd.fresh' (Kd.R_lt (by (with_reducible repeat (first | apply Kd.R_alloc | apply Kd.R_drewN | apply Kd.R_drew)); exact HO_13.out)) k_ hk)); (case aO => exact (by (with_reducible repeat (first | apply Kd.S_alloc | apply Kd.S_drewN | apply Kd.S_drew)); exact Kd.S_mono HO_12.out (fun k_ hk => ⟨hk.1, fun e_ => hk.2 e_⟩))); (case aS => exact (below_size (by repeat (first | (with_reducible first | exact HB.out | apply below_alloc | apply pw_below_drewN | apply below_drew1) | exact HB.out)))); (case aL => have := LMc35.out; omega); intro v175 w38 ho hb hg hat; rw [← Ny174.out] at ho; have n0_ := Aside0.mk (Kd.R_over' (by (with_reducible repeat (first | apply Kd.R_alloc | apply Kd.R_drewN | apply Kd.R_drew)); exact HO_13.out) (Kd.S_typed (by (with_reducible repeat (first | apply Kd.S_alloc | apply Kd.S_drewN | apply Kd.S_drew)); exact HO_12.out)) (by decide) hg); have n1_ := Aside0.mk (hb); have n2_ := Aside0.mk (ho); clear HO_13; clear HB; clear HO_12; clear HO173; have HO_13 := n0_; have HB := n1_; have HO176 := n2_; clear n0_ n1_ n2_; clear ho hb hg hat))
                      go_ret2
                      exact ⟨_, by first | rfl | (simp [errW_none, errW_some] <;> rfl) | (simp only [← hji7, ← hji8, ← hji12]; first | rfl | (simp [errW_none, errW_some] <;> rfl)) | (simp [*, errW_none, errW_some] <;> rfl), by (with_reducible repeat (first | apply Kd.S_alloc | apply Kd.S_drewN | apply Kd.S_drew)); exact Kd.S_mono HO176.out (fun _ hk => trivial), by repeat (first | (with_reducible first | exact HB.out | apply below_alloc | apply pw_below_drewN | apply below_drew1) | exact HB.out)⟩
                    · rw [if_neg c35] at H
                      exact absurd H (by simp)
                  · replace c33 := Bool.eq_false_iff.mpr c33
                    subst c33
                    have H1 : (some (x12_1, 0)) = some (r1, r2) := by rw [if_neg (show ¬ (false = true) by decide)] at H; exact H
                    clear H
                    have H := H1
                    clear H1
                    simp only [Option.some.injEq, Prod.mk.injEq] at H
                    obtain ⟨rfl, rfl⟩ := H
                    go_wp2
                    go_ret2
                    exact ⟨_, by first | rfl | (simp [errW_none, errW_some] <;> rfl) | (simp only [← hji7, ← hji8, ← hji12]; first | rfl | (simp [errW_none, errW_some] <;> rfl)) | (simp [*, errW_none, errW_some] <;> rfl), by (with_reducible repeat (first | apply Kd.S_alloc | apply Kd.S_drewN | apply Kd.S_drew)); exact Kd.S_mono HO_12.out (fun _ hk => trivial), by repeat (first | (with_reducible first | exact HB.out | apply below_alloc | apply pw_below_drewN | apply below_drew1) | exact HB.out)⟩
          · rw [if_neg c14] at H
            exact absurd H (by simp)
        · rw [if_neg c13] at H
          exact absurd H (by simp)

/-! ### satchelref27_count: function 48 -/
def satchelref27_count.f (a0 : Int) (a1 : Int) : Option (Int) := if a0 = 0 then (some 1) else (if a1 = 0 then (none) else (some (wrap64 ((wrap64 (Int.tdiv (wrap64 (a0 - 1)) a1)) + 1))))
/-! ### satchelref27_part: function 49 -/
/-! ### satchelref08_Sum: function 75 -/
/-! ### satchelref27_number: function 81 -/
end Go.Proofs.Ytnkcbkfccbfjpaa.QVolumesCuts
/- Volumes, plain: the bytes of a volume: put; the document's sum and numbers. -/
namespace Go.Proofs.Ytnkcbkfccbfjpaa.XxhW
open Go.RowKit Go.Proofs.Ytnkcbkfccbfjpaa.QVolumesCuts Go.Proofs.YtnkcbkfccbfjpaaW.PrintWords Go.Proofs.YtnkcbkfccbfjpaaW.PrintLast Go.Proofs.YtnkcbkfccbfjpaaW.PrintMore
set_option linter.unusedVariables false
set_option linter.unusedSimpArgs false
/-- A number of 64 bits without sign. -/
def W64u (a : Int) : Prop := 0 ≤ a ∧ a < 18446744073709551616
theorem wrap_u64 {x : Int} (h : W64u x) : IntKind.u64.wrap x = x := by
  show x % 18446744073709551616 = x
  exact Int.emod_eq_of_lt h.1 h.2
theorem nat64 (n : Nat) (h : n ≤ 4611686018427387904) : W64u (n : Int) := ⟨by omega, by omega⟩
/-! ### a number's bytes, the document's way -/
/-! ### the sum, the document's way -/
/-! ### a volume's bytes -/
def magicL : List Int := [83, 65, 84, 67, 72, 86, 79, 76]
def headP (set num cnt flag whole at_ size : Int) (b : List Int) : List Int :=
  magicL ++ lowL set 8 ++ lowL num 4 ++ lowL cnt 4 ++ lowL flag 4 ++ lowL whole 8 ++ lowL at_ 8 ++ lowL size 8 ++ lowL (crc b) 4 ++ lowL 0 4
def volP (set num cnt flag whole at_ size : Int) (b : List Int) : List Int := headP set num cnt flag whole at_ size b ++ lowL (crc (headP set num cnt flag whole at_ size b)) 4 ++ b
theorem headP_len (set num cnt flag whole at_ size : Int) (b : List Int) : (headP set num cnt flag whole at_ size b).length = 60 := by
  unfold headP magicL
  simp only [List.length_append, lowL_len, List.length_cons, List.length_nil]
theorem volP_len (set num cnt flag whole at_ size : Int) (b : List Int) : (volP set num cnt flag whole at_ size b).length = 64 + b.length := by
  unfold volP
  simp only [List.length_append, lowL_len, headP_len]
theorem crc64 (l : List Int) : W64u (crc l) := ⟨(crc_in l).1, by have := (crc_in l).2; omega⟩
theorem put_f (k : Nat) (set num cnt whole at_ size : Int) (fl : Bool) (b : List Int) (hs : W64u set) (h1 : W64u num) (h2 : W64u cnt) (h3 : W64u whole) (h4 : W64u at_) (h5 : W64u size) (hb : b.length ≤ 10000000) (hk : 10 * b.length + 1000 < k) :
    volumes_volume_put.f k set num cnt fl whole at_ size b = some (volP set num cnt (if fl = true then 1 else 0) whole at_ size b) := by
  obtain ⟨k, rfl⟩ : ∃ q, k = q + 1 := ⟨k - 1, by omega⟩
  have L : ∀ (l : List Int) (a : Int), l.length ≤ 1000 → volumes_low.f k l a 8 = some (l ++ lowL a 8) := fun l a h => low_f k l a 8 (by decide) (by omega) (by omega)
  have L4 : ∀ (l : List Int) (a : Int), l.length ≤ 1000 → volumes_low.f k l a 4 = some (l ++ lowL a 4) := fun l a h => low_f k l a 4 (by decide) (by omega) (by omega)
  have key : ∀ flag : Int, W64u flag → volumes_volume_put.j0 (k + 1) flag set num cnt fl whole at_ size b = some (volP set num cnt flag whole at_ size b) := by
    intro flag hf
    have hmag : magicL.length = 8 := rfl
    rw [volumes_volume_put.j0, wrap_u64 h1, wrap_u64 h2, wrap_u64 hf, wrap_u64 h3, wrap_u64 h4, wrap_u64 h5, show ([83, 65, 84, 67, 72, 86, 79, 76] : List Int) = magicL from rfl,
      L _ _ (by omega), Option.bind_some, L4 _ _ (by simp only [List.length_append, lowL_len]; omega), Option.bind_some, L4 _ _ (by simp only [List.length_append, lowL_len]; omega), Option.bind_some, L4 _ _ (by simp only [List.length_append, lowL_len]; omega), Option.bind_some,
      L _ _ (by simp only [List.length_append, lowL_len]; omega), Option.bind_some, L _ _ (by simp only [List.length_append, lowL_len]; omega), Option.bind_some, L _ _ (by simp only [List.length_append, lowL_len]; omega), Option.bind_some, gz_f k b (by omega) (by omega), Option.bind_some, wrap_u64 (crc64 b),
      L4 _ _ (by simp only [List.length_append, lowL_len]; omega), Option.bind_some, L4 _ _ (by simp only [List.length_append, lowL_len]; omega), Option.bind_some]
    have e : magicL ++ lowL set 8 ++ lowL num 4 ++ lowL cnt 4 ++ lowL flag 4 ++ lowL whole 8 ++ lowL at_ 8 ++ lowL size 8 ++ lowL (crc b) 4 ++ lowL 0 4 = headP set num cnt flag whole at_ size b := rfl
    rw [e]
    have hl := headP_len set num cnt flag whole at_ size b
    rw [gz_f k _ (by omega) (by omega), Option.bind_some, wrap_u64 (crc64 _), L4 _ _ (by omega), Option.bind_some, if_pos (by rw [List.length_append, lowL_len]; omega)]
    rfl
  unfold volumes_volume_put.f
  cases fl with
  | true => rw [if_pos rfl, if_pos rfl]; exact key 1 ⟨by decide, by decide⟩
  | false => rw [if_neg (by decide), if_neg (by decide)]; exact key 0 ⟨by decide, by decide⟩
/-! ### the spare one, the document's way -/
def xorR (o p : List Int) : List Int := xorG p.length 0 o p
theorem xorR_len (o p : List Int) : (xorR o p).length = o.length := xorG_len _ _ _ _
theorem rdL_at (l : List (List Int)) (i : Nat) : rd_L1 l (i : Int) = l.getD i [] := by simp [rd_L1]
end Go.Proofs.Ytnkcbkfccbfjpaa.XxhW
/- Volumes, plain: Cut, the program's and the document's, are one function over lists. -/
namespace Go.Proofs.Ytnkcbkfccbfjpaa.XxhW
open Go.RowKit Go.Proofs.Ytnkcbkfccbfjpaa.QVolumesCuts Go.Proofs.YtnkcbkfccbfjpaaW.PrintWords Go.Proofs.YtnkcbkfccbfjpaaW.PrintLast Go.Proofs.YtnkcbkfccbfjpaaW.PrintMore
set_option linter.unusedVariables false
set_option linter.unusedSimpArgs false
theorem mn_nat (a b : Nat) : mn (a : Int) (b : Int) = ((min a b : Nat) : Int) := by
  unfold mn
  split <;> omega
theorem mx_nat (a b : Nat) : mx (a : Int) (b : Int) = ((max a b : Nat) : Int) := by
  unfold mx
  split <;> omega
/-- A piece of a list that is cut. -/
def piece (l : List Int) (s i : Nat) : List Int := (l.take (min (i * s + s) l.length)).drop (i * s)
theorem piece_len (l : List Int) (s i : Nat) : (piece l s i).length = min (i * s + s) l.length - i * s := by
  unfold piece
  rw [List.length_drop, List.length_take]
  omega
def outL (l : List Int) (set : Int) (s n i : Nat) : List (List Int) := (List.range i).map fun i : Nat => volP set (i : Int) (n : Int) 0 (l.length : Int) ((i * s : Nat) : Int) ((piece l s i).length : Int) (piece l s i)
def partsL (l : List Int) (s i : Nat) : List (List Int) := (List.range i).map (piece l s)
def overL (l : List Int) (s i : Nat) : List Int := (partsL l s i).foldl xorR (List.replicate (min s l.length) 0)
theorem outL_succ (l : List Int) (set : Int) (s n i : Nat) : outL l set s n (i + 1) = outL l set s n i ++ [volP set (i : Int) (n : Int) 0 (l.length : Int) ((i * s : Nat) : Int) ((piece l s i).length : Int) (piece l s i)] := by
  unfold outL
  rw [List.range_succ, List.map_append]
  rfl
theorem partsL_succ (l : List Int) (s i : Nat) : partsL l s (i + 1) = partsL l s i ++ [piece l s i] := by
  unfold partsL
  rw [List.range_succ, List.map_append]
  rfl
theorem overL_succ (l : List Int) (s i : Nat) : overL l s (i + 1) = xorR (overL l s i) (piece l s i) := by
  unfold overL
  rw [partsL_succ, List.foldl_append]
  rfl
theorem overL_len (l : List Int) (s : Nat) : ∀ i, (overL l s i).length = min s l.length
  | 0 => by simp [overL, partsL]
  | i + 1 => by rw [overL_succ, xorR_len, overL_len l s i]
theorem outL_len (l : List Int) (set : Int) (s n i : Nat) : (outL l set s n i).length = i := by simp [outL]
def cutP (l : List Int) (set : Int) (sp : Bool) (s n : Nat) : List (List Int) :=
  outL l set s n n ++ (if sp = true then [volP set (n : Int) (n : Int) 1 (l.length : Int) 0 ((overL l s n).length : Int) (overL l s n)] else [])
set_option maxHeartbeats 4000000 in
theorem vc_l0 (F : Nat) (hF : 6000000000 ≤ F) (l : List Int) (set : Int) (sp : Bool) (s n : Nat) (hset : W64u set) (hl : l.length ≤ 4194304) (hs : s ≤ 4194305) (hn : n ≤ 1000) (hns : ∀ i, i < n → i * s ≤ l.length) : ∀ (j k i : Nat), i + j = n → j + F < k →
    volumes_Cut.l0 k l set sp (s : Int) (n : Int) (outL l set s n i) (overL l s i) (n : Int) (i : Int) = some (cutP l set sp s n, 0) := by
  intro j
  induction j with
  | zero =>
    intro k i hi hk
    obtain ⟨k, rfl⟩ : ∃ q, k = q + 1 := ⟨k - 1, by omega⟩
    have : i = n := by omega
    subst this
    have ho := overL_len l s i
    rw [volumes_Cut.l0, if_neg (by omega)]
    unfold cutP
    cases sp with
    | true =>
      rw [if_pos rfl, if_pos rfl, put_f k set i i l.length 0 _ true _ hset (nat64 _ (by omega)) (nat64 _ (by omega)) (nat64 _ (by omega)) ⟨by decide, by decide⟩ (nat64 _ (by omega)) (by omega) (by omega), Option.bind_some, if_pos (by rw [outL_len]; omega), if_pos rfl]
    | false => rw [if_neg (by decide), if_neg (by decide), List.append_nil]
  | succ j ih =>
    intro k i hi hk
    obtain ⟨k, rfl⟩ : ∃ q, k = q + 1 := ⟨k - 1, by omega⟩
    have hq := hns i (by omega)
    have ho := overL_len l s i
    have hp := piece_len l s i
    have e1 := Aside0.mk (show wrap64 ((i : Int) * (s : Int)) = ((i * s : Nat) : Int) by rw [← Int.natCast_mul]; exact wrap_small _ (by omega))
    have e2 := Aside0.mk (show wrap64 (((i * s : Nat) : Int) + (s : Int)) = ((i * s + s : Nat) : Int) by rw [← Int.natCast_add]; exact wrap_small _ (by omega))
    have e3 : (l.take (min (i * s + s) l.length)).drop (i * s) = piece l s i := rfl
    rw [volumes_Cut.l0, if_pos (by omega), e1.out, e2.out, mn_nat, if_pos (by omega), if_pos (by omega), if_pos (by omega), Int.toNat_natCast, Int.toNat_natCast, e3]
    clear e1 e2 e3
    rw [xor_f k _ _ (by omega) (by omega) (by omega), Option.bind_some, put_f k set i n l.length _ _ false _ hset (nat64 _ (by omega)) (nat64 _ (by omega)) (nat64 _ (by omega)) (nat64 _ (by omega)) (nat64 _ (by omega)) (by omega) (by omega), Option.bind_some,
      if_pos (by rw [outL_len]; omega), wrap_succ _ (by omega), if_neg (by decide), ← outL_succ]
    have h := ih k (i + 1) (by omega) (by omega)
    rw [overL_succ] at h
    exact h
/-- The document's step S is the program's, or there is but one piece. -/
def OneStep (l : List Int) (S s n : Nat) : Prop := S = s ∨ (n = 1 ∧ l.length ≤ s ∧ s ≤ S)
def stepOf (l : List Int) (S : Nat) : Nat := min S (max 1 l.length)
def countOf (l : List Int) (S : Nat) : Nat := max 1 ((l.length + stepOf l S - 1) / stepOf l S)
def cutR (l : List Int) (most set : Int) (sp : Bool) : List (List Int) × Int :=
  if most ≤ 64 then ([], 1) else if l.length > 4194304 then ([], 2) else if countOf l (most - 64).toNat > 1000 then ([], 2) else (cutP l set sp (stepOf l (most - 64).toNat) (countOf l (most - 64).toNat), 0)
theorem count_facts (l : List Int) (S : Nat) (hS : 1 ≤ S) (hS2 : S ≤ 9223372036854775743) (hl : l.length ≤ 4194304) :
    volumes_count.f (l.length : Int) ((stepOf l S : Nat) : Int) = some ((countOf l S : Nat) : Int) ∧ satchelref27_count.f (l.length : Int) (S : Int) = some ((countOf l S : Nat) : Int) ∧ OneStep l S (stepOf l S) (countOf l S) ∧ (∀ i, i < countOf l S → i * stepOf l S ≤ l.length) ∧ 1 ≤ stepOf l S ∧ stepOf l S ≤ 4194305 ∧ 1 ≤ countOf l S := by
  have hs1 : 1 ≤ stepOf l S := by unfold stepOf; omega
  have hs2 : stepOf l S ≤ 4194305 := by unfold stepOf; omega
  have hs3 : stepOf l S = S ∨ (stepOf l S = max 1 l.length ∧ max 1 l.length ≤ S) := by unfold stepOf; omega
  have hs4 : stepOf l S ≤ max 1 l.length := by unfold stepOf; omega
  obtain ⟨s, hs⟩ : ∃ s, s = stepOf l S := ⟨_, rfl⟩
  obtain ⟨n, hn⟩ : ∃ n, n = countOf l S := ⟨_, rfl⟩
  have hne : n = max 1 ((l.length + s - 1) / s) := by rw [hn, hs]; rfl
  rw [← hs] at hs1 hs2 hs3 hs4
  rw [← hs, ← hn]
  have hdl : (l.length + s - 1) / s ≤ l.length + s - 1 := Nat.div_le_self _ _
  have hdm : (l.length + s - 1) / s * s ≤ l.length + s - 1 := Nat.div_mul_le_self _ _
  have hone : s = max 1 l.length → n = 1 := fun h => by
    rw [hne]
    rcases Nat.eq_zero_or_pos l.length with h0 | h0
    · have : s = 1 := by omega
      rw [h0, this]
      rfl
    · have e : s = l.length := by omega
      rw [e, show l.length + l.length - 1 = (l.length - 1) + l.length * 1 by omega, Nat.add_mul_div_left _ _ h0, Nat.div_eq_of_lt (by omega)]
      rfl
  refine ⟨?_, ?_, ?_, ?_, hs1, hs2, by omega⟩
  · unfold volumes_count.f
    have w1 : wrap64 ((l.length : Int) + (s : Int)) = ((l.length + s : Nat) : Int) := by rw [← Int.natCast_add]; exact wrap_small _ (by omega)
    have w2 : wrap64 (((l.length + s : Nat) : Int) - 1) = ((l.length + s - 1 : Nat) : Int) := by rw [show ((l.length + s : Nat) : Int) - 1 = ((l.length + s - 1 : Nat) : Int) by clear w1; omega]; exact wrap_small _ (by clear w1; omega)
    rw [if_neg (by omega), w1, w2, Int.tdiv_eq_ediv_of_nonneg (by clear w1 w2; omega), ← Int.natCast_ediv, wrap_small _ (by clear w1 w2; omega), show (1 : Int) = ((1 : Nat) : Int) from rfl, mx_nat, hne]
  · unfold satchelref27_count.f
    by_cases c0 : (l.length : Int) = 0
    · rw [if_pos c0]
      have : n = 1 := hone (by omega)
      rw [this]
      rfl
    · have w1 : wrap64 ((l.length : Int) - 1) = ((l.length - 1 : Nat) : Int) := by rw [show (l.length : Int) - 1 = ((l.length - 1 : Nat) : Int) by omega]; exact wrap_small _ (by omega)
      have hd2 : (l.length - 1) / S ≤ l.length - 1 := Nat.div_le_self _ _
      rw [if_neg c0, if_neg (by omega), w1, Int.tdiv_eq_ediv_of_nonneg (by clear w1; omega), ← Int.natCast_ediv, wrap_small _ (by clear w1; omega), wrap_succ _ (by clear w1; omega)]
      congr 1
      rcases hs3 with h | ⟨h, h'⟩
      · subst h
        rw [hne, show l.length + s - 1 = (l.length - 1) + s * 1 by omega, Nat.add_mul_div_left _ _ (by omega)]
        clear w1 hd2
        generalize (l.length - 1) / s = z
        rw [show max 1 (z + 1) = z + 1 by omega]
      · have : n = 1 := hone h
        rw [this, Nat.div_eq_of_lt (by clear w1; omega)]
  · rcases hs3 with h | ⟨h, h'⟩
    · exact .inl h.symm
    · exact .inr ⟨hone h, by omega, by omega⟩
  · intro i hi
    have h1 : i * s ≤ (n - 1) * s := Nat.mul_le_mul_right _ (by omega)
    rcases Nat.lt_or_ge 1 n with h | h
    · have e : n = (l.length + s - 1) / s := by omega
      have h2 : (n - 1) * s = n * s - s := by rw [Nat.sub_mul, Nat.one_mul]
      have h3 : n * s ≤ l.length + s - 1 := by rw [e]; exact hdm
      omega
    · have : n - 1 = 0 := by omega
      rw [this, Nat.zero_mul] at h1
      omega
set_option maxHeartbeats 4000000 in
theorem cut_f1 (K : Nat) (hK : 6500000000 ≤ K) (l : List Int) (most set : Int) (sp : Bool) (hset : W64u set) (hm : most ≤ 9223372036854775807) (hm0 : -9223372036854775808 ≤ most) :
    volumes_Cut.f (K + 1) l most set sp = some (cutR l most set sp) := by
  unfold volumes_Cut.f cutR
  by_cases c1 : most ≤ 64
  · simp only [if_pos c1]
  simp only [if_neg c1]
  by_cases c2 : l.length > 4194304
  · have c2i : (l.length : Int) > 4194304 := by omega
    simp only [if_pos c2, if_pos c2i]
  have c2i : ¬ (l.length : Int) > 4194304 := by omega
  simp only [if_neg c2, if_neg c2i]
  obtain ⟨S, hSe⟩ : ∃ S : Nat, S = (most - 64).toNat := ⟨_, rfl⟩
  have hSi : wrap64 (most - 64) = (S : Int) := by rw [IntWalk.wrap64_in _ (by omega)]; omega
  rw [← hSe, hSi]
  obtain ⟨f1, f2, f3, f4, f5, f6, f7⟩ := count_facts l S (by clear hSi; omega) (by clear hSi; omega) (by clear hSi; omega)
  have e1 : mn (S : Int) (mx 1 (l.length : Int)) = ((stepOf l S : Nat) : Int) := by rw [show (1 : Int) = ((1 : Nat) : Int) from rfl, mx_nat, mn_nat]; rfl
  rw [e1, f1, Option.bind_some, mn_nat]
  clear e1 hSi
  by_cases c3 : countOf l S > 1000
  · have c3i : ((countOf l S : Nat) : Int) > 1000 := by omega
    rw [if_pos c3i, if_pos c3]
  · have c3i : ¬ ((countOf l S : Nat) : Int) > 1000 := by omega
    rw [if_neg c3i, if_neg c3, if_pos (by omega), Int.toNat_natCast, if_pos (by omega)]
    exact vc_l0 6000000000 (Nat.le_refl _) l set sp (stepOf l S) (countOf l S) hset (by omega) f6 (by omega) f4 (countOf l S) (K + 1) 0 (by omega) (by omega)
end Go.Proofs.Ytnkcbkfccbfjpaa.XxhW
