-- a copy of a print, mine -- SPLICED
import Derived.Test.YtnkcbkfccbfjpaaZc
import Derived.Test.YtnkcbkfccbfjpaaMXxhLongx0
namespace Go.Proofs.Ytnkcbkfccbfjpaa.MXxhLong
open Go.RowKit Go.Proofs.YtnkcbkfccbfjpaaW.PrintWords Go.Proofs.YtnkcbkfccbfjpaaW.PrintLast Go.Proofs.YtnkcbkfccbfjpaaW.PrintMore
attribute [local go_sem] max2_int min2_int max_two min_two max_three min_three max_four min_four   -- for this text's walks alone
set_option linter.unusedVariables false
set_option linter.unusedSimpArgs false

/-! ### xxh_Sum64: function 22 (mine) -/
def xxh_Sum64.f (a0 : Int) (l1 : List Int) : Option (Int) := XxhP.sum64f a0 l1
theorem xxh_Sum64.calls (a0 : Int) (A1 : Option Addr) (c1 : Nat) (l1 : List Int) (r : Int) (w : World) (hr1 : Kd.C (Kd.int .u8) w A1 l1.length l1) (hc1 : l1.length ≤ c1) (h : xxh_Sum64.f a0 l1 = some r) :
    Calls Try.prog 22 #[.int .u64 a0, .slice A1 l1.length c1] w fun e w' => e = .returned (.int .u64 r) ∧ Below w.heap.size w w' := XxhP.Sum64_p a0 A1 c1 l1 r w hr1 hc1 h

/-! ### xxh_Sum32: function 21 (mine) -/
def xxh_Sum32.f (a0 : Int) (l1 : List Int) : Option (Int) := XxhP.sum32f a0 l1
theorem xxh_Sum32.calls (a0 : Int) (A1 : Option Addr) (c1 : Nat) (l1 : List Int) (r : Int) (w : World) (hr1 : Kd.C (Kd.int .u8) w A1 l1.length l1) (hc1 : l1.length ≤ c1) (h : xxh_Sum32.f a0 l1 = some r) :
    Calls Try.prog 21 #[.int .u32 a0, .slice A1 l1.length c1] w fun e w' => e = .returned (.int .u32 r) ∧ Below w.heap.size w w' := XxhP.Sum32_p a0 A1 c1 l1 r w hr1 hc1 h

/-! ### satchellaw02_lives: function 25 (mine) -/
def satchellaw02_lives.f  : Option (Bool) := some true
theorem satchellaw02_lives.calls  (r : Bool) (w : World) (h : satchellaw02_lives.f  = some r) :
    Calls Try.prog 25 #[] w fun e w' => e = .returned (.bool r) ∧ Below w.heap.size w w' := by
  obtain rfl := Option.some.inj h
  exact XxhP.lives_calls w


end Go.Proofs.Ytnkcbkfccbfjpaa.MXxhLong
