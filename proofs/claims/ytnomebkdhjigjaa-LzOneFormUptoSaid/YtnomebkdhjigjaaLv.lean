/- lz.Decode as the print says it: a contract over lists. -/
import Derived.Test.YtnomebkdhjigjaaLf
import Derived.Test.YtnomebkdhjigjaaMLzDecodesx1
namespace Go.Proofs.Ytnomebkdhjigjaa.MLzDecodes
open Go.RowKit Go.Proofs.YtnomebkdhjigjaaW.PrintWords Go.Proofs.YtnomebkdhjigjaaW.PrintLast Go.Proofs.YtnomebkdhjigjaaW.PrintMore
set_option linter.unusedVariables false
set_option linter.unusedSimpArgs false
/-! ### lz_Decode: function 38 (mine) -/
def lz_Decode.f (l0 : List Int) (l1 : List Int) (a2 : Int) : Option (List Int × Int × Int) := W.decodeF l0 l1 a2
theorem lz_Decode.calls (A0 : Option Addr) (c0 : Nat) (l0 : List Int) (A1 : Option Addr) (c1 : Nat) (l1 : List Int) (a2 : Int) (r1 : List Int) (r2 : Int) (r3 : Int) (w : World) (hr0 : Kd.C (Kd.int .u8) w A0 l0.length l0) (hc0 : l0.length ≤ c0) (hr1 : Kd.C (Kd.int .u8) w A1 l1.length l1) (hc1 : l1.length ≤ c1) (h : lz_Decode.f l0 l1 a2 = some (r1, r2, r3)) :
    Calls Try.prog 38 #[.slice A0 l0.length c0, .slice A1 l1.length c1, .int .i64 a2] w fun e w' => ∃ v0_ : Value, e = .returned (.tuple #[v0_, .int .i64 r2, .int .i64 r3]) ∧ Kd.R (Kd.int .u8) 5 w' w.heap.size (fun _ => True) v0_ r1 ∧ Below w.heap.size w w' := W.Decode_p A0 c0 l0 A1 c1 l1 a2 r1 r2 r3 w hr0 hc0 hr1 hc1 h



end Go.Proofs.Ytnomebkdhjigjaa.MLzDecodes
