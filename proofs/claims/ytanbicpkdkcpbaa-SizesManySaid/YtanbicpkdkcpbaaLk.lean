/- The numbers under which this program holds sync.Mutex's functions and types, and that it holds them. -/
import Derived.Test.YtanbicpkdkcpbaaProg
import Derived.Conc.MuLone
import Derived.KernelRfl
namespace Go.Proofs
abbrev Ytanbicpkdkcpbaa.muLink : Go.Conc.Locks.MuLink := { lock := 40, unlock := 41, ilock := 52, iunlock := 53, lockSlow := 68, unlockSlow := 71, disable := 64, enable := 66, acquire := 67, relMerge := 69, cas32 := 65, add32 := 70, tMutex := 86, tIMutex := 84, tPMutex := 98, tPIMutex := 113, tPI32 := 115, tUP := 117, tNoCopy := 82, tU32 := 38 }
theorem Ytanbicpkdkcpbaa.muLib : Go.Conc.Locks.MuLib Try.prog Ytanbicpkdkcpbaa.muLink :=
  ⟨Try.func40, Try.func41, Try.func52, Try.func53, Try.func64, Try.func66, Try.func67, Try.func69, Try.func65, Try.func70, Try.underlying84, Try.runUnderlying84, Try.sizeOf84, Try.isAgg84, Try.zeroValue84, Try.underlying86, Try.runUnderlying86, Try.sizeOf86, Try.isAgg86, Try.zeroValue86, Try.underlying98, Try.runUnderlying98, Try.sizeOf98, Try.isAgg98, Try.zeroValue98, Try.underlying113, Try.runUnderlying113, Try.sizeOf113, Try.isAgg113, Try.zeroValue113, Try.underlying115, Try.runUnderlying115, Try.sizeOf115, Try.isAgg115, Try.zeroValue115, Try.underlying117, Try.runUnderlying117, Try.sizeOf117, Try.isAgg117, Try.zeroValue117, Try.underlying82, Try.runUnderlying82, Try.sizeOf82, Try.isAgg82, Try.zeroValue82, Try.underlying21, Try.runUnderlying21, Try.sizeOf21, Try.isAgg21, Try.zeroValue21, (by kernel_rfl)⟩
end Go.Proofs
