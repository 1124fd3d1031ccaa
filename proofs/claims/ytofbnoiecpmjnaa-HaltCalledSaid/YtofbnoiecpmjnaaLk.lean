/- The numbers under which this program holds sync.Mutex's functions and types, and that it holds them. -/
import Derived.Test.YtofbnoiecpmjnaaProg
import Derived.Conc.MuLone
import Derived.Conc.MuData
import Derived.KernelRfl
namespace Go.Proofs.Ytofbnoiecpmjnaa
abbrev muLink : Go.Conc.Locks.MuLink := { lock := 22, unlock := 23, ilock := 40, iunlock := 41, lockSlow := 51, unlockSlow := 54, disable := 47, enable := 49, acquire := 50, relMerge := 52, cas32 := 48, add32 := 53, tMutex := 66, tIMutex := 64, tPMutex := 59, tPIMutex := 96, tPI32 := 98, tUP := 100, tNoCopy := 61, tU32 := 62 }
theorem muLib : Go.Conc.Locks.MuLib Try.prog muLink :=
  ⟨Try.func22, Try.func23, Try.func40, Try.func41, Try.func47, Try.func49, Try.func50, Try.func52, Try.func48, Try.func53, Try.underlying64, Try.runUnderlying64, Try.sizeOf64, Try.isAgg64, Try.zeroValue64, Try.underlying66, Try.runUnderlying66, Try.sizeOf66, Try.isAgg66, Try.zeroValue66, Try.underlying59, Try.runUnderlying59, Try.sizeOf59, Try.isAgg59, Try.zeroValue59, Try.underlying96, Try.runUnderlying96, Try.sizeOf96, Try.isAgg96, Try.zeroValue96, Try.underlying98, Try.runUnderlying98, Try.sizeOf98, Try.isAgg98, Try.zeroValue98, Try.underlying100, Try.runUnderlying100, Try.sizeOf100, Try.isAgg100, Try.zeroValue100, Try.underlying61, Try.runUnderlying61, Try.sizeOf61, Try.isAgg61, Try.zeroValue61, Try.underlying21, Try.runUnderlying21, Try.sizeOf21, Try.isAgg21, Try.zeroValue21, (by kernel_rfl)⟩
end Go.Proofs.Ytofbnoiecpmjnaa
