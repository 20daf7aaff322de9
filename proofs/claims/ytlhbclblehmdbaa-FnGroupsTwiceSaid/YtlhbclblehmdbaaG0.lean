/- The numbers under which this program holds sync.Mutex, and that it holds the library's text under them. -/
import Derived.Test.YtlhbclblehmdbaaProg
import Derived.Conc.MuLone
import Derived.Conc.MuData
import Derived.KernelRfl
namespace Go.Proofs.Ytlhbclblehmdbaa
abbrev muLink : Go.Conc.Locks.MuLink := { lock := 62, unlock := 63, ilock := 77, iunlock := 78, lockSlow := 103, unlockSlow := 105, disable := 83, enable := 84, acquire := 95, relMerge := 82, cas32 := 102, add32 := 104, tMutex := 81, tIMutex := 79, tPMutex := 112, tPIMutex := 132, tPI32 := 134, tUP := 117, tNoCopy := 76, tU32 := 77 }
theorem muLib : Go.Conc.Locks.MuLib Try.prog muLink :=
  ⟨Try.func62, Try.func63, Try.func77, Try.func78, Try.func83, Try.func84, Try.func95, Try.func82, Try.func102, Try.func104, Try.underlying79, Try.runUnderlying79, Try.sizeOf79, Try.isAgg79, Try.zeroValue79, Try.underlying81, Try.runUnderlying81, Try.sizeOf81, Try.isAgg81, Try.zeroValue81, Try.underlying112, Try.runUnderlying112, Try.sizeOf112, Try.isAgg112, Try.zeroValue112, Try.underlying132, Try.runUnderlying132, Try.sizeOf132, Try.isAgg132, Try.zeroValue132, Try.underlying134, Try.runUnderlying134, Try.sizeOf134, Try.isAgg134, Try.zeroValue134, Try.underlying117, Try.runUnderlying117, Try.sizeOf117, Try.isAgg117, Try.zeroValue117, Try.underlying76, Try.runUnderlying76, Try.sizeOf76, Try.isAgg76, Try.zeroValue76, Try.underlying21, Try.runUnderlying21, Try.sizeOf21, Try.isAgg21, Try.zeroValue21, (by kernel_rfl)⟩
end Go.Proofs.Ytlhbclblehmdbaa
