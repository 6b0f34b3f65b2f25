/- sync.Mutex in this program: the numbers of its functions and types. -/
import Derived.Test.YtkjbjfjgnponfaaChecked
import Derived.Test.YtkjbjfjgnponfaaMem
import Derived.Conc.MuLone
import Derived.KernelRfl
namespace Go.Proofs.Ytkjbjfjgnponfaa
abbrev muL : Go.Conc.Locks.MuLink := { lock := 50, unlock := 51, ilock := 64, iunlock := 65, lockSlow := 73, unlockSlow := 76, disable := 69, enable := 71, acquire := 72, relMerge := 74, cas32 := 70, add32 := 75, tMutex := 80, tIMutex := 78, tPMutex := 107, tPIMutex := 111, tPI32 := 113, tUP := 115, tNoCopy := 75, tU32 := 76 }
theorem muLib : Go.Conc.Locks.MuLib Try.prog muL :=
  ⟨Try.func50, Try.func51, Try.func64, Try.func65, Try.func69, Try.func71, Try.func72, Try.func74, Try.func70, Try.func75, Try.underlying78, Try.runUnderlying78, Try.sizeOf78, Try.isAgg78, Try.zeroValue78, Try.underlying80, Try.runUnderlying80, Try.sizeOf80, Try.isAgg80, Try.zeroValue80, Try.underlying107, Try.runUnderlying107, Try.sizeOf107, Try.isAgg107, Try.zeroValue107, Try.underlying111, Try.runUnderlying111, Try.sizeOf111, Try.isAgg111, Try.zeroValue111, Try.underlying113, Try.runUnderlying113, Try.sizeOf113, Try.isAgg113, Try.zeroValue113, Try.underlying115, Try.runUnderlying115, Try.sizeOf115, Try.isAgg115, Try.zeroValue115, Try.underlying75, Try.runUnderlying75, Try.sizeOf75, Try.isAgg75, Try.zeroValue75, Try.underlying21, Try.runUnderlying21, Try.sizeOf21, Try.isAgg21, Try.zeroValue21, (by kernel_rfl)⟩
end Go.Proofs.Ytkjbjfjgnponfaa
