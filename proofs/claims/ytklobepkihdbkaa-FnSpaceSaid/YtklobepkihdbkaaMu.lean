/- The lock's functions and types under this program's numbers. No condition. -/
import Derived.Test.YtklobepkihdbkaaProg
import Derived.Conc.MuLone
import Derived.KernelRfl
namespace Go.Proofs
abbrev Try.muLink : Go.Conc.Locks.MuLink := { lock := 71, unlock := 72, ilock := 83, iunlock := 84, lockSlow := 95, unlockSlow := 98, disable := 91, enable := 93, acquire := 94, relMerge := 96, cas32 := 92, add32 := 97, tMutex := 92, tIMutex := 90, tPMutex := 131, tPIMutex := 138, tPI32 := 140, tUP := 142, tNoCopy := 87, tU32 := 88 }
theorem Try.muLib : Go.Conc.Locks.MuLib Try.prog Try.muLink :=
  ⟨Try.func71, Try.func72, Try.func83, Try.func84, Try.func91, Try.func93, Try.func94, Try.func96, Try.func92, Try.func97, Try.underlying90, Try.runUnderlying90, Try.sizeOf90, Try.isAgg90, Try.zeroValue90, Try.underlying92, Try.runUnderlying92, Try.sizeOf92, Try.isAgg92, Try.zeroValue92, Try.underlying131, Try.runUnderlying131, Try.sizeOf131, Try.isAgg131, Try.zeroValue131, Try.underlying138, Try.runUnderlying138, Try.sizeOf138, Try.isAgg138, Try.zeroValue138, Try.underlying140, Try.runUnderlying140, Try.sizeOf140, Try.isAgg140, Try.zeroValue140, Try.underlying142, Try.runUnderlying142, Try.sizeOf142, Try.isAgg142, Try.zeroValue142, Try.underlying87, Try.runUnderlying87, Try.sizeOf87, Try.isAgg87, Try.zeroValue87, Try.underlying21, Try.runUnderlying21, Try.sizeOf21, Try.isAgg21, Try.zeroValue21, (by kernel_rfl)⟩
end Go.Proofs
