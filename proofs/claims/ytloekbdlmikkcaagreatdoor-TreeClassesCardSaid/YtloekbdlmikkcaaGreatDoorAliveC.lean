/- The chapter's example, worked out. No condition. -/
import Derived.Test.YtloekbdlmikkcaaGreatDoorPrimsC
import Derived.KernelRfl
namespace Go.Proofs.YtloekbdlmikkcaaGreatDoor.G
open Go Go.Zv Go.Proofs Go.Proofs.YtloekbdlmikkcaaGreatDoor
set_option maxRecDepth 1000000
set_option maxHeartbeats 0
theorem A10 (d : Nat) : callD tab prims 5000 (d + 30) 10 [] = some (.bool true, []) := by kernel_rfl
#print axioms A10
end Go.Proofs.YtloekbdlmikkcaaGreatDoor.G
