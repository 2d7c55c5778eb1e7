/- The chapter's example, worked out. No condition. -/
import Derived.Test.YtdddbifjkkhpbaaGreatDoorPrimsP
import Derived.KernelRfl
namespace Go.Proofs.YtdddbifjkkhpbaaGreatDoor.G
open Go Go.Zv Go.Proofs Go.Proofs.YtdddbifjkkhpbaaGreatDoor
set_option maxRecDepth 1000000
set_option maxHeartbeats 0
theorem A7 (d : Nat) : callD tab prims 5000 (d + 30) 7 [] = some (.bool true, []) := by kernel_rfl
#print axioms A7
end Go.Proofs.YtdddbifjkkhpbaaGreatDoor.G
