/- The chapter's example, worked out. No condition. -/
import Derived.Test.YtedbfdlgiilapaaGreatDoorPrimsL
import Derived.KernelRfl
set_option linter.unusedSimpArgs false
set_option linter.unusedVariables false
namespace Go.Proofs.YtedbfdlgiilapaaGreatDoor.G
open Go Go.Zv Go.Proofs Go.Proofs.YtedbfdlgiilapaaGreatDoor
set_option maxRecDepth 1000000
set_option maxHeartbeats 0
theorem A_f_sidinglaw22_alive:Go.Zv.G.f_sidinglaw22_alive 60000=some true:=by kernel_rfl
#print axioms A_f_sidinglaw22_alive
end Go.Proofs.YtedbfdlgiilapaaGreatDoor.G
