/- The chapter's example, worked out. No condition. -/
import Derived.Test.YtloekbdlmikkcaaGreatDoorPrimsK
import Derived.KernelRfl
set_option linter.unusedSimpArgs false
set_option linter.unusedVariables false
namespace Go.Proofs.YtloekbdlmikkcaaGreatDoor.G
open Go Go.Zv Go.Proofs Go.Proofs.YtloekbdlmikkcaaGreatDoor
set_option maxRecDepth 1000000
set_option maxHeartbeats 0
theorem A_f_sidinglaw17_NormNames : Go.Zv.G.f_sidinglaw17_NormNames 5000 = some true := by kernel_rfl
#print axioms A_f_sidinglaw17_NormNames
end Go.Proofs.YtloekbdlmikkcaaGreatDoor.G
