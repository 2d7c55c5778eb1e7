/- Tables of the program. No condition. -/
import Derived.Test.YtedbfdlgiilapaaGreatDoorZvL7
set_option linter.unusedSimpArgs false
set_option linter.unusedVariables false
namespace Go.Zv.G
end Go.Zv.G
