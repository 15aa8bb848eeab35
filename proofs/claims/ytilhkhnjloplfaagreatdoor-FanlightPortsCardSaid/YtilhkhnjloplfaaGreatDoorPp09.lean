/- What the laws' proofs lean on: plain facts and contracts of the program's functions, laid together (9). -/
import Derived.Test.YtilhkhnjloplfaaGreatDoorPp07
import Derived.Test.YtilhkhnjloplfaaGreatDoorPp06
namespace Go.Proofs.YtilhkhnjloplfaaGreatDoor
set_option linter.unusedVariables false
set_option linter.unusedSimpArgs false
open Go.RowKit
end Go.Proofs.YtilhkhnjloplfaaGreatDoor
