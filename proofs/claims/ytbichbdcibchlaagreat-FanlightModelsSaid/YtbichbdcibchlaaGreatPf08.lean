/- Contracts and plain facts. -/
import Derived.Test.YtbichbdcibchlaaGreatPf07
namespace Go.Proofs.YtbichbdcibchlaaGreat
set_option linter.unusedVariables false
set_option linter.unusedSimpArgs false
set_option maxRecDepth 100000
set_option maxHeartbeats 16000000
open Go.RowKit
end Go.Proofs.YtbichbdcibchlaaGreat
