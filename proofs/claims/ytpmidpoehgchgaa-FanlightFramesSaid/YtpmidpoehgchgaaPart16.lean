/- The document's side of package part: Get of TCP, and Get. -/
import Derived.Test.YtpmidpoehgchgaaPart15
namespace Go.Proofs.Ytpmidpoehgchgaa
set_option linter.unusedVariables false
set_option linter.unusedSimpArgs false
open Go.RowKit
end Go.Proofs.Ytpmidpoehgchgaa
