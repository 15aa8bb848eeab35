/- The document's side of package part: Get. -/
import Derived.Test.YtpmidpoehgchgaaPart13
namespace Go.Proofs.Ytpmidpoehgchgaa
set_option linter.unusedVariables false
set_option linter.unusedSimpArgs false
open Go.RowKit
end Go.Proofs.Ytpmidpoehgchgaa
