/- The document's side of package part: Udp, Tcp, Echo, Fault. -/
import Derived.Test.YtpmidpoehgchgaaPart19
namespace Go.Proofs.Ytpmidpoehgchgaa
set_option linter.unusedVariables false
set_option linter.unusedSimpArgs false
open Go.RowKit
end Go.Proofs.Ytpmidpoehgchgaa
