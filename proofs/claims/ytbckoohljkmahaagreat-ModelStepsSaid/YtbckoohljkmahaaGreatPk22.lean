/- Contracts and plain facts. -/
import Derived.Test.YtbckoohljkmahaaGreatPk21
namespace Go.Proofs.YtbckoohljkmahaaGreat
set_option linter.unusedVariables false
set_option linter.unusedSimpArgs false
set_option maxRecDepth 100000
set_option maxHeartbeats 16000000
open Go.RowKit
abbrev BkL := List (Nat × TypeId × Array Value)
abbrev OwL := List (Value × List Int)
section
variable {w W W' : World} {c : Cf} {gn pb fm np nf : Nat} {L : List Bd} {bs : BkL} {os : OwL}
end
end Go.Proofs.YtbckoohljkmahaaGreat
