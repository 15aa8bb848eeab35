/- The walk of the document's Right: what comes is as long as what was. -/
import Derived.Test.YtgfjdnbejmmckaaPart22
namespace Go.Proofs.Ytgfjdnbejmmckaa
set_option linter.unusedVariables false
set_option linter.unusedSimpArgs false
open Go.RowKit
def RightRes (w : World) (n : Nat) (e : Ending) (w' : World) : Prop := ∃ L : List Int, L.length = n ∧ Gives w L e w'
end Go.Proofs.Ytgfjdnbejmmckaa
