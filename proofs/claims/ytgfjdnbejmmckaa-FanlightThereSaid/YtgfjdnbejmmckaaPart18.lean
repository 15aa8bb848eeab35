/- The law's helper parts. -/
import Derived.Test.YtgfjdnbejmmckaaPart17
namespace Go.Proofs.Ytgfjdnbejmmckaa
set_option linter.unusedVariables false
set_option linter.unusedSimpArgs false
open Go.RowKit
theorem echo5 : echoL false 5 [] = [8, 0, 247, 250, 0, 5, 0, 0] := by decide +kernel
theorem get5 : getR ⟨20, 28, 0, 1, 0, 0⟩ [0, 0, 0, 0, 0, 0, 0, 0, 0, 0, 0, 0, 0, 0, 0, 0, 0, 0, 0, 0, 8, 0, 247, 250, 0, 5, 0, 0] = (0, ⟨1, 5, 5, 0, 8, 0, false, Hd.z, 0, false⟩) := by kernel_rfl
theorem str5 : strOfNums [8, 0, 247, 250, 0, 5, 0, 0] = { data := #[8, 0, 247, 250, 0, 5, 0, 0] } := by kernel_rfl
end Go.Proofs.Ytgfjdnbejmmckaa
