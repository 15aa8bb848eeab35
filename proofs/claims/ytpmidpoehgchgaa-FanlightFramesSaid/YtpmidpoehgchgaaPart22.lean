/- What is sent as a frame, by the document. -/
import Derived.Test.YtpmidpoehgchgaaPart21
namespace Go.Proofs.Ytpmidpoehgchgaa
set_option linter.unusedVariables false
set_option linter.unusedSimpArgs false
open Go.RowKit
theorem sn_size : (Try.prog.info? 26).map (·.size) = some 7 := by kernel_rfl
theorem carP_bd (k : Nat) : 0 ≤ carP k ∧ carP k ≤ 255 := by unfold carP; split; · omega
                                                            · split <;> omega
end Go.Proofs.Ytpmidpoehgchgaa
