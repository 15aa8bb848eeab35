/- Arguments of the laws of package part. -/
import Derived.Test.YtpmidpoehgchgaaPart18
import Derived.Test.YtpmidpoehgchgaaFrame
namespace Go.Proofs.Ytpmidpoehgchgaa
set_option linter.unusedVariables false
set_option linter.unusedSimpArgs false
open Go.RowKit
theorem arr6 {cs : Array Value} (h : cs.size = 6) {a b c d e f : Value} (h0 : cs.toList[0]? = some a) (h1 : cs.toList[1]? = some b) (h2 : cs.toList[2]? = some c) (h3 : cs.toList[3]? = some d) (h4 : cs.toList[4]? = some e) (h5 : cs.toList[5]? = some f) : cs = #[a, b, c, d, e, f] := by
  obtain ⟨l⟩ := cs
  match l, h with
  | [x0, x1, x2, x3, x4, x5], _ =>
    simp only [List.getElem?_cons_zero, List.getElem?_cons_succ, Option.some.injEq] at h0 h1 h2 h3 h4 h5
    rw [h0, h1, h2, h3, h4, h5]
end Go.Proofs.Ytpmidpoehgchgaa
