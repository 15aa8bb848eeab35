/- The document's side of package part: Get of UDP and TCP. -/
import Derived.Test.YtpmidpoehgchgaaPart14
namespace Go.Proofs.Ytpmidpoehgchgaa
set_option linter.unusedVariables false
set_option linter.unusedSimpArgs false
open Go.RowKit
theorem n2_zero {l : List Int} {i : Nat} (hl : ∀ x, x ∈ l → 0 ≤ x ∧ x ≤ 255) (h : i + 2 ≤ l.length) : n2 l i = 0 ↔ l.getD i 0 = 0 ∧ l.getD (i + 1) 0 = 0 := by
  rw [n2_eq l i h]
  have h1 := hl (l.getD i 0) (by rw [List.getD_eq_getElem?_getD, List.getElem?_eq_getElem (by omega)]; exact List.getElem_mem _)
  have h2 := hl (l.getD (i + 1) 0) (by rw [List.getD_eq_getElem?_getD, List.getElem?_eq_getElem (by omega)]; exact List.getElem_mem _)
  omega
end Go.Proofs.Ytpmidpoehgchgaa
