/- Arguments of the laws of package part. -/
import Derived.Test.YtgfjdnbejmmckaaPart18
import Derived.Test.YtgfjdnbejmmckaaFrame
namespace Go.Proofs.Ytgfjdnbejmmckaa
set_option linter.unusedVariables false
set_option linter.unusedSimpArgs false
open Go.RowKit
theorem arr6 {cs : Array Value} (h : cs.size = 6) {a b c d e f : Value} (h0 : cs.toList[0]? = some a) (h1 : cs.toList[1]? = some b) (h2 : cs.toList[2]? = some c) (h3 : cs.toList[3]? = some d) (h4 : cs.toList[4]? = some e) (h5 : cs.toList[5]? = some f) : cs = #[a, b, c, d, e, f] := by
  obtain ⟨l⟩ := cs
  match l, h with
  | [x0, x1, x2, x3, x4, x5], _ =>
    simp only [List.getElem?_cons_zero, List.getElem?_cons_succ, Option.some.injEq] at h0 h1 h2 h3 h4 h5
    rw [h0, h1, h2, h3, h4, h5]
theorem arg_head {W : World} {v : Value} (h : Arg Try.prog W 47 v) : ∃ a b c d e f : Int, v = .agg #[.int .i64 a, .int .i64 b, .int .i64 c, .int .i64 d, .int .u32 e, .int .u32 f] ∧ inr .u32 e ∧ inr .u32 f := by
  obtain ⟨cs, m, rfl, hs, hf⟩ := arg_struct Try.underlying47 h
  have hC : Try.prog.cellsOf 47 = 6 := by kernel_rfl
  have hCi : Try.prog.cellsOf 3 = 1 := by kernel_rfl
  have hCu : Try.prog.cellsOf 22 = 1 := by kernel_rfl
  obtain ⟨x0, e0, _⟩ := fld_int (i := 0) hf rfl Try.underlying3 hCi
  obtain ⟨x1, e1, _⟩ := fld_int (i := 1) hf rfl Try.underlying3 hCi
  obtain ⟨x2, e2, _⟩ := fld_int (i := 2) hf rfl Try.underlying3 hCi
  obtain ⟨x3, e3, _⟩ := fld_int (i := 3) hf rfl Try.underlying3 hCi
  obtain ⟨x4, e4, r4⟩ := fld_int (i := 4) hf rfl Try.underlying22 hCu
  obtain ⟨x5, e5, r5⟩ := fld_int (i := 5) hf rfl Try.underlying22 hCu
  exact ⟨x0, x1, x2, x3, x4, x5, by rw [arr6 (hs.trans hC) e0 e1 e2 e3 e4 e5], r4, r5⟩
end Go.Proofs.Ytgfjdnbejmmckaa
