/- The law's helpers: From, parts. -/
import Derived.Test.YtgfjdnbejmmckaaPart16
import Derived.Test.YtgfjdnbejmmckaaPart3
namespace Go.Proofs.Ytgfjdnbejmmckaa
set_option linter.unusedVariables false
set_option linter.unusedSimpArgs false
open Go.RowKit
section
variable {P : Program}
theorem quiet_ldRow {o : Oper} {a : Act} {C : World → Prop} {K : Act → Prop} {t : TypeId} {p : Operand} (ho : o.op = .load t p) {g : Nat} (hp : a.eval p = .pointer (some ⟨g, 0, none⟩)) {tt : TypeId} {cs : Array Value} (h : ∀ w, C w → Blk w g tt cs) {fs : Array Field} (hu : P.underlying t = some (.struct fs)) (hi : (P.info? t).map (·.size) = some cs.size)
    (hk : K (a.put o.dst (.agg cs))) : o.quiet P a C K :=
  quiet_run _ (fun w hw => by
    have h2 := run_loadVar_row (P := P) w g tt t cs (0, 0) (.struct fs) (h w hw) hu rfl hi
    simp only [execOp, ho, hp, Instr.loadAt, Instr.sureAddr, Sem.run_bind, Sem.run_pure, Result.andThen, h2]) hk
end
end Go.Proofs.Ytgfjdnbejmmckaa
