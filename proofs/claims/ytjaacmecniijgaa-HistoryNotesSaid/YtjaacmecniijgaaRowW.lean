/- A struct of many cells, stored and loaded whole. -/
import Derived.Test.YtjaacmecniijgaaHeap
import Derived.Deep.WholeRow
import Derived.Test.YtjaacmecniijgaaQuiet
namespace Go.Proofs.Ytjaacmecniijgaa
set_option linter.unusedVariables false
set_option linter.unusedSimpArgs false
open Go.RowKit
theorem below_setRow {B : Nat} {w W : World} (h : Below B w W) {g : Nat} (hg : B ≤ g) (c : Array Value) : Below B w (W.setRow g c) :=
  ⟨h.os, h.tape, h.output, by simpa using h.size, fun k hk => (setRow_other W g k c (by omega)).trans (h.block k hk)⟩
theorem Blk.setRow {W : World} {g : Nat} {t : TypeId} {cs : Array Value} (h : Blk W g t cs) (c : Array Value) : Blk (W.setRow g c) g t c := setRow_heap W g cs c t (0, 0) h
theorem Blk.setRow_far {W : World} {g g' : Nat} {t : TypeId} {cs : Array Value} (h : Blk W g t cs) (hne : g ≠ g') (c : Array Value) : Blk (W.setRow g' c) g t cs := (setRow_other W g' g c hne).trans h
section
variable {P : Program} {ops : Array Oper} {Q : Exit → Act → World → Prop} {a : Act} {w : World} {rest : List Oper} {o : Oper}
/-- a struct is stored whole -/
theorem wpList_stRow (hg : o.guard = none) (hd : o.dst = none) {t : TypeId} {p v : Operand} (ho : o.op = .store t p v) {g : Nat} (hp : a.eval p = .pointer (some ⟨g, 0, none⟩)) {cs : Array Value} (hv : a.eval v = .agg cs) {tt : TypeId} {old : Array Value}
    (hb : Blk w g tt old) (hi : (P.info? t).map (·.size) = some cs.size) (hs : old.size = cs.size) (h1 : cs.all (·.oneCell') = true) (h : wpList P ops Q rest a (w.setRow g cs)) : wpList P ops Q (o :: rest) a w := by
  refine wpList_plain hg fun K hK => ?_
  have hr : (execOp a.eval o).run P w = .ok .skip (w.setRow g cs) := by
    have h2 := run_storeVar_row (P := P) w g tt t old cs hb hi hs h1
    simp only [execOp, ho, hp, hv, Instr.storeAt, Instr.sureAddr, Sem.run_bind, Sem.run_pure, Result.andThen, h2]
  unfold Oper.wp
  rw [hr, Oper.upon_skip, hd]
  exact hK _ _ h
/-- a struct is loaded whole -/
theorem wpList_ldRow (hg : o.guard = none) {t : TypeId} {p : Operand} (ho : o.op = .load t p) {g : Nat} (hp : a.eval p = .pointer (some ⟨g, 0, none⟩)) {tt : TypeId} {cs : Array Value}
    (hb : Blk w g tt cs) {fs : Array Field} (hu : P.underlying t = some (.struct fs)) (hi : (P.info? t).map (·.size) = some cs.size) (h : wpList P ops Q rest (a.put o.dst (.agg cs)) w) : wpList P ops Q (o :: rest) a w := by
  refine wpList_plain hg fun K hK => ?_
  have hr : (execOp a.eval o).run P w = .ok (.value (.agg cs)) w := by
    have h2 := run_loadVar_row (P := P) w g tt t cs (0, 0) (.struct fs) hb hu rfl hi
    simp only [execOp, ho, hp, Instr.loadAt, Instr.sureAddr, Sem.run_bind, Sem.run_pure, Result.andThen, h2]
  unfold Oper.wp
  rw [hr, Oper.upon_value]
  exact hK _ _ h
/-- results: a struct's cell, and one more -/
theorem results_row {fn : Func} {x : Tmp} {ty : TypeId} (h : fn.results = #[.cell x ty]) (tmps : Array Value) {g : Nat} (hp : tmps.getD x undef = .pointer (some ⟨g, 0, none⟩)) {tt : TypeId} {cs : Array Value} (hb : Blk w g tt cs) {fs : Array Field} (hu : P.underlying ty = some (.struct fs))
    (hi : (P.info? ty).map (·.size) = some cs.size) : (results fn tmps).run P w = .ok (.agg cs) w := by
  have h2 := run_loadVar_row (P := P) w g tt ty cs (0, 0) (.struct fs) hb hu rfl hi
  rw [Array.getD_eq_getD_getElem?] at hp
  simp [results, h, hp, asAddr, h2]
theorem results_row2 {fn : Func} {x y : Tmp} {ty : TypeId} (h : fn.results = #[.cell x ty, .tmp y]) (tmps : Array Value) {g : Nat} (hp : tmps.getD x undef = .pointer (some ⟨g, 0, none⟩)) {tt : TypeId} {cs : Array Value} (hb : Blk w g tt cs) {fs : Array Field} (hu : P.underlying ty = some (.struct fs))
    (hi : (P.info? ty).map (·.size) = some cs.size) : (results fn tmps).run P w = .ok (.tuple #[.agg cs, tmps.getD y undef]) w := by
  have h2 := run_loadVar_row (P := P) w g tt ty cs (0, 0) (.struct fs) hb hu rfl hi
  rw [Array.getD_eq_getD_getElem?] at hp
  simp [results, h, hp, asAddr, h2]
end
theorem Upd.row' (w : World) (g : Nat) (t : Array Value) : Upd (fun k => k = g) w (w.setRow g t) := ⟨rfl, rfl, rfl, by simp, fun k _ hS => setRow_other w g k t hS⟩
section
variable {P : Program}
theorem quiet_ldRow {o : Oper} {a : Act} {C : World → Prop} {K : Act → Prop} {t : TypeId} {p : Operand} (ho : o.op = .load t p) {g : Nat} (hp : a.eval p = .pointer (some ⟨g, 0, none⟩)) {tt : TypeId} {cs : Array Value} (h : ∀ w, C w → Blk w g tt cs) {fs : Array Field} (hu : P.underlying t = some (.struct fs)) (hi : (P.info? t).map (·.size) = some cs.size)
    (hk : K (a.put o.dst (.agg cs))) : o.quiet P a C K :=
  quiet_run _ (fun w hw => by
    have h2 := run_loadVar_row (P := P) w g tt t cs (0, 0) (.struct fs) (h w hw) hu rfl hi
    simp only [execOp, ho, hp, Instr.loadAt, Instr.sureAddr, Sem.run_bind, Sem.run_pure, Result.andThen, h2]) hk
end
end Go.Proofs.Ytjaacmecniijgaa
