/- A struct of many cells, stored and loaded whole: a Part. -/
import Derived.Test.YtgfjdnbejmmckaaPart3
import Derived.Test.YtgfjdnbejmmckaaHead2
import Derived.Deep.WholeRow
namespace Go.Proofs.Ytgfjdnbejmmckaa
set_option linter.unusedVariables false
set_option linter.unusedSimpArgs false
open Go.RowKit
def Pt.val (p : Pt) : Value := .agg #[.int .i64 p.proto, .int .u16 p.src, .int .u16 p.dst, .int .i64 p.flags, .int .i64 p.kind, .int .i64 p.code, .bool p.err, .int .i64 p.inner.size, .int .i64 p.inner.len, .int .i64 p.inner.ttl, .int .i64 p.inner.proto, .int .u32 p.inner.src, .int .u32 p.inner.dst, .int .i64 p.pat, .bool p.bare]
theorem below_setRow {B : Nat} {w W : World} (h : Below B w W) {g : Nat} (hg : B ≤ g) (c : Array Value) : Below B w (W.setRow g c) :=
  ⟨h.os, h.tape, h.output, by simpa using h.size, fun k hk => (setRow_other W g k c (by omega)).trans (h.block k hk)⟩
theorem Blk.setRow {W : World} {g : Nat} {t : TypeId} {cs : Array Value} (h : Blk W g t cs) (c : Array Value) : Blk (W.setRow g c) g t c := setRow_heap W g cs c t (0, 0) h
theorem Blk.setRow_far {W : World} {g g' : Nat} {t : TypeId} {cs : Array Value} (h : Blk W g t cs) (hne : g ≠ g') (c : Array Value) : Blk (W.setRow g' c) g t cs := (setRow_other W g' g c hne).trans h
theorem info_part : (Try.prog.info? 39).map (fun i => (i.zero, i.size)) = some (some (.agg #[.int .i64 Pt.z.proto, .int .u16 Pt.z.src, .int .u16 Pt.z.dst, .int .i64 Pt.z.flags, .int .i64 Pt.z.kind, .int .i64 Pt.z.code, .bool Pt.z.err, .int .i64 Pt.z.inner.size, .int .i64 Pt.z.inner.len, .int .i64 Pt.z.inner.ttl, .int .i64 Pt.z.inner.proto, .int .u32 Pt.z.inner.src, .int .u32 Pt.z.inner.dst, .int .i64 Pt.z.pat, .bool Pt.z.bare]), 15) := by kernel_rfl
/-- a place for a Part -/
def IsPt (W : World) (g : Nat) : Prop := ∃ cs, cs.size = 15 ∧ Blk W g 39 cs
theorem IsPt.of {W : World} {g : Nat} {cs : Array Value} (h : Blk W g 39 cs) (hs : cs.size = 15) : IsPt W g := ⟨cs, hs, h⟩
theorem IsPt.bel {W W' : World} {g : Nat} (h : IsPt W g) (hb : Below W.heap.size W W') : IsPt W' g := by obtain ⟨cs, h1, h2⟩ := h; exact ⟨cs, h1, h2.bel hb⟩
theorem IsPt.alloc {W : World} {g : Nat} (h : IsPt W g) (o : Obj) : IsPt (W.alloc o) g := by obtain ⟨cs, h1, h2⟩ := h; exact ⟨cs, h1, h2.alloc o⟩
theorem IsPt.drew {W : World} {g : Nat} (h : IsPt W g) : IsPt W.drew g := h
theorem IsPt.lt {W : World} {g : Nat} (h : IsPt W g) : g < W.heap.size := by obtain ⟨cs, h1, h2⟩ := h; exact h2.lt
theorem IsPt.far {W : World} {g g' : Nat} (h : IsPt W g) (hne : g ≠ g') (c : Array Value) : IsPt (W.setRow g' c) g := by obtain ⟨cs, h1, h2⟩ := h; exact ⟨cs, h1, h2.setRow_far hne c⟩
section
variable {P : Program} {ops : Array Oper} {Q : Exit → Act → World → Prop} {a : Act} {w : World} {rest : List Oper} {o : Oper}
/-- a struct is stored whole -/
theorem wpList_stRow (hg : o.guard = none) (hd : o.dst = none) {t : TypeId} {p v : Operand} (ho : o.op = .store t p v) {g : Nat} (hp : a.eval p = .pointer (some ⟨g, 0, none⟩)) {cs : Array Value} (hv : a.eval v = .agg cs) {tt : TypeId} {old : Array Value}
    (hb : Blk w g tt old) (hi : (P.info? t).map (·.size) = some cs.size) (hs : old.size = cs.size) (h1 : cs.all (·.oneCell') = true) (h : wpList P ops Q rest a (w.setRow g cs)) : wpList P ops Q (o :: rest) a w := by
  refine wpList_plain hg fun K hK => ?_
  have hr : (execOp a.eval o).run P w = .ok .skip (w.setRow g cs) := by
    have h2 := run_storeVar_row (P := P) w g tt t old cs hb hi hs h1
    simp only [execOp, ho, hp, hv, Instr.storeAt, Instr.sureAddr, Sem.run_bind, Sem.run_pure, Result.andThen, h2]
  unfold Oper.wp
  rw [hr, Oper.upon_skip, hd]
  exact hK _ _ h
/-- a struct is loaded whole -/
theorem wpList_ldRow (hg : o.guard = none) {t : TypeId} {p : Operand} (ho : o.op = .load t p) {g : Nat} (hp : a.eval p = .pointer (some ⟨g, 0, none⟩)) {tt : TypeId} {cs : Array Value}
    (hb : Blk w g tt cs) {fs : Array Field} (hu : P.underlying t = some (.struct fs)) (hi : (P.info? t).map (·.size) = some cs.size) (h : wpList P ops Q rest (a.put o.dst (.agg cs)) w) : wpList P ops Q (o :: rest) a w := by
  refine wpList_plain hg fun K hK => ?_
  have hr : (execOp a.eval o).run P w = .ok (.value (.agg cs)) w := by
    have h2 := run_loadVar_row (P := P) w g tt t cs (0, 0) (.struct fs) hb hu rfl hi
    simp only [execOp, ho, hp, Instr.loadAt, Instr.sureAddr, Sem.run_bind, Sem.run_pure, Result.andThen, h2]
  unfold Oper.wp
  rw [hr, Oper.upon_value]
  exact hK _ _ h
/-- results: a struct's cell, and one more -/
theorem results_row {fn : Func} {x : Tmp} {ty : TypeId} (h : fn.results = #[.cell x ty]) (tmps : Array Value) {g : Nat} (hp : tmps.getD x undef = .pointer (some ⟨g, 0, none⟩)) {tt : TypeId} {cs : Array Value} (hb : Blk w g tt cs) {fs : Array Field} (hu : P.underlying ty = some (.struct fs))
    (hi : (P.info? ty).map (·.size) = some cs.size) : (results fn tmps).run P w = .ok (.agg cs) w := by
  have h2 := run_loadVar_row (P := P) w g tt ty cs (0, 0) (.struct fs) hb hu rfl hi
  rw [Array.getD_eq_getD_getElem?] at hp
  simp [results, h, hp, asAddr, h2]
theorem results_row2 {fn : Func} {x y : Tmp} {ty : TypeId} (h : fn.results = #[.cell x ty, .tmp y]) (tmps : Array Value) {g : Nat} (hp : tmps.getD x undef = .pointer (some ⟨g, 0, none⟩)) {tt : TypeId} {cs : Array Value} (hb : Blk w g tt cs) {fs : Array Field} (hu : P.underlying ty = some (.struct fs))
    (hi : (P.info? ty).map (·.size) = some cs.size) : (results fn tmps).run P w = .ok (.tuple #[.agg cs, tmps.getD y undef]) w := by
  have h2 := run_loadVar_row (P := P) w g tt ty cs (0, 0) (.struct fs) hb hu rfl hi
  rw [Array.getD_eq_getD_getElem?] at hp
  simp [results, h, hp, asAddr, h2]
end
theorem pt_size : (Try.prog.info? 39).map (·.size) = some 15 := (zero_of_info info_part).2
end Go.Proofs.Ytgfjdnbejmmckaa
