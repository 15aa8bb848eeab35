/- A struct of many cells, stored and loaded whole: a Part. -/
import Derived.Test.YtjaacmecniijgaaPart3
import Derived.Test.YtjaacmecniijgaaHead2
import Derived.Deep.WholeRow
import Derived.Test.YtjaacmecniijgaaRowW
namespace Go.Proofs.Ytjaacmecniijgaa
set_option linter.unusedVariables false
set_option linter.unusedSimpArgs false
open Go.RowKit
def Pt.val (p : Pt) : Value := .agg #[.int .i64 p.proto, .int .u16 p.src, .int .u16 p.dst, .int .i64 p.flags, .int .i64 p.kind, .int .i64 p.code, .bool p.err, .int .i64 p.inner.size, .int .i64 p.inner.len, .int .i64 p.inner.ttl, .int .i64 p.inner.proto, .int .u32 p.inner.src, .int .u32 p.inner.dst, .int .i64 p.pat, .bool p.bare]
theorem info_part : (Try.prog.info? 86).map (fun i => (i.zero, i.size)) = some (some (.agg #[.int .i64 Pt.z.proto, .int .u16 Pt.z.src, .int .u16 Pt.z.dst, .int .i64 Pt.z.flags, .int .i64 Pt.z.kind, .int .i64 Pt.z.code, .bool Pt.z.err, .int .i64 Pt.z.inner.size, .int .i64 Pt.z.inner.len, .int .i64 Pt.z.inner.ttl, .int .i64 Pt.z.inner.proto, .int .u32 Pt.z.inner.src, .int .u32 Pt.z.inner.dst, .int .i64 Pt.z.pat, .bool Pt.z.bare]), 15) := by kernel_rfl
/-- a place for a Part -/
def IsPt (W : World) (g : Nat) : Prop := ∃ cs, cs.size = 15 ∧ Blk W g 86 cs
theorem IsPt.of {W : World} {g : Nat} {cs : Array Value} (h : Blk W g 86 cs) (hs : cs.size = 15) : IsPt W g := ⟨cs, hs, h⟩
theorem IsPt.bel {W W' : World} {g : Nat} (h : IsPt W g) (hb : Below W.heap.size W W') : IsPt W' g := by obtain ⟨cs, h1, h2⟩ := h; exact ⟨cs, h1, h2.bel hb⟩
theorem IsPt.alloc {W : World} {g : Nat} (h : IsPt W g) (o : Obj) : IsPt (W.alloc o) g := by obtain ⟨cs, h1, h2⟩ := h; exact ⟨cs, h1, h2.alloc o⟩
theorem IsPt.drew {W : World} {g : Nat} (h : IsPt W g) : IsPt W.drew g := h
theorem IsPt.lt {W : World} {g : Nat} (h : IsPt W g) : g < W.heap.size := by obtain ⟨cs, h1, h2⟩ := h; exact h2.lt
theorem IsPt.far {W : World} {g g' : Nat} (h : IsPt W g) (hne : g ≠ g') (c : Array Value) : IsPt (W.setRow g' c) g := by obtain ⟨cs, h1, h2⟩ := h; exact ⟨cs, h1, h2.setRow_far hne c⟩
section
variable {P : Program} {ops : Array Oper} {Q : Exit → Act → World → Prop} {a : Act} {w : World} {rest : List Oper} {o : Oper}
end
theorem pt_size : (Try.prog.info? 86).map (·.size) = some 15 := (zero_of_info info_part).2
end Go.Proofs.Ytjaacmecniijgaa
