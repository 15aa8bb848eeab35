/- Arguments: Sent; plain: a byte behind the head turned. -/
import Derived.Test.YtjaacmecniijgaaPart23
import Derived.Test.YtjaacmecniijgaaHnAll2
namespace Go.Proofs.Ytjaacmecniijgaa
set_option linter.unusedVariables false
set_option linter.unusedSimpArgs false
open Go.RowKit
theorem fld_ints {P : Program} {W : World} {k : IntKind} {e : TypeId} {fs : Array Field} {m i : Nat} {f : Field} {cs : List Value} (hf : ∀ (i : Nat) (f : Field), fs[i]? = some f → Rdg P W m f.type ((cs.drop f.offset).take (P.cellsOf f.type)))
    (hi : fs[i]? = some f) (ht : P.underlying f.type = some (.slice e)) (he : P.underlying e = some (.int k)) (hCe : P.cellsOf e = 1) (hC : P.cellsOf f.type = 1) :
    ∃ A len cap l, cs[f.offset]? = some (.slice A len cap) ∧ len ≤ cap ∧ cap ≤ maxLen ∧ Rd k W W.heap.size A len l := by
  have h := hf i f hi
  rw [hC] at h
  obtain ⟨A, len, cap, l, hcs, h3, h4, h5⟩ := rdg_ints ht he hCe h
  refine ⟨A, len, cap, l, ?_, h3, h4, h5⟩
  have : ((cs.drop f.offset).take 1)[0]? = some (.slice A len cap) := by rw [hcs]; rfl
  simpa using this
theorem arr7 {cs : Array Value} {x0 x1 x2 x3 x4 x5 x6 : Value} (h : cs.size = 7) (h0 : cs.toList[0]? = some x0) (h1 : cs.toList[1]? = some x1) (h2 : cs.toList[2]? = some x2) (h3 : cs.toList[3]? = some x3) (h4 : cs.toList[4]? = some x4) (h5 : cs.toList[5]? = some x5) (h6 : cs.toList[6]? = some x6) : cs = #[x0, x1, x2, x3, x4, x5, x6] := by
  obtain ⟨l⟩ := cs
  match l, h with
  | [y0, y1, y2, y3, y4, y5, y6], _ =>
    simp only [List.getElem?_cons_zero, List.getElem?_cons_succ, Option.some.injEq] at h0 h1 h2 h3 h4 h5 h6
    rw [h0, h1, h2, h3, h4, h5, h6]
theorem arr3 {cs : Array Value} {x0 x1 x2 : Value} (h : cs.size = 3) (h0 : cs.toList[0]? = some x0) (h1 : cs.toList[1]? = some x1) (h2 : cs.toList[2]? = some x2) : cs = #[x0, x1, x2] := by
  obtain ⟨l⟩ := cs
  match l, h with
  | [y0, y1, y2], _ =>
    simp only [List.getElem?_cons_zero, List.getElem?_cons_succ, Option.some.injEq] at h0 h1 h2
    rw [h0, h1, h2]
theorem arg_sent {W : World} {v : Value} (h : Arg Try.prog W 75 v) : ∃ (wt s d a b f : Int) (A : Option Addr) (len cap : Nat) (l : List Int), v = .agg #[.int .i64 wt, .int .u32 s, .int .u32 d, .int .u16 a, .int .u16 b, .int .i64 f, .slice A len cap] ∧
    (0 ≤ s ∧ s ≤ 4294967295) ∧ (0 ≤ d ∧ d ≤ 4294967295) ∧ (0 ≤ a ∧ a ≤ 65535) ∧ (0 ≤ b ∧ b ≤ 65535) ∧ len ≤ cap ∧ cap ≤ maxLen ∧ Rd .u8 W W.heap.size A len l := by
  obtain ⟨cs, m, rfl, hs, hf⟩ := arg_struct Try.underlying75 h
  have hC : Try.prog.cellsOf 75 = 7 := by kernel_rfl
  have hCi : Try.prog.cellsOf 3 = 1 := by kernel_rfl
  have hCu : Try.prog.cellsOf 72 = 1 := by kernel_rfl
  have hCh : Try.prog.cellsOf 73 = 1 := by kernel_rfl
  have hCb : Try.prog.cellsOf 5 = 1 := by kernel_rfl
  have hCs : Try.prog.cellsOf 24 = 1 := by kernel_rfl
  obtain ⟨x0, e0, _⟩ := fld_int (i := 0) hf rfl Try.underlying3 hCi
  obtain ⟨x1, e1, r1⟩ := fld_int (i := 1) hf rfl Try.underlying72 hCu
  obtain ⟨x2, e2, r2⟩ := fld_int (i := 2) hf rfl Try.underlying72 hCu
  obtain ⟨x3, e3, r3⟩ := fld_int (i := 3) hf rfl Try.underlying73 hCh
  obtain ⟨x4, e4, r4⟩ := fld_int (i := 4) hf rfl Try.underlying73 hCh
  obtain ⟨x5, e5, _⟩ := fld_int (i := 5) hf rfl Try.underlying3 hCi
  obtain ⟨A, len, cap, l, e6, h1, h2, h3⟩ := fld_ints (i := 6) hf rfl Try.underlying24 Try.underlying5 hCb hCs
  exact ⟨x0, x1, x2, x3, x4, x5, A, len, cap, l, by rw [arr7 (hs.trans hC) e0 e1 e2 e3 e4 e5 e6], inr_u32 r1, inr_u32 r2, inr_u16 r3, inr_u16 r4, h1, h2, h3⟩
theorem putL_set (t p s d : Int) (l : List Int) (j : Nat) (x : Int) : (putL t p s d l).set (20 + j) x = putL t p s d (l.set j x) := by
  unfold putL
  rw [List.length_set]
  generalize sumOf (hd20 t p s d (20 + (l.length : Int)) 0) = S
  rw [List.set_append]
  have hl : (hd20 t p s d (20 + (l.length : Int)) S).length = 20 := rfl
  rw [hl, if_neg (by omega)]
  congr 2
  omega
/-- what a frame's head tells -/
theorem frame_head {P s d : Int} {l : List Int} (hP : 0 ≤ P ∧ P ≤ 255) (hs : 0 ≤ s ∧ s ≤ 4294967295) (hd : 0 ≤ d ∧ d ≤ 4294967295) (hl : l.length ≤ 1480) : getE (putL 64 P s d l) = 0 ∧ hdIf (putL 64 P s d l) 0 = ⟨20, 20 + l.length, 64, P, s, d⟩ := by
  have h := put_get (t := 64) (p := P) (s := s) (d := d) (l := l) (by omega) hP hs hd hl []
  rw [List.append_nil] at h
  refine ⟨h.1, ?_⟩
  unfold hdIf
  rw [if_pos rfl, h.2]
end Go.Proofs.Ytjaacmecniijgaa
