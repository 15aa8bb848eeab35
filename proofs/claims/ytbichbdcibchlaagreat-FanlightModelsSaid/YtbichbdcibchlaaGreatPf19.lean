/- Contracts and plain facts. -/
import Derived.Test.YtbichbdcibchlaaGreatPf15
namespace Go.Proofs.YtbichbdcibchlaaGreat
set_option linter.unusedVariables false
set_option linter.unusedSimpArgs false
set_option maxRecDepth 100000
set_option maxHeartbeats 16000000
open Go.RowKit
structure Sn where
 out : Bool
 wt : Int
 wo : Int
 po : Int
 f : Int
 A : Option Addr
 n : Nat
 c : Nat
 be : Int
 by_ : Int
 ti : Int
def Sn.cs (x : Sn) : List Value := [.bool x.out, .int .i64 x.wt, .int .i64 x.wo, .int .i64 x.po, .int .i64 x.f, .slice x.A x.n x.c, .int .i64 x.be, .int .u8 x.by_, .int .i64 x.ti]
structure SnOk (w : World) (x : Sn) : Prop where
 by8 : 0 ≤ x.by_ ∧ x.by_ ≤ 255
 b : ∃ l, Rd .u8 w w.heap.size x.A x.n l
 bn : x.n ≤ x.c
 bc : x.c ≤ 9223372036854775807
def SnRd (w : World) (A : Option Addr) (n : Nat) : Prop := 0 < n → ∃ b o, A = some ⟨b, o, none⟩ ∧ b < w.heap.size ∧ ∀ i, i < n → ∃ x : Sn, SnOk w x ∧ ∀ j v, x.cs[j]? = some v → w.cell? ⟨b, o + i * 9 + j, none⟩ = some v
theorem sn9 {ys : List Value} {x0 x1 x2 x3 x4 x5 x6 x7 x8 : Value} (h0 : ys[0]? = some x0) (h1 : ys[1]? = some x1) (h2 : ys[2]? = some x2) (h3 : ys[3]? = some x3) (h4 : ys[4]? = some x4) (h5 : ys[5]? = some x5) (h6 : ys[6]? = some x6) (h7 : ys[7]? = some x7) (h8 : ys[8]? = some x8) :
  ∀ (j : Nat) v, ([x0, x1, x2, x3, x4, x5, x6, x7, x8] : List Value)[j]? = some v → ys[j]? = some v := fun j v hv => by
 match j with
 | 0 => rw [h0]; exact hv
 | 1 => rw [h1]; exact hv
 | 2 => rw [h2]; exact hv
 | 3 => rw [h3]; exact hv
 | 4 => rw [h4]; exact hv
 | 5 => rw [h5]; exact hv
 | 6 => rw [h6]; exact hv
 | 7 => rw [h7]; exact hv
 | 8 => rw [h8]; exact hv
 | j + 9 => simp at hv
theorem sn_of {W : World} {m : Nat} {ys : List Value} (h : Rdg Tryz.prog W m 38 ys) : ∃ x : Sn, SnOk W x ∧ ys.length = 9 ∧ ∀ (j : Nat) v, x.cs[j]? = some v → ys[j]? = some v := by
 have hCi : Tryz.prog.cellsOf 3 = 1 := by kernel_rfl
 have hCl : Tryz.prog.cellsOf 4 = 1 := by kernel_rfl
 have hCb : Tryz.prog.cellsOf 5 = 1 := by kernel_rfl
 have hCs : Tryz.prog.cellsOf 36 = 1 := by kernel_rfl
 have hCt : Tryz.prog.cellsOf 38 = 9 := by kernel_rfl
 obtain ⟨m2, hl, hf2⟩ := rdg_struct Tryz.underlying38 h
 obtain ⟨y0, u0⟩ := fld_bool (i := 0) hf2 rfl Tryz.underlying4 hCl
 obtain ⟨y1, u1, _⟩ := fld_int (i := 1) hf2 rfl Tryz.underlying3 hCi
 obtain ⟨y2, u2, _⟩ := fld_int (i := 2) hf2 rfl Tryz.underlying3 hCi
 obtain ⟨y3, u3, _⟩ := fld_int (i := 3) hf2 rfl Tryz.underlying3 hCi
 obtain ⟨y4, u4, _⟩ := fld_int (i := 4) hf2 rfl Tryz.underlying3 hCi
 obtain ⟨sA, sn, sc, sl, u5, g1, g2, g3⟩ := fld_ints (i := 5) hf2 rfl Tryz.underlying36 Tryz.underlying5 hCb hCs
 obtain ⟨y6, u6, _⟩ := fld_int (i := 6) hf2 rfl Tryz.underlying3 hCi
 obtain ⟨y7, u7, r7⟩ := fld_int (i := 7) hf2 rfl Tryz.underlying5 hCb
 obtain ⟨y8, u8, _⟩ := fld_int (i := 8) hf2 rfl Tryz.underlying3 hCi
 unfold maxLen at g2
 exact ⟨⟨y0, y1, y2, y3, y4, sA, sn, sc, y6, y7, y8⟩, ⟨inr_u8 r7, ⟨sl, g3⟩, g1, by omega⟩, hl.trans hCt, sn9 u0 u1 u2 u3 u4 u5 u6 u7 u8⟩
theorem arg_sents {W : World} {v : Value} (h : Arg Tryz.prog W 22 v) : ∃ A n c, v = .slice A n c ∧ n ≤ c ∧ c ≤ 9223372036854775807 ∧ SnRd W A n := by
 obtain ⟨A, len, cap, m, rfl, h1, h2, h3⟩ := arg_slice Tryz.underlying22 h
 have hC : Tryz.prog.cellsOf 38 = 9 := by kernel_rfl
 rw [hC] at h3
 have h4 := slice_rows (by omega) h3
 unfold maxLen at h2
 refine ⟨A, len, cap, rfl, h1, by omega, fun hp => ?_⟩
 obtain ⟨b, o, rfl, hb, hi⟩ := h4 hp
 refine ⟨b, o, rfl, hb, fun i hil => ?_⟩
 obtain ⟨ys, hc, hl, hr⟩ := hi i hil
 obtain ⟨x, hx, hyl, hj⟩ := sn_of hr
 refine ⟨x, hx, fun j v hv => ?_⟩
 have hj9 : j < 9 := by
  have := (List.getElem?_eq_some_iff.1 (hj j v hv)).1
  omega
 exact (hc j (by omega)).trans (hj j v hv)
end Go.Proofs.YtbichbdcibchlaaGreat
