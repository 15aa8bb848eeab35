/- The walks of the laws' helpers: heads; of the reference's Fix. -/
import Derived.Test.YtcigiahpgnjekaaHeadRef2
namespace Go.Proofs.Ytcigiahpgnjekaa
set_option linter.unusedVariables false
set_option linter.unusedSimpArgs false
open Go.RowKit
theorem hd_ten : getE (putL 64 17 167772161 167772162 []) = 0 := by decide +kernel
theorem get_at (l : List Int) (A : Option Addr) (len c B : Nat) (w : World) (hr : Rd .u8 w B A len l) (hB : B ≤ w.heap.size) (hlc : len ≤ c) (hcm : c ≤ 9223372036854775807) (hl : len ≤ 100000) (y0 y1 y2 y3 y4 y5 E : Int) (hE : getE l = E) (hy : hdIf l E = ⟨y0, y1, y2, y3, y4, y5⟩) :
    Calls Try.prog 22 #[.slice A len c] w fun e w' => e = .returned (.tuple #[.agg #[.int .i64 y0, .int .i64 y1, .int .i64 y2, .int .i64 y3, .int .u32 y4, .int .u32 y5], .int .i64 E]) ∧ Below w.heap.size w w' := by
  have := Get_any l A len c B w hr hB hlc hcm hl
  rw [hE, hy] at this; exact this
theorem part_at (l : List Int) (A : Option Addr) (len c B : Nat) (w : World) (hr : Rd .u8 w B A len l) (hB : B ≤ w.heap.size) (hlc : len ≤ c) (hcm : c ≤ 9223372036854775807) (y0 y1 y2 y3 y4 y5 E : Int) (hE : partE l = E) (hy : hdIf l E = ⟨y0, y1, y2, y3, y4, y5⟩) :
    Calls Try.prog 54 #[.slice A len c] w fun e w' => e = .returned (.tuple #[.agg #[.int .i64 y0, .int .i64 y1, .int .i64 y2, .int .i64 y3, .int .u32 y4, .int .u32 y5], .int .i64 E]) ∧ Below w.heap.size w w' := by
  have := Part_any l A len c B w hr hB hlc hcm
  rw [hE, hy] at this; exact this
theorem rget_at (l : List Int) (p : Bool) (A : Option Addr) (len c B : Nat) (w : World) (hr : Rd .u8 w B A len l) (hB : B ≤ w.heap.size) (hlc : len ≤ c) (hcm : c ≤ 9223372036854775807) (hl : len ≤ 100000) (y0 y1 y2 y3 y4 y5 E : Int) (hE : getP l p = E) (hy : hdIf l E = ⟨y0, y1, y2, y3, y4, y5⟩) :
    Calls Try.prog 19 #[.slice A len c, .bool p] w fun e w' => e = .returned (.tuple #[.agg #[.int .i64 y0, .int .i64 y1, .int .i64 y2, .int .i64 y3, .int .u32 y4, .int .u32 y5], .int .i64 E]) ∧ Below w.heap.size w w' := by
  have := rGet_any l p A len c B w hr hB hlc hcm hl
  rw [hE, hy] at this; exact this
end Go.Proofs.Ytcigiahpgnjekaa
