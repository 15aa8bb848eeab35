/- The walks of package head: put, Put. -/
import Derived.Test.YtjaacmecniijgaaHead2
import Derived.Test.YtjaacmecniijgaaBytes
import Derived.Test.YtjaacmecniijgaaPlan
namespace Go.Proofs.Ytjaacmecniijgaa
set_option linter.unusedVariables false
set_option linter.unusedSimpArgs false
open Go.RowKit
def PR4 (w : World) (base : Nat) (v : Value) (l : List Int) (n : Int) (i b : Value) (wr : World) : Prop :=
  (i = .int .i64 3 ∧ App w wr base v b l) ∨ (i = .int .i64 2 ∧ App w wr base v b (l ++ [n / 16777216])) ∨ (i = .int .i64 1 ∧ App w wr base v b (l ++ [n / 16777216, n / 65536 % 256])) ∨
  (i = .int .i64 0 ∧ App w wr base v b (l ++ [n / 16777216, n / 65536 % 256, n / 256 % 256])) ∨ (i = .int .i64 (-1) ∧ App w wr base v b (l ++ be4 n))
def PR2 (w : World) (base : Nat) (v : Value) (l : List Int) (n : Int) (i b : Value) (wr : World) : Prop :=
  (i = .int .i64 1 ∧ App w wr base v b l) ∨ (i = .int .i64 0 ∧ App w wr base v b (l ++ [n / 256])) ∨ (i = .int .i64 (-1) ∧ App w wr base v b (l ++ be2 n))
def PutRes (w : World) (ttl proto src dst : Int) (l : List Int) (e : Ending) (w' : World) : Prop :=
  ∃ v', e = .returned (.tuple #[v', .int .i64 0]) ∧ Own .u8 5 w' w.heap.size v' (putL ttl proto src dst l) ∧ Below w.heap.size w w'
end Go.Proofs.Ytjaacmecniijgaa
