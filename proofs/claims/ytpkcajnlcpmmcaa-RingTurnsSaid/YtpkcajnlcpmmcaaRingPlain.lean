/- A ring of numbers, plain: what a step of a Put, of a Get, does. -/
import Derived.Test.YtpkcajnlcpmmcaaCells
namespace Go.Proofs.Ytpkcajnlcpmmcaa
set_option linter.unusedVariables false
set_option linter.unusedSimpArgs false
open Go.RowKit
structure Stp where
  get : Bool
  pos : Nat
  v : Int
  fin : Int
  done : Bool
structure Rg where
  n : Nat
  had : Int
  got : Int
  L : List Int
def Rg.slot (r : Rg) (k : Int) : Int := 2 + k % r.n
def Rg.puts (r : Rg) (s : Stp) : Rg × Stp :=
  if s.pos = 0 then (if IntKind.u64.wrap (r.had - celAt r.L 0) = r.n then (r, ⟨s.get, s.pos, s.v, 9, true⟩) else (r, s))
  else if s.pos = 1 then (⟨r.n, r.had, r.got, celSet r.L (r.slot r.had) s.v⟩, s)
  else (⟨r.n, IntKind.u64.wrap (r.had + 1), r.got, celSet r.L 1 (IntKind.u64.wrap (r.had + 1))⟩, ⟨s.get, s.pos, s.v, 0, true⟩)
def Rg.gets (r : Rg) (s : Stp) : Rg × Stp :=
  if s.pos = 0 then (if celAt r.L 1 = r.got then (r, ⟨s.get, s.pos, s.v, 7, true⟩) else (r, s))
  else if s.pos = 1 then (r, ⟨s.get, s.pos, celAt r.L (r.slot r.got), s.fin, s.done⟩)
  else (⟨r.n, r.had, IntKind.u64.wrap (r.got + 1), celSet r.L 0 (IntKind.u64.wrap (r.got + 1))⟩, ⟨s.get, s.pos, s.v, 0, true⟩)
def Stp.up (s : Stp) : Stp := ⟨s.get, s.pos + 1, s.v, s.fin, s.done⟩
def Rg.does (r : Rg) (s : Stp) : Rg × Stp := if s.get then ((r.gets s).1, (r.gets s).2.up) else ((r.puts s).1, (r.puts s).2.up)
end Go.Proofs.Ytpkcajnlcpmmcaa
