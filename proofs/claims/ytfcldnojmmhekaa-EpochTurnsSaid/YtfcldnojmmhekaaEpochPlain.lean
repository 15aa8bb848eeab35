/- Steps of epochs, plain. -/
import Derived.Test.YtfcldnojmmhekaaCells
namespace Go.Proofs.Ytfcldnojmmhekaa
set_option linter.unusedVariables false
set_option linter.unusedSimpArgs false
open Go.RowKit
structure Es where
  worker : Int
  adv : Bool
  pos : Nat
  seen : Int
  done : Bool
  won : Bool
def Es.advs (s : Es) (n : Nat) (L : List Int) : Es × List Int :=
  if s.pos = 0 then (⟨s.worker, s.adv, 1, celAt L 0, s.done, s.won⟩, L)
  else if s.pos ≤ n then (⟨s.worker, s.adv, s.pos + 1, s.seen, decide (celAt L s.pos ≠ 0 ∧ celAt L s.pos ≠ IntKind.u64.wrap (s.seen + 1)), s.won⟩, L)
  else if celAt L 0 = s.seen then (⟨s.worker, s.adv, s.pos + 1, s.seen, true, true⟩, celSet L 0 (IntKind.u64.wrap (s.seen + 1)))
  else (⟨s.worker, s.adv, s.pos + 1, s.seen, true, false⟩, L)
def Es.pins (s : Es) (L : List Int) : Es × List Int :=
  if s.pos = 0 then (⟨s.worker, s.adv, 1, celAt L 0, s.done, s.won⟩, L)
  else if s.pos = 1 then (⟨s.worker, s.adv, 2, s.seen, s.done, s.won⟩, celSet L (1 + s.worker) (IntKind.u64.wrap (s.seen + 1)))
  else (⟨s.worker, s.adv, 0, s.seen, decide (celAt L 0 = s.seen), s.won⟩, L)
def Es.does (s : Es) (n : Nat) (L : List Int) : Es × List Int := if s.adv then s.advs n L else s.pins L
end Go.Proofs.Ytfcldnojmmhekaa
