/-
  No cell of these rows narrows 'for every input' (looked for: loops, veiled, ifaces, maps, wideKeys, modest, calm, conditions, laid).
  DERIVED. THE GIVEN ROWS OF THIS SEAT. 5 by the template 'for every input the law returns true; each argument reads behind the call as it read before'; 0 by the template 'total and deterministic' (their statements: YtfcldnojmmhekaaTotals.lean).
  GIVEN WITH THE SEED: the statements are not yours to turn. If you find one false, say at which input.
  Laid BY PROGRAM, IN A SANDBOX (cutbox-rows.mjs): the forced cells as the released guide's own fill.sh prints them over the translation 53a55428c4ff45b5… (all of the seat's roots in one cut). By AI agents, Wed Nov 11 2026. No macro, syntax, notation, axiom, sorry.
-/
import Derived.Test.YtfcldnojmmhekaaChecked
import GoSem.Claim
import GoSem.ClaimJoined
import GoSem.ClaimMapViews
import Derived.JoinedTies
import Derived.KernelRfl
namespace Go.Proofs.Ytfcldnojmmhekaa
/- THE CELL 'sum', in the pinned program and in every row, IS THE sha256 OF THE DUMP (.gsa) THAT YtfcldnojmmhekaaProg.lean LOADS. Nothing in Lean hashes anything: it is a label: what it is worth is what the hold of that sum in a sandbox is worth. -/
noncomputable def Try.pinned : Pinned := { name := "ytfcldnojmmhekaa", sum := "53a55428c4ff45b5806552602c3fe0fe19c4edc920612f23b60b38d3cb067e8a", checked := Try.checked }
namespace Rows
def none {H : Type} : Left H := { results := [], args := [] }

/-- 'fanlightlaw07.EpochOne': WHATEVER THE INPUT: true; the input reads as it did. -/
def epochOneSpec : ChangeSpec := { name := "epochOne", fn := fun _ => fun
  | [d1, d2] => { results := [.lit (.bool true)], args := [d1, d2] }
  | _ => none }
def epochOneRow : OpenClaim := { program := "ytfcldnojmmhekaa", sum := "53a55428c4ff45b5806552602c3fe0fe19c4edc920612f23b60b38d3cb067e8a", func := "fanlight/fanlightlaw07.EpochOne", spec := "epochOne", inPlace := ["sync/atomic.LoadUint64", "sync/atomic.CompareAndSwapUint64", "sync/atomic.StoreUint64"], apart := false }
def EpochOneSaid : Prop := epochOneRow.holds Try.pinned (OpenSpec.ofChange epochOneSpec)

/-- ITS FALSE NEIGHBOUR: 'it returns false'. Refute it at one input. -/
def epochOneWrong : ChangeSpec := { name := "epochOne", fn := fun _ => fun
  | [d1, d2] => { results := [.lit (.bool false)], args := [d1, d2] }
  | _ => none }
def EpochOneWrongFalsely : Prop := epochOneRow.holds Try.pinned (OpenSpec.ofChange epochOneWrong)

/-- 'fanlightlaw07.EpochRests': WHATEVER THE INPUT: true; the input reads as it did. -/
def epochRestsSpec : ChangeSpec := { name := "epochRests", fn := fun _ => fun
  | [d1, d2] => { results := [.lit (.bool true)], args := [d1, d2] }
  | _ => none }
def epochRestsRow : OpenClaim := { program := "ytfcldnojmmhekaa", sum := "53a55428c4ff45b5806552602c3fe0fe19c4edc920612f23b60b38d3cb067e8a", func := "fanlight/fanlightlaw07.EpochRests", spec := "epochRests", inPlace := ["sync/atomic.LoadUint64", "sync/atomic.CompareAndSwapUint64", "sync/atomic.StoreUint64"], apart := false }
def EpochRestsSaid : Prop := epochRestsRow.holds Try.pinned (OpenSpec.ofChange epochRestsSpec)

/-- ITS FALSE NEIGHBOUR: 'it returns false'. Refute it at one input. -/
def epochRestsWrong : ChangeSpec := { name := "epochRests", fn := fun _ => fun
  | [d1, d2] => { results := [.lit (.bool false)], args := [d1, d2] }
  | _ => none }
def EpochRestsWrongFalsely : Prop := epochRestsRow.holds Try.pinned (OpenSpec.ofChange epochRestsWrong)

/-- 'fanlightlaw07.EpochPinned': WHATEVER THE INPUT: true; the input reads as it did. -/
def epochPinnedSpec : ChangeSpec := { name := "epochPinned", fn := fun _ => fun
  | [d1, d2, d3] => { results := [.lit (.bool true)], args := [d1, d2, d3] }
  | _ => none }
def epochPinnedRow : OpenClaim := { program := "ytfcldnojmmhekaa", sum := "53a55428c4ff45b5806552602c3fe0fe19c4edc920612f23b60b38d3cb067e8a", func := "fanlight/fanlightlaw07.EpochPinned", spec := "epochPinned", inPlace := ["sync/atomic.LoadUint64", "sync/atomic.CompareAndSwapUint64", "sync/atomic.StoreUint64"], apart := false }
def EpochPinnedSaid : Prop := epochPinnedRow.holds Try.pinned (OpenSpec.ofChange epochPinnedSpec)

/-- ITS FALSE NEIGHBOUR: 'it returns false'. Refute it at one input. -/
def epochPinnedWrong : ChangeSpec := { name := "epochPinned", fn := fun _ => fun
  | [d1, d2, d3] => { results := [.lit (.bool false)], args := [d1, d2, d3] }
  | _ => none }
def EpochPinnedWrongFalsely : Prop := epochPinnedRow.holds Try.pinned (OpenSpec.ofChange epochPinnedWrong)

/-- 'fanlightlaw07.EpochEach': WHATEVER THE INPUT: true; the input reads as it did. -/
def epochEachSpec : ChangeSpec := { name := "epochEach", fn := fun _ => fun
  | [d1, d2] => { results := [.lit (.bool true)], args := [d1, d2] }
  | _ => none }
def epochEachRow : OpenClaim := { program := "ytfcldnojmmhekaa", sum := "53a55428c4ff45b5806552602c3fe0fe19c4edc920612f23b60b38d3cb067e8a", func := "fanlight/fanlightlaw07.EpochEach", spec := "epochEach", inPlace := ["sync/atomic.LoadUint64", "sync/atomic.CompareAndSwapUint64", "sync/atomic.StoreUint64"], apart := false }
def EpochEachSaid : Prop := epochEachRow.holds Try.pinned (OpenSpec.ofChange epochEachSpec)

/-- ITS FALSE NEIGHBOUR: 'it returns false'. Refute it at one input. -/
def epochEachWrong : ChangeSpec := { name := "epochEach", fn := fun _ => fun
  | [d1, d2] => { results := [.lit (.bool false)], args := [d1, d2] }
  | _ => none }
def EpochEachWrongFalsely : Prop := epochEachRow.holds Try.pinned (OpenSpec.ofChange epochEachWrong)

/-- 'fanlightlaw07.EpochTurns': WHATEVER THE INPUT: true; the input reads as it did. -/
def epochTurnsSpec : ChangeSpec := { name := "epochTurns", fn := fun _ => fun
  | [d1, d2] => { results := [.lit (.bool true)], args := [d1, d2] }
  | _ => none }
def epochTurnsRow : OpenClaim := { program := "ytfcldnojmmhekaa", sum := "53a55428c4ff45b5806552602c3fe0fe19c4edc920612f23b60b38d3cb067e8a", func := "fanlight/fanlightlaw07.EpochTurns", spec := "epochTurns", inPlace := ["sync/atomic.StoreUint64", "sync/atomic.LoadUint64", "sync/atomic.CompareAndSwapUint64"], apart := false }
def EpochTurnsSaid : Prop := epochTurnsRow.holds Try.pinned (OpenSpec.ofChange epochTurnsSpec)

/-- ITS FALSE NEIGHBOUR: 'it returns false'. Refute it at one input. -/
def epochTurnsWrong : ChangeSpec := { name := "epochTurns", fn := fun _ => fun
  | [d1, d2] => { results := [.lit (.bool false)], args := [d1, d2] }
  | _ => none }
def EpochTurnsWrongFalsely : Prop := epochTurnsRow.holds Try.pinned (OpenSpec.ofChange epochTurnsWrong)

/- THE SECOND FORM. 'bulk': how many values and letters a reading holds, each counted each time it is reached (what is shared counts as often as it is met; a slice's spare places count too). A statement '..UptoSaid' is the law's where the arguments, and the package variables that the reading takes, are together of bulk at most 1048576: NARROWER than '..Said'. Prove '..Said' where nothing that the law and all that it calls make is longer than what came in: it says more and counts as full. Else prove '..UptoSaid'. A law counts once. -/
mutual
def uptoBulk {H : Type} : DataW H → Nat
  | .lit (.string bytes) => bytes.length + 1
  | .lit _ => 1
  | .nil => 1
  | .ptr d => uptoBulk d + 1
  | .slice elems spare => uptoBulkAll elems + uptoBulkAll spare + 1
  | .agg parts => uptoBulkAll parts + 1
  | .iface _ d => uptoBulk d + 1
  | .map entries => uptoBulkEntries entries + 1
  | .held _ => 1
def uptoBulkAll {H : Type} : List (DataW H) → Nat
  | [] => 0
  | d :: r => uptoBulk d + uptoBulkAll r
def uptoBulkEntries {H : Type} : List (Lit × DataW H) → Nat
  | [] => 0
  | x :: r => uptoBulkEntry x + uptoBulkEntries r
def uptoBulkEntry {H : Type} : Lit × DataW H → Nat
  | (.string bytes, d) => bytes.length + uptoBulk d + 1
  | (_, d) => uptoBulk d + 1
 end
def uptoSmall : (H : Type) → List (DataW H) → Bool := fun _ ds => decide (uptoBulkAll ds ≤ 1048576)
def OpenSpec.upto (s : _root_.Go.ChangeSpec) : _root_.Go.OpenSpec := { _root_.Go.OpenSpec.ofChange s with cond := some uptoSmall }

/-- 'fanlightlaw07.EpochOne', WHERE WHAT IT READS IS OF BULK AT MOST 1048576: true; the input reads as it did. -/
def epochOneUptoRow : OpenClaim := { program := "ytfcldnojmmhekaa", sum := "53a55428c4ff45b5806552602c3fe0fe19c4edc920612f23b60b38d3cb067e8a", func := "fanlight/fanlightlaw07.EpochOne", spec := "epochOne", inPlace := ["sync/atomic.LoadUint64", "sync/atomic.CompareAndSwapUint64", "sync/atomic.StoreUint64"], apart := false, narrowed := true }
def EpochOneUptoSaid : Prop := epochOneUptoRow.holds Try.pinned (OpenSpec.upto epochOneSpec)

/-- 'fanlightlaw07.EpochRests', WHERE WHAT IT READS IS OF BULK AT MOST 1048576: true; the input reads as it did. -/
def epochRestsUptoRow : OpenClaim := { program := "ytfcldnojmmhekaa", sum := "53a55428c4ff45b5806552602c3fe0fe19c4edc920612f23b60b38d3cb067e8a", func := "fanlight/fanlightlaw07.EpochRests", spec := "epochRests", inPlace := ["sync/atomic.LoadUint64", "sync/atomic.CompareAndSwapUint64", "sync/atomic.StoreUint64"], apart := false, narrowed := true }
def EpochRestsUptoSaid : Prop := epochRestsUptoRow.holds Try.pinned (OpenSpec.upto epochRestsSpec)

/-- 'fanlightlaw07.EpochPinned', WHERE WHAT IT READS IS OF BULK AT MOST 1048576: true; the input reads as it did. -/
def epochPinnedUptoRow : OpenClaim := { program := "ytfcldnojmmhekaa", sum := "53a55428c4ff45b5806552602c3fe0fe19c4edc920612f23b60b38d3cb067e8a", func := "fanlight/fanlightlaw07.EpochPinned", spec := "epochPinned", inPlace := ["sync/atomic.LoadUint64", "sync/atomic.CompareAndSwapUint64", "sync/atomic.StoreUint64"], apart := false, narrowed := true }
def EpochPinnedUptoSaid : Prop := epochPinnedUptoRow.holds Try.pinned (OpenSpec.upto epochPinnedSpec)

/-- 'fanlightlaw07.EpochEach', WHERE WHAT IT READS IS OF BULK AT MOST 1048576: true; the input reads as it did. -/
def epochEachUptoRow : OpenClaim := { program := "ytfcldnojmmhekaa", sum := "53a55428c4ff45b5806552602c3fe0fe19c4edc920612f23b60b38d3cb067e8a", func := "fanlight/fanlightlaw07.EpochEach", spec := "epochEach", inPlace := ["sync/atomic.LoadUint64", "sync/atomic.CompareAndSwapUint64", "sync/atomic.StoreUint64"], apart := false, narrowed := true }
def EpochEachUptoSaid : Prop := epochEachUptoRow.holds Try.pinned (OpenSpec.upto epochEachSpec)

/-- 'fanlightlaw07.EpochTurns', WHERE WHAT IT READS IS OF BULK AT MOST 1048576: true; the input reads as it did. -/
def epochTurnsUptoRow : OpenClaim := { program := "ytfcldnojmmhekaa", sum := "53a55428c4ff45b5806552602c3fe0fe19c4edc920612f23b60b38d3cb067e8a", func := "fanlight/fanlightlaw07.EpochTurns", spec := "epochTurns", inPlace := ["sync/atomic.StoreUint64", "sync/atomic.LoadUint64", "sync/atomic.CompareAndSwapUint64"], apart := false, narrowed := true }
def EpochTurnsUptoSaid : Prop := epochTurnsUptoRow.holds Try.pinned (OpenSpec.upto epochTurnsSpec)

end Rows
end Go.Proofs.Ytfcldnojmmhekaa
