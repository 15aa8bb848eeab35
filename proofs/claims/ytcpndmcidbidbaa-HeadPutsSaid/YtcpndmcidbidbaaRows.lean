/-
  No cell of these rows narrows 'for every input' (looked for: loops, veiled, ifaces, maps, wideKeys, modest, calm, conditions, laid).
  DERIVED. THE GIVEN ROWS OF THIS SEAT. 6 by the template 'for every input the law returns true; each argument reads behind the call as it read before'; 0 by the template 'total and deterministic' (their statements: YtcpndmcidbidbaaTotals.lean).
  GIVEN WITH THE SEED: the statements are not yours to turn. If you find one false, say at which input.
  Laid BY PROGRAM, IN A SANDBOX (cutbox-rows.mjs): the forced cells as the released guide's own fill.sh prints them over the translation 56f879e660e216ca… (all of the seat's roots in one cut). By AI agents, Wed Nov 11 2026. No macro, syntax, notation, axiom, sorry.
-/
import Derived.Test.YtcpndmcidbidbaaChecked
import GoSem.Claim
import GoSem.ClaimJoined
import GoSem.ClaimMapViews
import Derived.JoinedTies
import Derived.KernelRfl
namespace Go.Proofs.Ytcpndmcidbidbaa
/- THE CELL 'sum', in the pinned program and in every row, IS THE sha256 OF THE DUMP (.gsa) THAT YtcpndmcidbidbaaProg.lean LOADS. Nothing in Lean hashes anything: it is a label: what it is worth is what the hold of that sum in a sandbox is worth. -/
noncomputable def Try.pinned : Pinned := { name := "ytcpndmcidbidbaa", sum := "56f879e660e216ca629a181221fce196134df11a8c6b8b8dd4245c7f8c61480c", checked := Try.checked }
namespace Rows
def none {H : Type} : Left H := { results := [], args := [] }

/-- 'fanlightlaw02.HeadPuts': WHATEVER THE INPUT: true; the input reads as it did. -/
def headPutsSpec : ChangeSpec := { name := "headPuts", fn := fun _ => fun
  | [d1, d2, d3] => { results := [.lit (.bool true)], args := [d1, d2, d3] }
  | _ => none }
def headPutsRow : OpenClaim := { program := "ytcpndmcidbidbaa", sum := "56f879e660e216ca629a181221fce196134df11a8c6b8b8dd4245c7f8c61480c", func := "fanlight/fanlightlaw02.HeadPuts", spec := "headPuts", apart := false }
def HeadPutsSaid : Prop := headPutsRow.holds Try.pinned (OpenSpec.ofChange headPutsSpec)

/-- ITS FALSE NEIGHBOUR: 'it returns false'. Refute it at one input. -/
def headPutsWrong : ChangeSpec := { name := "headPuts", fn := fun _ => fun
  | [d1, d2, d3] => { results := [.lit (.bool false)], args := [d1, d2, d3] }
  | _ => none }
def HeadPutsWrongFalsely : Prop := headPutsRow.holds Try.pinned (OpenSpec.ofChange headPutsWrong)

/-- 'fanlightlaw02.HeadCuts': WHATEVER THE INPUT: true; the input reads as it did. -/
def headCutsSpec : ChangeSpec := { name := "headCuts", fn := fun _ => fun
  | [d1, d2, d3] => { results := [.lit (.bool true)], args := [d1, d2, d3] }
  | _ => none }
def headCutsRow : OpenClaim := { program := "ytcpndmcidbidbaa", sum := "56f879e660e216ca629a181221fce196134df11a8c6b8b8dd4245c7f8c61480c", func := "fanlight/fanlightlaw02.HeadCuts", spec := "headCuts", apart := false }
def HeadCutsSaid : Prop := headCutsRow.holds Try.pinned (OpenSpec.ofChange headCutsSpec)

/-- ITS FALSE NEIGHBOUR: 'it returns false'. Refute it at one input. -/
def headCutsWrong : ChangeSpec := { name := "headCuts", fn := fun _ => fun
  | [d1, d2, d3] => { results := [.lit (.bool false)], args := [d1, d2, d3] }
  | _ => none }
def HeadCutsWrongFalsely : Prop := headCutsRow.holds Try.pinned (OpenSpec.ofChange headCutsWrong)

/-- 'fanlightlaw02.HeadBits': WHATEVER THE INPUT: true; the input reads as it did. -/
def headBitsSpec : ChangeSpec := { name := "headBits", fn := fun _ => fun
  | [d1, d2, d3] => { results := [.lit (.bool true)], args := [d1, d2, d3] }
  | _ => none }
def headBitsRow : OpenClaim := { program := "ytcpndmcidbidbaa", sum := "56f879e660e216ca629a181221fce196134df11a8c6b8b8dd4245c7f8c61480c", func := "fanlight/fanlightlaw02.HeadBits", spec := "headBits", apart := false }
def HeadBitsSaid : Prop := headBitsRow.holds Try.pinned (OpenSpec.ofChange headBitsSpec)

/-- ITS FALSE NEIGHBOUR: 'it returns false'. Refute it at one input. -/
def headBitsWrong : ChangeSpec := { name := "headBits", fn := fun _ => fun
  | [d1, d2, d3] => { results := [.lit (.bool false)], args := [d1, d2, d3] }
  | _ => none }
def HeadBitsWrongFalsely : Prop := headBitsRow.holds Try.pinned (OpenSpec.ofChange headBitsWrong)

/-- 'fanlightlaw02.HeadGets': WHATEVER THE INPUT: true; the input reads as it did. -/
def headGetsSpec : ChangeSpec := { name := "headGets", fn := fun _ => fun
  | [d1, d2, d3] => { results := [.lit (.bool true)], args := [d1, d2, d3] }
  | _ => none }
def headGetsRow : OpenClaim := { program := "ytcpndmcidbidbaa", sum := "56f879e660e216ca629a181221fce196134df11a8c6b8b8dd4245c7f8c61480c", func := "fanlight/fanlightlaw02.HeadGets", spec := "headGets", apart := false }
def HeadGetsSaid : Prop := headGetsRow.holds Try.pinned (OpenSpec.ofChange headGetsSpec)

/-- ITS FALSE NEIGHBOUR: 'it returns false'. Refute it at one input. -/
def headGetsWrong : ChangeSpec := { name := "headGets", fn := fun _ => fun
  | [d1, d2, d3] => { results := [.lit (.bool false)], args := [d1, d2, d3] }
  | _ => none }
def HeadGetsWrongFalsely : Prop := headGetsRow.holds Try.pinned (OpenSpec.ofChange headGetsWrong)

/-- 'fanlightlaw02.HeadRaw': WHATEVER THE INPUT: true; the input reads as it did. -/
def headRawSpec : ChangeSpec := { name := "headRaw", fn := fun _ => fun
  | [d] => { results := [.lit (.bool true)], args := [d] }
  | _ => none }
def headRawRow : OpenClaim := { program := "ytcpndmcidbidbaa", sum := "56f879e660e216ca629a181221fce196134df11a8c6b8b8dd4245c7f8c61480c", func := "fanlight/fanlightlaw02.HeadRaw", spec := "headRaw", apart := false }
def HeadRawSaid : Prop := headRawRow.holds Try.pinned (OpenSpec.ofChange headRawSpec)

/-- ITS FALSE NEIGHBOUR: 'it returns false'. Refute it at one input. -/
def headRawWrong : ChangeSpec := { name := "headRaw", fn := fun _ => fun
  | [d] => { results := [.lit (.bool false)], args := [d] }
  | _ => none }
def HeadRawWrongFalsely : Prop := headRawRow.holds Try.pinned (OpenSpec.ofChange headRawWrong)

/-- 'fanlightlaw02.HeadPieces': WHATEVER THE INPUT: true; the input reads as it did. -/
def headPiecesSpec : ChangeSpec := { name := "headPieces", fn := fun _ => fun
  | [d1, d2, d3] => { results := [.lit (.bool true)], args := [d1, d2, d3] }
  | _ => none }
def headPiecesRow : OpenClaim := { program := "ytcpndmcidbidbaa", sum := "56f879e660e216ca629a181221fce196134df11a8c6b8b8dd4245c7f8c61480c", func := "fanlight/fanlightlaw02.HeadPieces", spec := "headPieces", apart := false }
def HeadPiecesSaid : Prop := headPiecesRow.holds Try.pinned (OpenSpec.ofChange headPiecesSpec)

/-- ITS FALSE NEIGHBOUR: 'it returns false'. Refute it at one input. -/
def headPiecesWrong : ChangeSpec := { name := "headPieces", fn := fun _ => fun
  | [d1, d2, d3] => { results := [.lit (.bool false)], args := [d1, d2, d3] }
  | _ => none }
def HeadPiecesWrongFalsely : Prop := headPiecesRow.holds Try.pinned (OpenSpec.ofChange headPiecesWrong)

/- THE SECOND FORM. 'bulk': how many values and letters a reading holds, each counted each time it is reached (what is shared counts as often as it is met; a slice's spare places count too). A statement '..UptoSaid' is the law's where the arguments, and the package variables that the reading takes, are together of bulk at most 1048576: NARROWER than '..Said'. Prove '..Said' where nothing that the law and all that it calls make is longer than what came in: it says more and counts as full. Else prove '..UptoSaid'. A law counts once. -/
mutual
def uptoBulk {H : Type} : DataW H → Nat
  | .lit (.string bytes) => bytes.length + 1
  | .lit _ => 1
  | .nil => 1
  | .ptr d => uptoBulk d + 1
  | .slice elems spare => uptoBulkAll elems + uptoBulkAll spare + 1
  | .agg parts => uptoBulkAll parts + 1
  | .iface _ d => uptoBulk d + 1
  | .map entries => uptoBulkEntries entries + 1
  | .held _ => 1
def uptoBulkAll {H : Type} : List (DataW H) → Nat
  | [] => 0
  | d :: r => uptoBulk d + uptoBulkAll r
def uptoBulkEntries {H : Type} : List (Lit × DataW H) → Nat
  | [] => 0
  | x :: r => uptoBulkEntry x + uptoBulkEntries r
def uptoBulkEntry {H : Type} : Lit × DataW H → Nat
  | (.string bytes, d) => bytes.length + uptoBulk d + 1
  | (_, d) => uptoBulk d + 1
 end
def uptoSmall : (H : Type) → List (DataW H) → Bool := fun _ ds => decide (uptoBulkAll ds ≤ 1048576)
def OpenSpec.upto (s : _root_.Go.ChangeSpec) : _root_.Go.OpenSpec := { _root_.Go.OpenSpec.ofChange s with cond := some uptoSmall }

/-- 'fanlightlaw02.HeadPuts', WHERE WHAT IT READS IS OF BULK AT MOST 1048576: true; the input reads as it did. -/
def headPutsUptoRow : OpenClaim := { program := "ytcpndmcidbidbaa", sum := "56f879e660e216ca629a181221fce196134df11a8c6b8b8dd4245c7f8c61480c", func := "fanlight/fanlightlaw02.HeadPuts", spec := "headPuts", apart := false, narrowed := true }
def HeadPutsUptoSaid : Prop := headPutsUptoRow.holds Try.pinned (OpenSpec.upto headPutsSpec)

/-- 'fanlightlaw02.HeadCuts', WHERE WHAT IT READS IS OF BULK AT MOST 1048576: true; the input reads as it did. -/
def headCutsUptoRow : OpenClaim := { program := "ytcpndmcidbidbaa", sum := "56f879e660e216ca629a181221fce196134df11a8c6b8b8dd4245c7f8c61480c", func := "fanlight/fanlightlaw02.HeadCuts", spec := "headCuts", apart := false, narrowed := true }
def HeadCutsUptoSaid : Prop := headCutsUptoRow.holds Try.pinned (OpenSpec.upto headCutsSpec)

/-- 'fanlightlaw02.HeadBits', WHERE WHAT IT READS IS OF BULK AT MOST 1048576: true; the input reads as it did. -/
def headBitsUptoRow : OpenClaim := { program := "ytcpndmcidbidbaa", sum := "56f879e660e216ca629a181221fce196134df11a8c6b8b8dd4245c7f8c61480c", func := "fanlight/fanlightlaw02.HeadBits", spec := "headBits", apart := false, narrowed := true }
def HeadBitsUptoSaid : Prop := headBitsUptoRow.holds Try.pinned (OpenSpec.upto headBitsSpec)

/-- 'fanlightlaw02.HeadGets', WHERE WHAT IT READS IS OF BULK AT MOST 1048576: true; the input reads as it did. -/
def headGetsUptoRow : OpenClaim := { program := "ytcpndmcidbidbaa", sum := "56f879e660e216ca629a181221fce196134df11a8c6b8b8dd4245c7f8c61480c", func := "fanlight/fanlightlaw02.HeadGets", spec := "headGets", apart := false, narrowed := true }
def HeadGetsUptoSaid : Prop := headGetsUptoRow.holds Try.pinned (OpenSpec.upto headGetsSpec)

/-- 'fanlightlaw02.HeadRaw', WHERE WHAT IT READS IS OF BULK AT MOST 1048576: true; the input reads as it did. -/
def headRawUptoRow : OpenClaim := { program := "ytcpndmcidbidbaa", sum := "56f879e660e216ca629a181221fce196134df11a8c6b8b8dd4245c7f8c61480c", func := "fanlight/fanlightlaw02.HeadRaw", spec := "headRaw", apart := false, narrowed := true }
def HeadRawUptoSaid : Prop := headRawUptoRow.holds Try.pinned (OpenSpec.upto headRawSpec)

/-- 'fanlightlaw02.HeadPieces', WHERE WHAT IT READS IS OF BULK AT MOST 1048576: true; the input reads as it did. -/
def headPiecesUptoRow : OpenClaim := { program := "ytcpndmcidbidbaa", sum := "56f879e660e216ca629a181221fce196134df11a8c6b8b8dd4245c7f8c61480c", func := "fanlight/fanlightlaw02.HeadPieces", spec := "headPieces", apart := false, narrowed := true }
def HeadPiecesUptoSaid : Prop := headPiecesUptoRow.holds Try.pinned (OpenSpec.upto headPiecesSpec)

end Rows
end Go.Proofs.Ytcpndmcidbidbaa
