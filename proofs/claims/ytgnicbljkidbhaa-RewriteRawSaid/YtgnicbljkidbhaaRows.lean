/-
  No cell of these rows narrows 'for every input' (looked for: loops, veiled, ifaces, maps, wideKeys, modest, calm, conditions, laid).
  DERIVED. THE GIVEN ROWS OF THIS SEAT. 3 by the template 'for every input the law returns true; each argument reads behind the call as it read before'; 0 by the template 'total and deterministic' (their statements: YtgnicbljkidbhaaTotals.lean).
  GIVEN WITH THE SEED: the statements are not yours to turn. If you find one false, say at which input.
  Laid BY PROGRAM, IN A SANDBOX (cutbox-rows.mjs): the forced cells as the released guide's own fill.sh prints them over the translation d7f0a715438262c7… (all of the seat's roots in one cut). By AI agents, Wed Nov 11 2026. No macro, syntax, notation, axiom, sorry.
-/
import Derived.Test.YtgnicbljkidbhaaChecked
import GoSem.Claim
import GoSem.ClaimJoined
import GoSem.ClaimMapViews
import Derived.JoinedTies
import Derived.KernelRfl
namespace Go.Proofs.Ytgnicbljkidbhaa
/- THE CELL 'sum', in the pinned program and in every row, IS THE sha256 OF THE DUMP (.gsa) THAT YtgnicbljkidbhaaProg.lean LOADS. Nothing in Lean hashes anything: it is a label: what it is worth is what the hold of that sum in a sandbox is worth. -/
noncomputable def Try.pinned : Pinned := { name := "ytgnicbljkidbhaa", sum := "d7f0a715438262c73b503840fcd9a0e227b1e0003720b05d7fba4c93667bdc20", checked := Try.checked }
namespace Rows
def none {H : Type} : Left H := { results := [], args := [] }

/-- 'fanlightlaw04.RewriteBack': WHATEVER THE INPUT: true; the input reads as it did. -/
def rewriteBackSpec : ChangeSpec := { name := "rewriteBack", fn := fun _ => fun
  | [d1, d2, d3] => { results := [.lit (.bool true)], args := [d1, d2, d3] }
  | _ => none }
def rewriteBackRow : OpenClaim := { program := "ytgnicbljkidbhaa", sum := "d7f0a715438262c73b503840fcd9a0e227b1e0003720b05d7fba4c93667bdc20", func := "fanlight/fanlightlaw04.RewriteBack", spec := "rewriteBack", apart := false }
def RewriteBackSaid : Prop := rewriteBackRow.holds Try.pinned (OpenSpec.ofChange rewriteBackSpec)

/-- ITS FALSE NEIGHBOUR: 'it returns false'. Refute it at one input. -/
def rewriteBackWrong : ChangeSpec := { name := "rewriteBack", fn := fun _ => fun
  | [d1, d2, d3] => { results := [.lit (.bool false)], args := [d1, d2, d3] }
  | _ => none }
def RewriteBackWrongFalsely : Prop := rewriteBackRow.holds Try.pinned (OpenSpec.ofChange rewriteBackWrong)

/-- 'fanlightlaw04.RewriteFrames': WHATEVER THE INPUT: true; the input reads as it did. -/
def rewriteFramesSpec : ChangeSpec := { name := "rewriteFrames", fn := fun _ => fun
  | [d1, d2, d3] => { results := [.lit (.bool true)], args := [d1, d2, d3] }
  | _ => none }
def rewriteFramesRow : OpenClaim := { program := "ytgnicbljkidbhaa", sum := "d7f0a715438262c73b503840fcd9a0e227b1e0003720b05d7fba4c93667bdc20", func := "fanlight/fanlightlaw04.RewriteFrames", spec := "rewriteFrames", apart := false }
def RewriteFramesSaid : Prop := rewriteFramesRow.holds Try.pinned (OpenSpec.ofChange rewriteFramesSpec)

/-- ITS FALSE NEIGHBOUR: 'it returns false'. Refute it at one input. -/
def rewriteFramesWrong : ChangeSpec := { name := "rewriteFrames", fn := fun _ => fun
  | [d1, d2, d3] => { results := [.lit (.bool false)], args := [d1, d2, d3] }
  | _ => none }
def RewriteFramesWrongFalsely : Prop := rewriteFramesRow.holds Try.pinned (OpenSpec.ofChange rewriteFramesWrong)

/-- 'fanlightlaw04.RewriteRaw': WHATEVER THE INPUT: true; the input reads as it did. -/
def rewriteRawSpec : ChangeSpec := { name := "rewriteRaw", fn := fun _ => fun
  | [d1, d2, d3] => { results := [.lit (.bool true)], args := [d1, d2, d3] }
  | _ => none }
def rewriteRawRow : OpenClaim := { program := "ytgnicbljkidbhaa", sum := "d7f0a715438262c73b503840fcd9a0e227b1e0003720b05d7fba4c93667bdc20", func := "fanlight/fanlightlaw04.RewriteRaw", spec := "rewriteRaw", apart := false }
def RewriteRawSaid : Prop := rewriteRawRow.holds Try.pinned (OpenSpec.ofChange rewriteRawSpec)

/-- ITS FALSE NEIGHBOUR: 'it returns false'. Refute it at one input. -/
def rewriteRawWrong : ChangeSpec := { name := "rewriteRaw", fn := fun _ => fun
  | [d1, d2, d3] => { results := [.lit (.bool false)], args := [d1, d2, d3] }
  | _ => none }
def RewriteRawWrongFalsely : Prop := rewriteRawRow.holds Try.pinned (OpenSpec.ofChange rewriteRawWrong)

/- THE SECOND FORM. 'bulk': how many values and letters a reading holds, each counted each time it is reached (what is shared counts as often as it is met; a slice's spare places count too). A statement '..UptoSaid' is the law's where the arguments, and the package variables that the reading takes, are together of bulk at most 1048576: NARROWER than '..Said'. Prove '..Said' where nothing that the law and all that it calls make is longer than what came in: it says more and counts as full. Else prove '..UptoSaid'. A law counts once. -/
mutual
def uptoBulk {H : Type} : DataW H → Nat
  | .lit (.string bytes) => bytes.length + 1
  | .lit _ => 1
  | .nil => 1
  | .ptr d => uptoBulk d + 1
  | .slice elems spare => uptoBulkAll elems + uptoBulkAll spare + 1
  | .agg parts => uptoBulkAll parts + 1
  | .iface _ d => uptoBulk d + 1
  | .map entries => uptoBulkEntries entries + 1
  | .held _ => 1
def uptoBulkAll {H : Type} : List (DataW H) → Nat
  | [] => 0
  | d :: r => uptoBulk d + uptoBulkAll r
def uptoBulkEntries {H : Type} : List (Lit × DataW H) → Nat
  | [] => 0
  | x :: r => uptoBulkEntry x + uptoBulkEntries r
def uptoBulkEntry {H : Type} : Lit × DataW H → Nat
  | (.string bytes, d) => bytes.length + uptoBulk d + 1
  | (_, d) => uptoBulk d + 1
 end
def uptoSmall : (H : Type) → List (DataW H) → Bool := fun _ ds => decide (uptoBulkAll ds ≤ 1048576)
def OpenSpec.upto (s : _root_.Go.ChangeSpec) : _root_.Go.OpenSpec := { _root_.Go.OpenSpec.ofChange s with cond := some uptoSmall }

/-- 'fanlightlaw04.RewriteBack', WHERE WHAT IT READS IS OF BULK AT MOST 1048576: true; the input reads as it did. -/
def rewriteBackUptoRow : OpenClaim := { program := "ytgnicbljkidbhaa", sum := "d7f0a715438262c73b503840fcd9a0e227b1e0003720b05d7fba4c93667bdc20", func := "fanlight/fanlightlaw04.RewriteBack", spec := "rewriteBack", apart := false, narrowed := true }
def RewriteBackUptoSaid : Prop := rewriteBackUptoRow.holds Try.pinned (OpenSpec.upto rewriteBackSpec)

/-- 'fanlightlaw04.RewriteFrames', WHERE WHAT IT READS IS OF BULK AT MOST 1048576: true; the input reads as it did. -/
def rewriteFramesUptoRow : OpenClaim := { program := "ytgnicbljkidbhaa", sum := "d7f0a715438262c73b503840fcd9a0e227b1e0003720b05d7fba4c93667bdc20", func := "fanlight/fanlightlaw04.RewriteFrames", spec := "rewriteFrames", apart := false, narrowed := true }
def RewriteFramesUptoSaid : Prop := rewriteFramesUptoRow.holds Try.pinned (OpenSpec.upto rewriteFramesSpec)

/-- 'fanlightlaw04.RewriteRaw', WHERE WHAT IT READS IS OF BULK AT MOST 1048576: true; the input reads as it did. -/
def rewriteRawUptoRow : OpenClaim := { program := "ytgnicbljkidbhaa", sum := "d7f0a715438262c73b503840fcd9a0e227b1e0003720b05d7fba4c93667bdc20", func := "fanlight/fanlightlaw04.RewriteRaw", spec := "rewriteRaw", apart := false, narrowed := true }
def RewriteRawUptoSaid : Prop := rewriteRawUptoRow.holds Try.pinned (OpenSpec.upto rewriteRawSpec)

end Rows
end Go.Proofs.Ytgnicbljkidbhaa
