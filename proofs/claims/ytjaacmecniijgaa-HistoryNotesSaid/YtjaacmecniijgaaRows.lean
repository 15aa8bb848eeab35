/-
  No cell of these rows narrows 'for every input' (looked for: loops, veiled, ifaces, maps, wideKeys, modest, calm, conditions, laid).
  DERIVED. THE GIVEN ROWS OF THIS SEAT. 3 by the template 'for every input the law returns true; each argument reads behind the call as it read before'; 0 by the template 'total and deterministic' (their statements: YtjaacmecniijgaaTotals.lean).
  GIVEN WITH THE SEED: the statements are not yours to turn. If you find one false, say at which input.
  Laid BY PROGRAM, IN A SANDBOX (cutbox-rows.mjs): the forced cells as the released guide's own fill.sh prints them over the translation 8d1ad230788d5bfa… (all of the seat's roots in one cut). By AI agents, Wed Nov 11 2026. No macro, syntax, notation, axiom, sorry.
-/
import Derived.Test.YtjaacmecniijgaaChecked
import GoSem.Claim
import GoSem.ClaimJoined
import GoSem.ClaimMapViews
import Derived.JoinedTies
import Derived.KernelRfl
namespace Go.Proofs.Ytjaacmecniijgaa
/- THE CELL 'sum', in the pinned program and in every row, IS THE sha256 OF THE DUMP (.gsa) THAT YtjaacmecniijgaaProg.lean LOADS. Nothing in Lean hashes anything: it is a label: what it is worth is what the hold of that sum in a sandbox is worth. -/
noncomputable def Try.pinned : Pinned := { name := "ytjaacmecniijgaa", sum := "8d1ad230788d5bfa23303882a2e84e63f0b5a9b14a9e116a47cba521ca4cd92c", checked := Try.checked }
namespace Rows
def none {H : Type} : Left H := { results := [], args := [] }

/-- 'fanlightlaw18.HistoryTells': WHATEVER THE INPUT: true; the input reads as it did. -/
def historyTellsSpec : ChangeSpec := { name := "historyTells", fn := fun _ => fun
  | [d] => { results := [.lit (.bool true)], args := [d] }
  | _ => none }
def historyTellsRow : OpenClaim := { program := "ytjaacmecniijgaa", sum := "8d1ad230788d5bfa23303882a2e84e63f0b5a9b14a9e116a47cba521ca4cd92c", func := "fanlight/fanlightlaw18.HistoryTells", spec := "historyTells", apart := false }
def HistoryTellsSaid : Prop := historyTellsRow.holds Try.pinned (OpenSpec.ofChange historyTellsSpec)

/-- ITS FALSE NEIGHBOUR: 'it returns false'. Refute it at one input. -/
def historyTellsWrong : ChangeSpec := { name := "historyTells", fn := fun _ => fun
  | [d] => { results := [.lit (.bool false)], args := [d] }
  | _ => none }
def HistoryTellsWrongFalsely : Prop := historyTellsRow.holds Try.pinned (OpenSpec.ofChange historyTellsWrong)

/-- 'fanlightlaw18.HistoryAhead': WHATEVER THE INPUT: true; the input reads as it did. -/
def historyAheadSpec : ChangeSpec := { name := "historyAhead", fn := fun _ => fun
  | [d] => { results := [.lit (.bool true)], args := [d] }
  | _ => none }
def historyAheadRow : OpenClaim := { program := "ytjaacmecniijgaa", sum := "8d1ad230788d5bfa23303882a2e84e63f0b5a9b14a9e116a47cba521ca4cd92c", func := "fanlight/fanlightlaw18.HistoryAhead", spec := "historyAhead", apart := false }
def HistoryAheadSaid : Prop := historyAheadRow.holds Try.pinned (OpenSpec.ofChange historyAheadSpec)

/-- ITS FALSE NEIGHBOUR: 'it returns false'. Refute it at one input. -/
def historyAheadWrong : ChangeSpec := { name := "historyAhead", fn := fun _ => fun
  | [d] => { results := [.lit (.bool false)], args := [d] }
  | _ => none }
def HistoryAheadWrongFalsely : Prop := historyAheadRow.holds Try.pinned (OpenSpec.ofChange historyAheadWrong)

/-- 'fanlightlaw18.HistoryNotes': WHATEVER THE INPUT: true; the input reads as it did. -/
def historyNotesSpec : ChangeSpec := { name := "historyNotes", fn := fun _ => fun
  | [d] => { results := [.lit (.bool true)], args := [d] }
  | _ => none }
def historyNotesRow : OpenClaim := { program := "ytjaacmecniijgaa", sum := "8d1ad230788d5bfa23303882a2e84e63f0b5a9b14a9e116a47cba521ca4cd92c", func := "fanlight/fanlightlaw18.HistoryNotes", spec := "historyNotes", apart := false }
def HistoryNotesSaid : Prop := historyNotesRow.holds Try.pinned (OpenSpec.ofChange historyNotesSpec)

/-- ITS FALSE NEIGHBOUR: 'it returns false'. Refute it at one input. -/
def historyNotesWrong : ChangeSpec := { name := "historyNotes", fn := fun _ => fun
  | [d] => { results := [.lit (.bool false)], args := [d] }
  | _ => none }
def HistoryNotesWrongFalsely : Prop := historyNotesRow.holds Try.pinned (OpenSpec.ofChange historyNotesWrong)

/- THE SECOND FORM. 'bulk': how many values and letters a reading holds, each counted each time it is reached (what is shared counts as often as it is met; a slice's spare places count too). A statement '..UptoSaid' is the law's where the arguments, and the package variables that the reading takes, are together of bulk at most 1048576: NARROWER than '..Said'. Prove '..Said' where nothing that the law and all that it calls make is longer than what came in: it says more and counts as full. Else prove '..UptoSaid'. A law counts once. -/
mutual
def uptoBulk {H : Type} : DataW H → Nat
  | .lit (.string bytes) => bytes.length + 1
  | .lit _ => 1
  | .nil => 1
  | .ptr d => uptoBulk d + 1
  | .slice elems spare => uptoBulkAll elems + uptoBulkAll spare + 1
  | .agg parts => uptoBulkAll parts + 1
  | .iface _ d => uptoBulk d + 1
  | .map entries => uptoBulkEntries entries + 1
  | .held _ => 1
def uptoBulkAll {H : Type} : List (DataW H) → Nat
  | [] => 0
  | d :: r => uptoBulk d + uptoBulkAll r
def uptoBulkEntries {H : Type} : List (Lit × DataW H) → Nat
  | [] => 0
  | x :: r => uptoBulkEntry x + uptoBulkEntries r
def uptoBulkEntry {H : Type} : Lit × DataW H → Nat
  | (.string bytes, d) => bytes.length + uptoBulk d + 1
  | (_, d) => uptoBulk d + 1
 end
def uptoSmall : (H : Type) → List (DataW H) → Bool := fun _ ds => decide (uptoBulkAll ds ≤ 1048576)
def OpenSpec.upto (s : _root_.Go.ChangeSpec) : _root_.Go.OpenSpec := { _root_.Go.OpenSpec.ofChange s with cond := some uptoSmall }

/-- 'fanlightlaw18.HistoryTells', WHERE WHAT IT READS IS OF BULK AT MOST 1048576: true; the input reads as it did. -/
def historyTellsUptoRow : OpenClaim := { program := "ytjaacmecniijgaa", sum := "8d1ad230788d5bfa23303882a2e84e63f0b5a9b14a9e116a47cba521ca4cd92c", func := "fanlight/fanlightlaw18.HistoryTells", spec := "historyTells", apart := false, narrowed := true }
def HistoryTellsUptoSaid : Prop := historyTellsUptoRow.holds Try.pinned (OpenSpec.upto historyTellsSpec)

/-- 'fanlightlaw18.HistoryAhead', WHERE WHAT IT READS IS OF BULK AT MOST 1048576: true; the input reads as it did. -/
def historyAheadUptoRow : OpenClaim := { program := "ytjaacmecniijgaa", sum := "8d1ad230788d5bfa23303882a2e84e63f0b5a9b14a9e116a47cba521ca4cd92c", func := "fanlight/fanlightlaw18.HistoryAhead", spec := "historyAhead", apart := false, narrowed := true }
def HistoryAheadUptoSaid : Prop := historyAheadUptoRow.holds Try.pinned (OpenSpec.upto historyAheadSpec)

/-- 'fanlightlaw18.HistoryNotes', WHERE WHAT IT READS IS OF BULK AT MOST 1048576: true; the input reads as it did. -/
def historyNotesUptoRow : OpenClaim := { program := "ytjaacmecniijgaa", sum := "8d1ad230788d5bfa23303882a2e84e63f0b5a9b14a9e116a47cba521ca4cd92c", func := "fanlight/fanlightlaw18.HistoryNotes", spec := "historyNotes", apart := false, narrowed := true }
def HistoryNotesUptoSaid : Prop := historyNotesUptoRow.holds Try.pinned (OpenSpec.upto historyNotesSpec)

end Rows
end Go.Proofs.Ytjaacmecniijgaa
