/-
  DERIVED. GIVEN WITH THE SEED: THE CARDS: each row of YtilhkhnjloplfaaGreatDoorRows.lean that lists a variable, with what it lists TIED to the program's text (the seventh form; the later family's looks); each row that meets fmt, with fmt's text TOLD by the authors' own Lean function (tested against real Go, not proved from fmt's source: count such statements apart). THE CARD IS WHAT COUNTS. Prove the row's statement (the work); the ties are given (YtilhkhnjloplfaaGreatDoorTie.lean); close each card by the builder's one call (the guide's Derived/Test/ToyasCard.lean, 'card_holds'). Laid BY PROGRAM, IN A SANDBOX (cutbox-door.mjs). By AI agents, Wed Nov 11 2026. No macro, syntax, notation, axiom, sorry.
-/
import Derived.Test.YtilhkhnjloplfaaGreatDoorRows
import GoSem.ClaimSeven
namespace Go.Proofs.YtilhkhnjloplfaaGreatDoor
namespace Rows

/-- THE TIED CARD OF 'fanlighttop.FanlightPorts'. -/
def fanlightPortsCard : Claim7 := { stood := { row := fanlightPortsRow, standIns := [], harness := (true, "c4abf6acfd67dd3f668ffbb1139c7ab4c6849433c2cae6d935c54428bf5c10a1"), looks := false }, kinds := [], alts := [], laidByText := true, laidKinds := [.data], laidTests := true, laidLooks := .later }
def FanlightPortsCardSaid : Prop := Claim7.holds Tryz.pinned (.plain (OpenSpec.ofChange fanlightPortsSpec)) fanlightPortsCard

/-- THE SECOND FORM's CARD OF 'fanlighttop.FanlightPorts'. -/
def fanlightPortsUptoCard : Claim7 := { stood := { row := fanlightPortsUptoRow, standIns := [], harness := (true, "c4abf6acfd67dd3f668ffbb1139c7ab4c6849433c2cae6d935c54428bf5c10a1"), looks := false }, kinds := [], alts := [], laidByText := true, laidKinds := [.data], laidTests := true, laidLooks := .later }
def FanlightPortsUptoCardSaid : Prop := Claim7.holds Tryz.pinned (.plain (OpenSpec.upto fanlightPortsSpec)) fanlightPortsUptoCard
end Rows
end Go.Proofs.YtilhkhnjloplfaaGreatDoor
