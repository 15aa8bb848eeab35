/-
  No cell of these rows narrows 'for every input' (looked for: loops, veiled, ifaces, maps, wideKeys, modest, calm, conditions, laid).
  DERIVED. THE GIVEN ROWS OF THIS SEAT. 6 by the template 'for every input the law returns true; each argument reads behind the call as it read before'; 0 by the template 'total and deterministic' (their statements: YtgkimfodbbgdbaaTotals.lean).
  GIVEN WITH THE SEED: the statements are not yours to turn. If you find one false, say at which input.
  Laid BY PROGRAM, IN A SANDBOX (cutbox-rows.mjs): the forced cells as the released guide's own fill.sh prints them over the translation ef278af5581ed0a1… (all of the seat's roots in one cut). By AI agents, Wed Nov 11 2026. No macro, syntax, notation, axiom, sorry.
-/
import Derived.Test.YtgkimfodbbgdbaaChecked
import GoSem.Claim
import GoSem.ClaimJoined
import GoSem.ClaimMapViews
import Derived.JoinedTies
import Derived.KernelRfl
namespace Go.Proofs.Ytgkimfodbbgdbaa
/- THE CELL 'sum', in the pinned program and in every row, IS THE sha256 OF THE DUMP (.gsa) THAT YtgkimfodbbgdbaaProg.lean LOADS. Nothing in Lean hashes anything: it is a label: what it is worth is what the hold of that sum in a sandbox is worth. -/
noncomputable def Try.pinned : Pinned := { name := "ytgkimfodbbgdbaa", sum := "ef278af5581ed0a19806cdf761e7a470951c4baf118adce3198d4bafbd68084b", checked := Try.checked }
namespace Rows
def none {H : Type} : Left H := { results := [], args := [] }

/-- 'fanlightlaw10.PlacePacks': WHATEVER THE INPUT: true; the input reads as it did. -/
def placePacksSpec : ChangeSpec := { name := "placePacks", fn := fun _ => fun
  | [d] => { results := [.lit (.bool true)], args := [d] }
  | _ => none }
def placePacksRow : OpenClaim := { program := "ytgkimfodbbgdbaa", sum := "ef278af5581ed0a19806cdf761e7a470951c4baf118adce3198d4bafbd68084b", func := "fanlight/fanlightlaw10.PlacePacks", spec := "placePacks", inPlace := ["sync/atomic.CompareAndSwapUint64", "sync/atomic.LoadUint64"], apart := false }
def PlacePacksSaid : Prop := placePacksRow.holds Try.pinned (OpenSpec.ofChange placePacksSpec)

/-- ITS FALSE NEIGHBOUR: 'it returns false'. Refute it at one input. -/
def placePacksWrong : ChangeSpec := { name := "placePacks", fn := fun _ => fun
  | [d] => { results := [.lit (.bool false)], args := [d] }
  | _ => none }
def PlacePacksWrongFalsely : Prop := placePacksRow.holds Try.pinned (OpenSpec.ofChange placePacksWrong)

/-- 'fanlightlaw10.PlaceUnpacks': WHATEVER THE INPUT: true; the input reads as it did. -/
def placeUnpacksSpec : ChangeSpec := { name := "placeUnpacks", fn := fun _ => fun
  | [d] => { results := [.lit (.bool true)], args := [d] }
  | _ => none }
def placeUnpacksRow : OpenClaim := { program := "ytgkimfodbbgdbaa", sum := "ef278af5581ed0a19806cdf761e7a470951c4baf118adce3198d4bafbd68084b", func := "fanlight/fanlightlaw10.PlaceUnpacks", spec := "placeUnpacks", inPlace := ["sync/atomic.CompareAndSwapUint64", "sync/atomic.LoadUint64"], apart := false }
def PlaceUnpacksSaid : Prop := placeUnpacksRow.holds Try.pinned (OpenSpec.ofChange placeUnpacksSpec)

/-- ITS FALSE NEIGHBOUR: 'it returns false'. Refute it at one input. -/
def placeUnpacksWrong : ChangeSpec := { name := "placeUnpacks", fn := fun _ => fun
  | [d] => { results := [.lit (.bool false)], args := [d] }
  | _ => none }
def PlaceUnpacksWrongFalsely : Prop := placeUnpacksRow.holds Try.pinned (OpenSpec.ofChange placeUnpacksWrong)

/-- 'fanlightlaw10.PlaceMay': WHATEVER THE INPUT: true; the input reads as it did. -/
def placeMaySpec : ChangeSpec := { name := "placeMay", fn := fun _ => fun
  | [d1, d2] => { results := [.lit (.bool true)], args := [d1, d2] }
  | _ => none }
def placeMayRow : OpenClaim := { program := "ytgkimfodbbgdbaa", sum := "ef278af5581ed0a19806cdf761e7a470951c4baf118adce3198d4bafbd68084b", func := "fanlight/fanlightlaw10.PlaceMay", spec := "placeMay", inPlace := ["sync/atomic.CompareAndSwapUint64", "sync/atomic.LoadUint64"], apart := false }
def PlaceMaySaid : Prop := placeMayRow.holds Try.pinned (OpenSpec.ofChange placeMaySpec)

/-- ITS FALSE NEIGHBOUR: 'it returns false'. Refute it at one input. -/
def placeMayWrong : ChangeSpec := { name := "placeMay", fn := fun _ => fun
  | [d1, d2] => { results := [.lit (.bool false)], args := [d1, d2] }
  | _ => none }
def PlaceMayWrongFalsely : Prop := placeMayRow.holds Try.pinned (OpenSpec.ofChange placeMayWrong)

/-- 'fanlightlaw10.PlaceLives': WHATEVER THE INPUT: true; the input reads as it did. -/
def placeLivesSpec : ChangeSpec := { name := "placeLives", fn := fun _ => fun
  | [d] => { results := [.lit (.bool true)], args := [d] }
  | _ => none }
def placeLivesRow : OpenClaim := { program := "ytgkimfodbbgdbaa", sum := "ef278af5581ed0a19806cdf761e7a470951c4baf118adce3198d4bafbd68084b", func := "fanlight/fanlightlaw10.PlaceLives", spec := "placeLives", inPlace := ["sync/atomic.CompareAndSwapUint64", "sync/atomic.LoadUint64"], apart := false }
def PlaceLivesSaid : Prop := placeLivesRow.holds Try.pinned (OpenSpec.ofChange placeLivesSpec)

/-- ITS FALSE NEIGHBOUR: 'it returns false'. Refute it at one input. -/
def placeLivesWrong : ChangeSpec := { name := "placeLives", fn := fun _ => fun
  | [d] => { results := [.lit (.bool false)], args := [d] }
  | _ => none }
def PlaceLivesWrongFalsely : Prop := placeLivesRow.holds Try.pinned (OpenSpec.ofChange placeLivesWrong)

/-- 'fanlightlaw10.PlaceFirst': WHATEVER THE INPUT: true; the input reads as it did. -/
def placeFirstSpec : ChangeSpec := { name := "placeFirst", fn := fun _ => fun
  | [d1, d2] => { results := [.lit (.bool true)], args := [d1, d2] }
  | _ => none }
def placeFirstRow : OpenClaim := { program := "ytgkimfodbbgdbaa", sum := "ef278af5581ed0a19806cdf761e7a470951c4baf118adce3198d4bafbd68084b", func := "fanlight/fanlightlaw10.PlaceFirst", spec := "placeFirst", inPlace := ["sync/atomic.CompareAndSwapUint64", "sync/atomic.LoadUint64"], apart := false }
def PlaceFirstSaid : Prop := placeFirstRow.holds Try.pinned (OpenSpec.ofChange placeFirstSpec)

/-- ITS FALSE NEIGHBOUR: 'it returns false'. Refute it at one input. -/
def placeFirstWrong : ChangeSpec := { name := "placeFirst", fn := fun _ => fun
  | [d1, d2] => { results := [.lit (.bool false)], args := [d1, d2] }
  | _ => none }
def PlaceFirstWrongFalsely : Prop := placeFirstRow.holds Try.pinned (OpenSpec.ofChange placeFirstWrong)

/-- 'fanlightlaw10.PlaceActs': WHATEVER THE INPUT: true; the input reads as it did. -/
def placeActsSpec : ChangeSpec := { name := "placeActs", fn := fun _ => fun
  | [d1, d2] => { results := [.lit (.bool true)], args := [d1, d2] }
  | _ => none }
def placeActsRow : OpenClaim := { program := "ytgkimfodbbgdbaa", sum := "ef278af5581ed0a19806cdf761e7a470951c4baf118adce3198d4bafbd68084b", func := "fanlight/fanlightlaw10.PlaceActs", spec := "placeActs", inPlace := ["sync/atomic.CompareAndSwapUint64", "sync/atomic.LoadUint64", "sync/atomic.StoreUint64"], apart := false }
def PlaceActsSaid : Prop := placeActsRow.holds Try.pinned (OpenSpec.ofChange placeActsSpec)

/-- ITS FALSE NEIGHBOUR: 'it returns false'. Refute it at one input. -/
def placeActsWrong : ChangeSpec := { name := "placeActs", fn := fun _ => fun
  | [d1, d2] => { results := [.lit (.bool false)], args := [d1, d2] }
  | _ => none }
def PlaceActsWrongFalsely : Prop := placeActsRow.holds Try.pinned (OpenSpec.ofChange placeActsWrong)

/- THE SECOND FORM. 'bulk': how many values and letters a reading holds, each counted each time it is reached (what is shared counts as often as it is met; a slice's spare places count too). A statement '..UptoSaid' is the law's where the arguments, and the package variables that the reading takes, are together of bulk at most 1048576: NARROWER than '..Said'. Prove '..Said' where nothing that the law and all that it calls make is longer than what came in: it says more and counts as full. Else prove '..UptoSaid'. A law counts once. -/
mutual
def uptoBulk {H : Type} : DataW H → Nat
  | .lit (.string bytes) => bytes.length + 1
  | .lit _ => 1
  | .nil => 1
  | .ptr d => uptoBulk d + 1
  | .slice elems spare => uptoBulkAll elems + uptoBulkAll spare + 1
  | .agg parts => uptoBulkAll parts + 1
  | .iface _ d => uptoBulk d + 1
  | .map entries => uptoBulkEntries entries + 1
  | .held _ => 1
def uptoBulkAll {H : Type} : List (DataW H) → Nat
  | [] => 0
  | d :: r => uptoBulk d + uptoBulkAll r
def uptoBulkEntries {H : Type} : List (Lit × DataW H) → Nat
  | [] => 0
  | x :: r => uptoBulkEntry x + uptoBulkEntries r
def uptoBulkEntry {H : Type} : Lit × DataW H → Nat
  | (.string bytes, d) => bytes.length + uptoBulk d + 1
  | (_, d) => uptoBulk d + 1
 end
def uptoSmall : (H : Type) → List (DataW H) → Bool := fun _ ds => decide (uptoBulkAll ds ≤ 1048576)
def OpenSpec.upto (s : _root_.Go.ChangeSpec) : _root_.Go.OpenSpec := { _root_.Go.OpenSpec.ofChange s with cond := some uptoSmall }

/-- 'fanlightlaw10.PlacePacks', WHERE WHAT IT READS IS OF BULK AT MOST 1048576: true; the input reads as it did. -/
def placePacksUptoRow : OpenClaim := { program := "ytgkimfodbbgdbaa", sum := "ef278af5581ed0a19806cdf761e7a470951c4baf118adce3198d4bafbd68084b", func := "fanlight/fanlightlaw10.PlacePacks", spec := "placePacks", inPlace := ["sync/atomic.CompareAndSwapUint64", "sync/atomic.LoadUint64"], apart := false, narrowed := true }
def PlacePacksUptoSaid : Prop := placePacksUptoRow.holds Try.pinned (OpenSpec.upto placePacksSpec)

/-- 'fanlightlaw10.PlaceUnpacks', WHERE WHAT IT READS IS OF BULK AT MOST 1048576: true; the input reads as it did. -/
def placeUnpacksUptoRow : OpenClaim := { program := "ytgkimfodbbgdbaa", sum := "ef278af5581ed0a19806cdf761e7a470951c4baf118adce3198d4bafbd68084b", func := "fanlight/fanlightlaw10.PlaceUnpacks", spec := "placeUnpacks", inPlace := ["sync/atomic.CompareAndSwapUint64", "sync/atomic.LoadUint64"], apart := false, narrowed := true }
def PlaceUnpacksUptoSaid : Prop := placeUnpacksUptoRow.holds Try.pinned (OpenSpec.upto placeUnpacksSpec)

/-- 'fanlightlaw10.PlaceMay', WHERE WHAT IT READS IS OF BULK AT MOST 1048576: true; the input reads as it did. -/
def placeMayUptoRow : OpenClaim := { program := "ytgkimfodbbgdbaa", sum := "ef278af5581ed0a19806cdf761e7a470951c4baf118adce3198d4bafbd68084b", func := "fanlight/fanlightlaw10.PlaceMay", spec := "placeMay", inPlace := ["sync/atomic.CompareAndSwapUint64", "sync/atomic.LoadUint64"], apart := false, narrowed := true }
def PlaceMayUptoSaid : Prop := placeMayUptoRow.holds Try.pinned (OpenSpec.upto placeMaySpec)

/-- 'fanlightlaw10.PlaceLives', WHERE WHAT IT READS IS OF BULK AT MOST 1048576: true; the input reads as it did. -/
def placeLivesUptoRow : OpenClaim := { program := "ytgkimfodbbgdbaa", sum := "ef278af5581ed0a19806cdf761e7a470951c4baf118adce3198d4bafbd68084b", func := "fanlight/fanlightlaw10.PlaceLives", spec := "placeLives", inPlace := ["sync/atomic.CompareAndSwapUint64", "sync/atomic.LoadUint64"], apart := false, narrowed := true }
def PlaceLivesUptoSaid : Prop := placeLivesUptoRow.holds Try.pinned (OpenSpec.upto placeLivesSpec)

/-- 'fanlightlaw10.PlaceFirst', WHERE WHAT IT READS IS OF BULK AT MOST 1048576: true; the input reads as it did. -/
def placeFirstUptoRow : OpenClaim := { program := "ytgkimfodbbgdbaa", sum := "ef278af5581ed0a19806cdf761e7a470951c4baf118adce3198d4bafbd68084b", func := "fanlight/fanlightlaw10.PlaceFirst", spec := "placeFirst", inPlace := ["sync/atomic.CompareAndSwapUint64", "sync/atomic.LoadUint64"], apart := false, narrowed := true }
def PlaceFirstUptoSaid : Prop := placeFirstUptoRow.holds Try.pinned (OpenSpec.upto placeFirstSpec)

/-- 'fanlightlaw10.PlaceActs', WHERE WHAT IT READS IS OF BULK AT MOST 1048576: true; the input reads as it did. -/
def placeActsUptoRow : OpenClaim := { program := "ytgkimfodbbgdbaa", sum := "ef278af5581ed0a19806cdf761e7a470951c4baf118adce3198d4bafbd68084b", func := "fanlight/fanlightlaw10.PlaceActs", spec := "placeActs", inPlace := ["sync/atomic.CompareAndSwapUint64", "sync/atomic.LoadUint64", "sync/atomic.StoreUint64"], apart := false, narrowed := true }
def PlaceActsUptoSaid : Prop := placeActsUptoRow.holds Try.pinned (OpenSpec.upto placeActsSpec)

end Rows
end Go.Proofs.Ytgkimfodbbgdbaa
