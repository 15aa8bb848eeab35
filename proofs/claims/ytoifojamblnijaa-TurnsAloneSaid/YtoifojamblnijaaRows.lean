/-
  No cell of these rows narrows 'for every input' (looked for: loops, veiled, ifaces, maps, wideKeys, modest, calm, conditions, laid).
  DERIVED. THE GIVEN ROWS OF THIS SEAT. 5 by the template 'for every input the law returns true; each argument reads behind the call as it read before'; 0 by the template 'total and deterministic' (their statements: YtoifojamblnijaaTotals.lean).
  GIVEN WITH THE SEED: the statements are not yours to turn. If you find one false, say at which input.
  Laid BY PROGRAM, IN A SANDBOX (cutbox-rows.mjs): the forced cells as the released guide's own fill.sh prints them over the translation b84d23ce6fc50f0c… (all of the seat's roots in one cut). By AI agents, Wed Nov 11 2026. No macro, syntax, notation, axiom, sorry.
-/
import Derived.Test.YtoifojamblnijaaChecked
import GoSem.Claim
import GoSem.ClaimJoined
import GoSem.ClaimMapViews
import Derived.JoinedTies
import Derived.KernelRfl
namespace Go.Proofs.Ytoifojamblnijaa
/- THE CELL 'sum', in the pinned program and in every row, IS THE sha256 OF THE DUMP (.gsa) THAT YtoifojamblnijaaProg.lean LOADS. Nothing in Lean hashes anything: it is a label: what it is worth is what the hold of that sum in a sandbox is worth. -/
noncomputable def Try.pinned : Pinned := { name := "ytoifojamblnijaa", sum := "b84d23ce6fc50f0cc7290de40b5d5b525b86ce8e412958992d02d1149e27b572", checked := Try.checked }
namespace Rows
def none {H : Type} : Left H := { results := [], args := [] }

/-- 'fanlightlaw06.TurnsCounts': WHATEVER THE INPUT: true; the input reads as it did. -/
def turnsCountsSpec : ChangeSpec := { name := "turnsCounts", fn := fun _ => fun
  | [d1, d2, d3] => { results := [.lit (.bool true)], args := [d1, d2, d3] }
  | _ => none }
def turnsCountsRow : OpenClaim := { program := "ytoifojamblnijaa", sum := "b84d23ce6fc50f0cc7290de40b5d5b525b86ce8e412958992d02d1149e27b572", func := "fanlight/fanlightlaw06.TurnsCounts", spec := "turnsCounts", inPlace := ["sync/atomic.LoadUint64", "sync/atomic.StoreUint64", "sync/atomic.CompareAndSwapUint64", "sync/atomic.AddUint64"], apart := false }
def TurnsCountsSaid : Prop := turnsCountsRow.holds Try.pinned (OpenSpec.ofChange turnsCountsSpec)

/-- ITS FALSE NEIGHBOUR: 'it returns false'. Refute it at one input. -/
def turnsCountsWrong : ChangeSpec := { name := "turnsCounts", fn := fun _ => fun
  | [d1, d2, d3] => { results := [.lit (.bool false)], args := [d1, d2, d3] }
  | _ => none }
def TurnsCountsWrongFalsely : Prop := turnsCountsRow.holds Try.pinned (OpenSpec.ofChange turnsCountsWrong)

/-- 'fanlightlaw06.TurnsAlone': WHATEVER THE INPUT: true; the input reads as it did. -/
def turnsAloneSpec : ChangeSpec := { name := "turnsAlone", fn := fun _ => fun
  | [d1, d2] => { results := [.lit (.bool true)], args := [d1, d2] }
  | _ => none }
def turnsAloneRow : OpenClaim := { program := "ytoifojamblnijaa", sum := "b84d23ce6fc50f0cc7290de40b5d5b525b86ce8e412958992d02d1149e27b572", func := "fanlight/fanlightlaw06.TurnsAlone", spec := "turnsAlone", inPlace := ["sync/atomic.LoadUint64", "sync/atomic.StoreUint64", "sync/atomic.CompareAndSwapUint64", "sync/atomic.AddUint64"], apart := false }
def TurnsAloneSaid : Prop := turnsAloneRow.holds Try.pinned (OpenSpec.ofChange turnsAloneSpec)

/-- ITS FALSE NEIGHBOUR: 'it returns false'. Refute it at one input. -/
def turnsAloneWrong : ChangeSpec := { name := "turnsAlone", fn := fun _ => fun
  | [d1, d2] => { results := [.lit (.bool false)], args := [d1, d2] }
  | _ => none }
def TurnsAloneWrongFalsely : Prop := turnsAloneRow.holds Try.pinned (OpenSpec.ofChange turnsAloneWrong)

/-- 'fanlightlaw06.TurnsSwaps': WHATEVER THE INPUT: true; the input reads as it did. -/
def turnsSwapsSpec : ChangeSpec := { name := "turnsSwaps", fn := fun _ => fun
  | [d1, d2] => { results := [.lit (.bool true)], args := [d1, d2] }
  | _ => none }
def turnsSwapsRow : OpenClaim := { program := "ytoifojamblnijaa", sum := "b84d23ce6fc50f0cc7290de40b5d5b525b86ce8e412958992d02d1149e27b572", func := "fanlight/fanlightlaw06.TurnsSwaps", spec := "turnsSwaps", inPlace := ["sync/atomic.LoadUint64", "sync/atomic.StoreUint64", "sync/atomic.CompareAndSwapUint64", "sync/atomic.AddUint64"], apart := false }
def TurnsSwapsSaid : Prop := turnsSwapsRow.holds Try.pinned (OpenSpec.ofChange turnsSwapsSpec)

/-- ITS FALSE NEIGHBOUR: 'it returns false'. Refute it at one input. -/
def turnsSwapsWrong : ChangeSpec := { name := "turnsSwaps", fn := fun _ => fun
  | [d1, d2] => { results := [.lit (.bool false)], args := [d1, d2] }
  | _ => none }
def TurnsSwapsWrongFalsely : Prop := turnsSwapsRow.holds Try.pinned (OpenSpec.ofChange turnsSwapsWrong)

/-- 'fanlightlaw06.TurnsOrders': WHATEVER THE INPUT: true; the input reads as it did. -/
def turnsOrdersSpec : ChangeSpec := { name := "turnsOrders", fn := fun _ => fun
  | [d1, d2] => { results := [.lit (.bool true)], args := [d1, d2] }
  | _ => none }
def turnsOrdersRow : OpenClaim := { program := "ytoifojamblnijaa", sum := "b84d23ce6fc50f0cc7290de40b5d5b525b86ce8e412958992d02d1149e27b572", func := "fanlight/fanlightlaw06.TurnsOrders", spec := "turnsOrders", inPlace := ["sync/atomic.LoadUint64", "sync/atomic.StoreUint64", "sync/atomic.CompareAndSwapUint64", "sync/atomic.AddUint64"], apart := false }
def TurnsOrdersSaid : Prop := turnsOrdersRow.holds Try.pinned (OpenSpec.ofChange turnsOrdersSpec)

/-- ITS FALSE NEIGHBOUR: 'it returns false'. Refute it at one input. -/
def turnsOrdersWrong : ChangeSpec := { name := "turnsOrders", fn := fun _ => fun
  | [d1, d2] => { results := [.lit (.bool false)], args := [d1, d2] }
  | _ => none }
def TurnsOrdersWrongFalsely : Prop := turnsOrdersRow.holds Try.pinned (OpenSpec.ofChange turnsOrdersWrong)

/-- 'fanlightlaw06.TurnsFree': WHATEVER THE INPUT: true; the input reads as it did. -/
def turnsFreeSpec : ChangeSpec := { name := "turnsFree", fn := fun _ => fun
  | [d1, d2] => { results := [.lit (.bool true)], args := [d1, d2] }
  | _ => none }
def turnsFreeRow : OpenClaim := { program := "ytoifojamblnijaa", sum := "b84d23ce6fc50f0cc7290de40b5d5b525b86ce8e412958992d02d1149e27b572", func := "fanlight/fanlightlaw06.TurnsFree", spec := "turnsFree", inPlace := ["(*sync.WaitGroup).Add", "internal/race.ReleaseMerge", "internal/race.Disable", "internal/race.Enable", "internal/synctest.IsInBubble", "internal/synctest.Associate[sync.WaitGroup]", "sync.fatal", "sync/atomic.OrUint64", "sync/atomic.AddUint64", "internal/race.Read", "sync/atomic.LoadUint64", "sync/atomic.StoreUint64", "internal/synctest.Disassociate[sync.WaitGroup]", "sync.runtime_Semrelease", "(*sync.WaitGroup).Done", "sync/atomic.CompareAndSwapUint64", "(*sync.WaitGroup).Wait", "internal/race.Acquire", "internal/synctest.IsAssociated[sync.WaitGroup]", "internal/race.Write", "sync.runtime_SemacquireWaitGroup"], unfollowed := true, recurses := true, leaving := true, apart := false }
def TurnsFreeSaid : Prop := turnsFreeRow.holds Try.pinned (OpenSpec.ofChange turnsFreeSpec)

/-- ITS FALSE NEIGHBOUR: 'it returns false'. Refute it at one input. -/
def turnsFreeWrong : ChangeSpec := { name := "turnsFree", fn := fun _ => fun
  | [d1, d2] => { results := [.lit (.bool false)], args := [d1, d2] }
  | _ => none }
def TurnsFreeWrongFalsely : Prop := turnsFreeRow.holds Try.pinned (OpenSpec.ofChange turnsFreeWrong)

/- THE SECOND FORM. 'bulk': how many values and letters a reading holds, each counted each time it is reached (what is shared counts as often as it is met; a slice's spare places count too). A statement '..UptoSaid' is the law's where the arguments, and the package variables that the reading takes, are together of bulk at most 1048576: NARROWER than '..Said'. Prove '..Said' where nothing that the law and all that it calls make is longer than what came in: it says more and counts as full. Else prove '..UptoSaid'. A law counts once. -/
mutual
def uptoBulk {H : Type} : DataW H → Nat
  | .lit (.string bytes) => bytes.length + 1
  | .lit _ => 1
  | .nil => 1
  | .ptr d => uptoBulk d + 1
  | .slice elems spare => uptoBulkAll elems + uptoBulkAll spare + 1
  | .agg parts => uptoBulkAll parts + 1
  | .iface _ d => uptoBulk d + 1
  | .map entries => uptoBulkEntries entries + 1
  | .held _ => 1
def uptoBulkAll {H : Type} : List (DataW H) → Nat
  | [] => 0
  | d :: r => uptoBulk d + uptoBulkAll r
def uptoBulkEntries {H : Type} : List (Lit × DataW H) → Nat
  | [] => 0
  | x :: r => uptoBulkEntry x + uptoBulkEntries r
def uptoBulkEntry {H : Type} : Lit × DataW H → Nat
  | (.string bytes, d) => bytes.length + uptoBulk d + 1
  | (_, d) => uptoBulk d + 1
 end
def uptoSmall : (H : Type) → List (DataW H) → Bool := fun _ ds => decide (uptoBulkAll ds ≤ 1048576)
def OpenSpec.upto (s : _root_.Go.ChangeSpec) : _root_.Go.OpenSpec := { _root_.Go.OpenSpec.ofChange s with cond := some uptoSmall }

/-- 'fanlightlaw06.TurnsCounts', WHERE WHAT IT READS IS OF BULK AT MOST 1048576: true; the input reads as it did. -/
def turnsCountsUptoRow : OpenClaim := { program := "ytoifojamblnijaa", sum := "b84d23ce6fc50f0cc7290de40b5d5b525b86ce8e412958992d02d1149e27b572", func := "fanlight/fanlightlaw06.TurnsCounts", spec := "turnsCounts", inPlace := ["sync/atomic.LoadUint64", "sync/atomic.StoreUint64", "sync/atomic.CompareAndSwapUint64", "sync/atomic.AddUint64"], apart := false, narrowed := true }
def TurnsCountsUptoSaid : Prop := turnsCountsUptoRow.holds Try.pinned (OpenSpec.upto turnsCountsSpec)

/-- 'fanlightlaw06.TurnsAlone', WHERE WHAT IT READS IS OF BULK AT MOST 1048576: true; the input reads as it did. -/
def turnsAloneUptoRow : OpenClaim := { program := "ytoifojamblnijaa", sum := "b84d23ce6fc50f0cc7290de40b5d5b525b86ce8e412958992d02d1149e27b572", func := "fanlight/fanlightlaw06.TurnsAlone", spec := "turnsAlone", inPlace := ["sync/atomic.LoadUint64", "sync/atomic.StoreUint64", "sync/atomic.CompareAndSwapUint64", "sync/atomic.AddUint64"], apart := false, narrowed := true }
def TurnsAloneUptoSaid : Prop := turnsAloneUptoRow.holds Try.pinned (OpenSpec.upto turnsAloneSpec)

/-- 'fanlightlaw06.TurnsSwaps', WHERE WHAT IT READS IS OF BULK AT MOST 1048576: true; the input reads as it did. -/
def turnsSwapsUptoRow : OpenClaim := { program := "ytoifojamblnijaa", sum := "b84d23ce6fc50f0cc7290de40b5d5b525b86ce8e412958992d02d1149e27b572", func := "fanlight/fanlightlaw06.TurnsSwaps", spec := "turnsSwaps", inPlace := ["sync/atomic.LoadUint64", "sync/atomic.StoreUint64", "sync/atomic.CompareAndSwapUint64", "sync/atomic.AddUint64"], apart := false, narrowed := true }
def TurnsSwapsUptoSaid : Prop := turnsSwapsUptoRow.holds Try.pinned (OpenSpec.upto turnsSwapsSpec)

/-- 'fanlightlaw06.TurnsOrders', WHERE WHAT IT READS IS OF BULK AT MOST 1048576: true; the input reads as it did. -/
def turnsOrdersUptoRow : OpenClaim := { program := "ytoifojamblnijaa", sum := "b84d23ce6fc50f0cc7290de40b5d5b525b86ce8e412958992d02d1149e27b572", func := "fanlight/fanlightlaw06.TurnsOrders", spec := "turnsOrders", inPlace := ["sync/atomic.LoadUint64", "sync/atomic.StoreUint64", "sync/atomic.CompareAndSwapUint64", "sync/atomic.AddUint64"], apart := false, narrowed := true }
def TurnsOrdersUptoSaid : Prop := turnsOrdersUptoRow.holds Try.pinned (OpenSpec.upto turnsOrdersSpec)

/-- 'fanlightlaw06.TurnsFree', WHERE WHAT IT READS IS OF BULK AT MOST 1048576: true; the input reads as it did. -/
def turnsFreeUptoRow : OpenClaim := { program := "ytoifojamblnijaa", sum := "b84d23ce6fc50f0cc7290de40b5d5b525b86ce8e412958992d02d1149e27b572", func := "fanlight/fanlightlaw06.TurnsFree", spec := "turnsFree", inPlace := ["(*sync.WaitGroup).Add", "internal/race.ReleaseMerge", "internal/race.Disable", "internal/race.Enable", "internal/synctest.IsInBubble", "internal/synctest.Associate[sync.WaitGroup]", "sync.fatal", "sync/atomic.OrUint64", "sync/atomic.AddUint64", "internal/race.Read", "sync/atomic.LoadUint64", "sync/atomic.StoreUint64", "internal/synctest.Disassociate[sync.WaitGroup]", "sync.runtime_Semrelease", "(*sync.WaitGroup).Done", "sync/atomic.CompareAndSwapUint64", "(*sync.WaitGroup).Wait", "internal/race.Acquire", "internal/synctest.IsAssociated[sync.WaitGroup]", "internal/race.Write", "sync.runtime_SemacquireWaitGroup"], unfollowed := true, recurses := true, leaving := true, apart := false, narrowed := true }
def TurnsFreeUptoSaid : Prop := turnsFreeUptoRow.holds Try.pinned (OpenSpec.upto turnsFreeSpec)

end Rows
end Go.Proofs.Ytoifojamblnijaa
