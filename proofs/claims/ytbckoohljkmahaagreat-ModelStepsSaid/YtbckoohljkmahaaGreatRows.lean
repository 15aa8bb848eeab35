/-
  No cell of these rows narrows 'for every input' (looked for: loops, veiled, ifaces, maps, wideKeys, modest, calm, conditions, laid).
  DERIVED. THE GIVEN ROWS OF THIS SEAT. 8 by the template 'for every input the law returns true; each argument reads behind the call as it read before'; 0 by the template 'total and deterministic' (their statements: YtbckoohljkmahaaGreatTotals.lean).
  GIVEN WITH THE SEED: the statements are not yours to turn. If you find one false, say at which input.
  Laid BY PROGRAM, IN A SANDBOX (cutbox-rows.mjs): the forced cells as the released guide's own fill.sh prints them over the translation 85e445b911174786… (all of the seat's roots in one cut). By AI agents, Wed Nov 11 2026. No macro, syntax, notation, axiom, sorry.
-/
import Derived.Test.YtbckoohljkmahaaGreatChecked
import GoSem.Claim
import GoSem.ClaimJoined
import GoSem.ClaimMapViews
import Derived.JoinedTies
import Derived.KernelRfl
namespace Go.Proofs.YtbckoohljkmahaaGreat
/- THE CELL 'sum', in the pinned program and in every row, IS THE sha256 OF THE DUMP (.gsa) THAT YtbckoohljkmahaaGreatProg.lean LOADS. Nothing in Lean hashes anything: it is a label: what it is worth is what the hold of that sum in a sandbox is worth. -/
noncomputable def Tryz.pinned : Pinned := { name := "ytbckoohljkmahaagreat", sum := "85e445b911174786fcda97add5e47015e34c2ee44398fa6f9ed51502c3cc81f0", checked := Tryz.checked }
namespace Rows
def none {H : Type} : Left H := { results := [], args := [] }

/-- 'fanlightlaw15.ModelWhose': WHATEVER THE INPUT: true; the input reads as it did. -/
def modelWhoseSpec : ChangeSpec := { name := "modelWhose", fn := fun _ => fun
  | [d1, d2, d3] => { results := [.lit (.bool true)], args := [d1, d2, d3] }
  | _ => none }
def modelWhoseRow : OpenClaim := { program := "ytbckoohljkmahaagreat", sum := "85e445b911174786fcda97add5e47015e34c2ee44398fa6f9ed51502c3cc81f0", func := "fanlight/fanlightlaw15.ModelWhose", spec := "modelWhose", unfollowed := true, recurses := true, plainKeys := false, apart := false }
def ModelWhoseSaid : Prop := modelWhoseRow.holds Tryz.pinned (OpenSpec.ofChange modelWhoseSpec)

/-- ITS FALSE NEIGHBOUR: 'it returns false'. Refute it at one input. -/
def modelWhoseWrong : ChangeSpec := { name := "modelWhose", fn := fun _ => fun
  | [d1, d2, d3] => { results := [.lit (.bool false)], args := [d1, d2, d3] }
  | _ => none }
def ModelWhoseWrongFalsely : Prop := modelWhoseRow.holds Tryz.pinned (OpenSpec.ofChange modelWhoseWrong)

/-- 'fanlightlaw15.ModelOnce': WHATEVER THE INPUT: true; the input reads as it did. -/
def modelOnceSpec : ChangeSpec := { name := "modelOnce", fn := fun _ => fun
  | [d] => { results := [.lit (.bool true)], args := [d] }
  | _ => none }
def modelOnceRow : OpenClaim := { program := "ytbckoohljkmahaagreat", sum := "85e445b911174786fcda97add5e47015e34c2ee44398fa6f9ed51502c3cc81f0", func := "fanlight/fanlightlaw15.ModelOnce", spec := "modelOnce", unfollowed := true, recurses := true, plainKeys := false, apart := false }
def ModelOnceSaid : Prop := modelOnceRow.holds Tryz.pinned (OpenSpec.ofChange modelOnceSpec)

/-- ITS FALSE NEIGHBOUR: 'it returns false'. Refute it at one input. -/
def modelOnceWrong : ChangeSpec := { name := "modelOnce", fn := fun _ => fun
  | [d] => { results := [.lit (.bool false)], args := [d] }
  | _ => none }
def ModelOnceWrongFalsely : Prop := modelOnceRow.holds Tryz.pinned (OpenSpec.ofChange modelOnceWrong)

/-- 'fanlightlaw15.ModelBack': WHATEVER THE INPUT: true; the input reads as it did. -/
def modelBackSpec : ChangeSpec := { name := "modelBack", fn := fun _ => fun
  | [d1, d2, d3] => { results := [.lit (.bool true)], args := [d1, d2, d3] }
  | _ => none }
def modelBackRow : OpenClaim := { program := "ytbckoohljkmahaagreat", sum := "85e445b911174786fcda97add5e47015e34c2ee44398fa6f9ed51502c3cc81f0", func := "fanlight/fanlightlaw15.ModelBack", spec := "modelBack", unfollowed := true, recurses := true, plainKeys := false, apart := false }
def ModelBackSaid : Prop := modelBackRow.holds Tryz.pinned (OpenSpec.ofChange modelBackSpec)

/-- ITS FALSE NEIGHBOUR: 'it returns false'. Refute it at one input. -/
def modelBackWrong : ChangeSpec := { name := "modelBack", fn := fun _ => fun
  | [d1, d2, d3] => { results := [.lit (.bool false)], args := [d1, d2, d3] }
  | _ => none }
def ModelBackWrongFalsely : Prop := modelBackRow.holds Tryz.pinned (OpenSpec.ofChange modelBackWrong)

/-- 'fanlightlaw15.ModelLives': WHATEVER THE INPUT: true; the input reads as it did. -/
def modelLivesSpec : ChangeSpec := { name := "modelLives", fn := fun _ => fun
  | [d1, d2, d3] => { results := [.lit (.bool true)], args := [d1, d2, d3] }
  | _ => none }
def modelLivesRow : OpenClaim := { program := "ytbckoohljkmahaagreat", sum := "85e445b911174786fcda97add5e47015e34c2ee44398fa6f9ed51502c3cc81f0", func := "fanlight/fanlightlaw15.ModelLives", spec := "modelLives", unfollowed := true, recurses := true, plainKeys := false, apart := false }
def ModelLivesSaid : Prop := modelLivesRow.holds Tryz.pinned (OpenSpec.ofChange modelLivesSpec)

/-- ITS FALSE NEIGHBOUR: 'it returns false'. Refute it at one input. -/
def modelLivesWrong : ChangeSpec := { name := "modelLives", fn := fun _ => fun
  | [d1, d2, d3] => { results := [.lit (.bool false)], args := [d1, d2, d3] }
  | _ => none }
def ModelLivesWrongFalsely : Prop := modelLivesRow.holds Tryz.pinned (OpenSpec.ofChange modelLivesWrong)

/-- 'fanlightlaw15.ModelDrops': WHATEVER THE INPUT: true; the input reads as it did. -/
def modelDropsSpec : ChangeSpec := { name := "modelDrops", fn := fun _ => fun
  | [d1, d2] => { results := [.lit (.bool true)], args := [d1, d2] }
  | _ => none }
def modelDropsRow : OpenClaim := { program := "ytbckoohljkmahaagreat", sum := "85e445b911174786fcda97add5e47015e34c2ee44398fa6f9ed51502c3cc81f0", func := "fanlight/fanlightlaw15.ModelDrops", spec := "modelDrops", unfollowed := true, recurses := true, plainKeys := false, apart := false }
def ModelDropsSaid : Prop := modelDropsRow.holds Tryz.pinned (OpenSpec.ofChange modelDropsSpec)

/-- ITS FALSE NEIGHBOUR: 'it returns false'. Refute it at one input. -/
def modelDropsWrong : ChangeSpec := { name := "modelDrops", fn := fun _ => fun
  | [d1, d2] => { results := [.lit (.bool false)], args := [d1, d2] }
  | _ => none }
def ModelDropsWrongFalsely : Prop := modelDropsRow.holds Tryz.pinned (OpenSpec.ofChange modelDropsWrong)

/-- 'fanlightlaw15.ModelErrors': WHATEVER THE INPUT: true; the input reads as it did. -/
def modelErrorsSpec : ChangeSpec := { name := "modelErrors", fn := fun _ => fun
  | [d1, d2, d3] => { results := [.lit (.bool true)], args := [d1, d2, d3] }
  | _ => none }
def modelErrorsRow : OpenClaim := { program := "ytbckoohljkmahaagreat", sum := "85e445b911174786fcda97add5e47015e34c2ee44398fa6f9ed51502c3cc81f0", func := "fanlight/fanlightlaw15.ModelErrors", spec := "modelErrors", unfollowed := true, recurses := true, plainKeys := false, apart := false }
def ModelErrorsSaid : Prop := modelErrorsRow.holds Tryz.pinned (OpenSpec.ofChange modelErrorsSpec)

/-- ITS FALSE NEIGHBOUR: 'it returns false'. Refute it at one input. -/
def modelErrorsWrong : ChangeSpec := { name := "modelErrors", fn := fun _ => fun
  | [d1, d2, d3] => { results := [.lit (.bool false)], args := [d1, d2, d3] }
  | _ => none }
def ModelErrorsWrongFalsely : Prop := modelErrorsRow.holds Tryz.pinned (OpenSpec.ofChange modelErrorsWrong)

/-- 'fanlightlaw15.ModelNames': WHATEVER THE INPUT: true; the input reads as it did. -/
def modelNamesSpec : ChangeSpec := { name := "modelNames", fn := fun _ => fun
  | [d1, d2] => { results := [.lit (.bool true)], args := [d1, d2] }
  | _ => none }
def modelNamesRow : OpenClaim := { program := "ytbckoohljkmahaagreat", sum := "85e445b911174786fcda97add5e47015e34c2ee44398fa6f9ed51502c3cc81f0", func := "fanlight/fanlightlaw15.ModelNames", spec := "modelNames", unfollowed := true, recurses := true, plainKeys := false, apart := false }
def ModelNamesSaid : Prop := modelNamesRow.holds Tryz.pinned (OpenSpec.ofChange modelNamesSpec)

/-- ITS FALSE NEIGHBOUR: 'it returns false'. Refute it at one input. -/
def modelNamesWrong : ChangeSpec := { name := "modelNames", fn := fun _ => fun
  | [d1, d2] => { results := [.lit (.bool false)], args := [d1, d2] }
  | _ => none }
def ModelNamesWrongFalsely : Prop := modelNamesRow.holds Tryz.pinned (OpenSpec.ofChange modelNamesWrong)

/-- 'fanlightlaw15.ModelSteps': WHATEVER THE INPUT: true; the input reads as it did. -/
def modelStepsSpec : ChangeSpec := { name := "modelSteps", fn := fun _ => fun
  | [d1, d2] => { results := [.lit (.bool true)], args := [d1, d2] }
  | _ => none }
def modelStepsRow : OpenClaim := { program := "ytbckoohljkmahaagreat", sum := "85e445b911174786fcda97add5e47015e34c2ee44398fa6f9ed51502c3cc81f0", func := "fanlight/fanlightlaw15.ModelSteps", spec := "modelSteps", inPlace := ["maps.clone"], unfollowed := true, recurses := true, plainKeys := false, apart := false }
def ModelStepsSaid : Prop := modelStepsRow.holds Tryz.pinned (OpenSpec.ofChange modelStepsSpec)

/-- ITS FALSE NEIGHBOUR: 'it returns false'. Refute it at one input. -/
def modelStepsWrong : ChangeSpec := { name := "modelSteps", fn := fun _ => fun
  | [d1, d2] => { results := [.lit (.bool false)], args := [d1, d2] }
  | _ => none }
def ModelStepsWrongFalsely : Prop := modelStepsRow.holds Tryz.pinned (OpenSpec.ofChange modelStepsWrong)

/- THE SECOND FORM. 'bulk': how many values and letters a reading holds, each counted each time it is reached (what is shared counts as often as it is met; a slice's spare places count too). A statement '..UptoSaid' is the law's where the arguments, and the package variables that the reading takes, are together of bulk at most 1048576: NARROWER than '..Said'. Prove '..Said' where nothing that the law and all that it calls make is longer than what came in: it says more and counts as full. Else prove '..UptoSaid'. A law counts once. -/
mutual
def uptoBulk {H : Type} : DataW H → Nat
  | .lit (.string bytes) => bytes.length + 1
  | .lit _ => 1
  | .nil => 1
  | .ptr d => uptoBulk d + 1
  | .slice elems spare => uptoBulkAll elems + uptoBulkAll spare + 1
  | .agg parts => uptoBulkAll parts + 1
  | .iface _ d => uptoBulk d + 1
  | .map entries => uptoBulkEntries entries + 1
  | .held _ => 1
def uptoBulkAll {H : Type} : List (DataW H) → Nat
  | [] => 0
  | d :: r => uptoBulk d + uptoBulkAll r
def uptoBulkEntries {H : Type} : List (Lit × DataW H) → Nat
  | [] => 0
  | x :: r => uptoBulkEntry x + uptoBulkEntries r
def uptoBulkEntry {H : Type} : Lit × DataW H → Nat
  | (.string bytes, d) => bytes.length + uptoBulk d + 1
  | (_, d) => uptoBulk d + 1
 end
def uptoSmall : (H : Type) → List (DataW H) → Bool := fun _ ds => decide (uptoBulkAll ds ≤ 1048576)
def OpenSpec.upto (s : _root_.Go.ChangeSpec) : _root_.Go.OpenSpec := { _root_.Go.OpenSpec.ofChange s with cond := some uptoSmall }

/-- 'fanlightlaw15.ModelWhose', WHERE WHAT IT READS IS OF BULK AT MOST 1048576: true; the input reads as it did. -/
def modelWhoseUptoRow : OpenClaim := { program := "ytbckoohljkmahaagreat", sum := "85e445b911174786fcda97add5e47015e34c2ee44398fa6f9ed51502c3cc81f0", func := "fanlight/fanlightlaw15.ModelWhose", spec := "modelWhose", unfollowed := true, recurses := true, plainKeys := false, apart := false, narrowed := true }
def ModelWhoseUptoSaid : Prop := modelWhoseUptoRow.holds Tryz.pinned (OpenSpec.upto modelWhoseSpec)

/-- 'fanlightlaw15.ModelOnce', WHERE WHAT IT READS IS OF BULK AT MOST 1048576: true; the input reads as it did. -/
def modelOnceUptoRow : OpenClaim := { program := "ytbckoohljkmahaagreat", sum := "85e445b911174786fcda97add5e47015e34c2ee44398fa6f9ed51502c3cc81f0", func := "fanlight/fanlightlaw15.ModelOnce", spec := "modelOnce", unfollowed := true, recurses := true, plainKeys := false, apart := false, narrowed := true }
def ModelOnceUptoSaid : Prop := modelOnceUptoRow.holds Tryz.pinned (OpenSpec.upto modelOnceSpec)

/-- 'fanlightlaw15.ModelBack', WHERE WHAT IT READS IS OF BULK AT MOST 1048576: true; the input reads as it did. -/
def modelBackUptoRow : OpenClaim := { program := "ytbckoohljkmahaagreat", sum := "85e445b911174786fcda97add5e47015e34c2ee44398fa6f9ed51502c3cc81f0", func := "fanlight/fanlightlaw15.ModelBack", spec := "modelBack", unfollowed := true, recurses := true, plainKeys := false, apart := false, narrowed := true }
def ModelBackUptoSaid : Prop := modelBackUptoRow.holds Tryz.pinned (OpenSpec.upto modelBackSpec)

/-- 'fanlightlaw15.ModelLives', WHERE WHAT IT READS IS OF BULK AT MOST 1048576: true; the input reads as it did. -/
def modelLivesUptoRow : OpenClaim := { program := "ytbckoohljkmahaagreat", sum := "85e445b911174786fcda97add5e47015e34c2ee44398fa6f9ed51502c3cc81f0", func := "fanlight/fanlightlaw15.ModelLives", spec := "modelLives", unfollowed := true, recurses := true, plainKeys := false, apart := false, narrowed := true }
def ModelLivesUptoSaid : Prop := modelLivesUptoRow.holds Tryz.pinned (OpenSpec.upto modelLivesSpec)

/-- 'fanlightlaw15.ModelDrops', WHERE WHAT IT READS IS OF BULK AT MOST 1048576: true; the input reads as it did. -/
def modelDropsUptoRow : OpenClaim := { program := "ytbckoohljkmahaagreat", sum := "85e445b911174786fcda97add5e47015e34c2ee44398fa6f9ed51502c3cc81f0", func := "fanlight/fanlightlaw15.ModelDrops", spec := "modelDrops", unfollowed := true, recurses := true, plainKeys := false, apart := false, narrowed := true }
def ModelDropsUptoSaid : Prop := modelDropsUptoRow.holds Tryz.pinned (OpenSpec.upto modelDropsSpec)

/-- 'fanlightlaw15.ModelErrors', WHERE WHAT IT READS IS OF BULK AT MOST 1048576: true; the input reads as it did. -/
def modelErrorsUptoRow : OpenClaim := { program := "ytbckoohljkmahaagreat", sum := "85e445b911174786fcda97add5e47015e34c2ee44398fa6f9ed51502c3cc81f0", func := "fanlight/fanlightlaw15.ModelErrors", spec := "modelErrors", unfollowed := true, recurses := true, plainKeys := false, apart := false, narrowed := true }
def ModelErrorsUptoSaid : Prop := modelErrorsUptoRow.holds Tryz.pinned (OpenSpec.upto modelErrorsSpec)

/-- 'fanlightlaw15.ModelNames', WHERE WHAT IT READS IS OF BULK AT MOST 1048576: true; the input reads as it did. -/
def modelNamesUptoRow : OpenClaim := { program := "ytbckoohljkmahaagreat", sum := "85e445b911174786fcda97add5e47015e34c2ee44398fa6f9ed51502c3cc81f0", func := "fanlight/fanlightlaw15.ModelNames", spec := "modelNames", unfollowed := true, recurses := true, plainKeys := false, apart := false, narrowed := true }
def ModelNamesUptoSaid : Prop := modelNamesUptoRow.holds Tryz.pinned (OpenSpec.upto modelNamesSpec)

/-- 'fanlightlaw15.ModelSteps', WHERE WHAT IT READS IS OF BULK AT MOST 1048576: true; the input reads as it did. -/
def modelStepsUptoRow : OpenClaim := { program := "ytbckoohljkmahaagreat", sum := "85e445b911174786fcda97add5e47015e34c2ee44398fa6f9ed51502c3cc81f0", func := "fanlight/fanlightlaw15.ModelSteps", spec := "modelSteps", inPlace := ["maps.clone"], unfollowed := true, recurses := true, plainKeys := false, apart := false, narrowed := true }
def ModelStepsUptoSaid : Prop := modelStepsUptoRow.holds Tryz.pinned (OpenSpec.upto modelStepsSpec)

end Rows
end Go.Proofs.YtbckoohljkmahaaGreat
