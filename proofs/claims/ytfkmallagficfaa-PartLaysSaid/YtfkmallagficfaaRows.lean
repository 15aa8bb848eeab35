/-
  No cell of these rows narrows 'for every input' (looked for: loops, veiled, ifaces, maps, wideKeys, modest, calm, conditions, laid).
  DERIVED. THE GIVEN ROWS OF THIS SEAT. 6 by the template 'for every input the law returns true; each argument reads behind the call as it read before'; 0 by the template 'total and deterministic' (their statements: YtfkmallagficfaaTotals.lean).
  GIVEN WITH THE SEED: the statements are not yours to turn. If you find one false, say at which input.
  Laid BY PROGRAM, IN A SANDBOX (cutbox-rows.mjs): the forced cells as the released guide's own fill.sh prints them over the translation 9d07d5c16404a39c… (all of the seat's roots in one cut). By AI agents, Wed Nov 11 2026. No macro, syntax, notation, axiom, sorry.
-/
import Derived.Test.YtfkmallagficfaaChecked
import GoSem.Claim
import GoSem.ClaimJoined
import GoSem.ClaimMapViews
import Derived.JoinedTies
import Derived.KernelRfl
namespace Go.Proofs.Ytfkmallagficfaa
/- THE CELL 'sum', in the pinned program and in every row, IS THE sha256 OF THE DUMP (.gsa) THAT YtfkmallagficfaaProg.lean LOADS. Nothing in Lean hashes anything: it is a label: what it is worth is what the hold of that sum in a sandbox is worth. -/
noncomputable def Try.pinned : Pinned := { name := "ytfkmallagficfaa", sum := "9d07d5c16404a39c56e3675411b25b090deb3b389bda4cfda8073a32bd57e4b5", checked := Try.checked }
namespace Rows
def none {H : Type} : Left H := { results := [], args := [] }

/-- 'fanlightlaw03.PartGets': WHATEVER THE INPUT: true; the input reads as it did. -/
def partGetsSpec : ChangeSpec := { name := "partGets", fn := fun _ => fun
  | [d1, d2, d3] => { results := [.lit (.bool true)], args := [d1, d2, d3] }
  | _ => none }
def partGetsRow : OpenClaim := { program := "ytfkmallagficfaa", sum := "9d07d5c16404a39c56e3675411b25b090deb3b389bda4cfda8073a32bd57e4b5", func := "fanlight/fanlightlaw03.PartGets", spec := "partGets", apart := false }
def PartGetsSaid : Prop := partGetsRow.holds Try.pinned (OpenSpec.ofChange partGetsSpec)

/-- ITS FALSE NEIGHBOUR: 'it returns false'. Refute it at one input. -/
def partGetsWrong : ChangeSpec := { name := "partGets", fn := fun _ => fun
  | [d1, d2, d3] => { results := [.lit (.bool false)], args := [d1, d2, d3] }
  | _ => none }
def PartGetsWrongFalsely : Prop := partGetsRow.holds Try.pinned (OpenSpec.ofChange partGetsWrong)

/-- 'fanlightlaw03.PartRaw': WHATEVER THE INPUT: true; the input reads as it did. -/
def partRawSpec : ChangeSpec := { name := "partRaw", fn := fun _ => fun
  | [d1, d2] => { results := [.lit (.bool true)], args := [d1, d2] }
  | _ => none }
def partRawRow : OpenClaim := { program := "ytfkmallagficfaa", sum := "9d07d5c16404a39c56e3675411b25b090deb3b389bda4cfda8073a32bd57e4b5", func := "fanlight/fanlightlaw03.PartRaw", spec := "partRaw", apart := false }
def PartRawSaid : Prop := partRawRow.holds Try.pinned (OpenSpec.ofChange partRawSpec)

/-- ITS FALSE NEIGHBOUR: 'it returns false'. Refute it at one input. -/
def partRawWrong : ChangeSpec := { name := "partRaw", fn := fun _ => fun
  | [d1, d2] => { results := [.lit (.bool false)], args := [d1, d2] }
  | _ => none }
def PartRawWrongFalsely : Prop := partRawRow.holds Try.pinned (OpenSpec.ofChange partRawWrong)

/-- 'fanlightlaw03.PartBits': WHATEVER THE INPUT: true; the input reads as it did. -/
def partBitsSpec : ChangeSpec := { name := "partBits", fn := fun _ => fun
  | [d1, d2] => { results := [.lit (.bool true)], args := [d1, d2] }
  | _ => none }
def partBitsRow : OpenClaim := { program := "ytfkmallagficfaa", sum := "9d07d5c16404a39c56e3675411b25b090deb3b389bda4cfda8073a32bd57e4b5", func := "fanlight/fanlightlaw03.PartBits", spec := "partBits", apart := false }
def PartBitsSaid : Prop := partBitsRow.holds Try.pinned (OpenSpec.ofChange partBitsSpec)

/-- ITS FALSE NEIGHBOUR: 'it returns false'. Refute it at one input. -/
def partBitsWrong : ChangeSpec := { name := "partBits", fn := fun _ => fun
  | [d1, d2] => { results := [.lit (.bool false)], args := [d1, d2] }
  | _ => none }
def PartBitsWrongFalsely : Prop := partBitsRow.holds Try.pinned (OpenSpec.ofChange partBitsWrong)

/-- 'fanlightlaw03.PartBare': WHATEVER THE INPUT: true; the input reads as it did. -/
def partBareSpec : ChangeSpec := { name := "partBare", fn := fun _ => fun
  | [d1, d2] => { results := [.lit (.bool true)], args := [d1, d2] }
  | _ => none }
def partBareRow : OpenClaim := { program := "ytfkmallagficfaa", sum := "9d07d5c16404a39c56e3675411b25b090deb3b389bda4cfda8073a32bd57e4b5", func := "fanlight/fanlightlaw03.PartBare", spec := "partBare", apart := false }
def PartBareSaid : Prop := partBareRow.holds Try.pinned (OpenSpec.ofChange partBareSpec)

/-- ITS FALSE NEIGHBOUR: 'it returns false'. Refute it at one input. -/
def partBareWrong : ChangeSpec := { name := "partBare", fn := fun _ => fun
  | [d1, d2] => { results := [.lit (.bool false)], args := [d1, d2] }
  | _ => none }
def PartBareWrongFalsely : Prop := partBareRow.holds Try.pinned (OpenSpec.ofChange partBareWrong)

/-- 'fanlightlaw03.PartNests': WHATEVER THE INPUT: true; the input reads as it did. -/
def partNestsSpec : ChangeSpec := { name := "partNests", fn := fun _ => fun
  | [d1, d2] => { results := [.lit (.bool true)], args := [d1, d2] }
  | _ => none }
def partNestsRow : OpenClaim := { program := "ytfkmallagficfaa", sum := "9d07d5c16404a39c56e3675411b25b090deb3b389bda4cfda8073a32bd57e4b5", func := "fanlight/fanlightlaw03.PartNests", spec := "partNests", apart := false }
def PartNestsSaid : Prop := partNestsRow.holds Try.pinned (OpenSpec.ofChange partNestsSpec)

/-- ITS FALSE NEIGHBOUR: 'it returns false'. Refute it at one input. -/
def partNestsWrong : ChangeSpec := { name := "partNests", fn := fun _ => fun
  | [d1, d2] => { results := [.lit (.bool false)], args := [d1, d2] }
  | _ => none }
def PartNestsWrongFalsely : Prop := partNestsRow.holds Try.pinned (OpenSpec.ofChange partNestsWrong)

/-- 'fanlightlaw03.PartLays': WHATEVER THE INPUT: true; the input reads as it did. -/
def partLaysSpec : ChangeSpec := { name := "partLays", fn := fun _ => fun
  | [d] => { results := [.lit (.bool true)], args := [d] }
  | _ => none }
def partLaysRow : OpenClaim := { program := "ytfkmallagficfaa", sum := "9d07d5c16404a39c56e3675411b25b090deb3b389bda4cfda8073a32bd57e4b5", func := "fanlight/fanlightlaw03.PartLays", spec := "partLays", apart := false }
def PartLaysSaid : Prop := partLaysRow.holds Try.pinned (OpenSpec.ofChange partLaysSpec)

/-- ITS FALSE NEIGHBOUR: 'it returns false'. Refute it at one input. -/
def partLaysWrong : ChangeSpec := { name := "partLays", fn := fun _ => fun
  | [d] => { results := [.lit (.bool false)], args := [d] }
  | _ => none }
def PartLaysWrongFalsely : Prop := partLaysRow.holds Try.pinned (OpenSpec.ofChange partLaysWrong)

/- THE SECOND FORM. 'bulk': how many values and letters a reading holds, each counted each time it is reached (what is shared counts as often as it is met; a slice's spare places count too). A statement '..UptoSaid' is the law's where the arguments, and the package variables that the reading takes, are together of bulk at most 1048576: NARROWER than '..Said'. Prove '..Said' where nothing that the law and all that it calls make is longer than what came in: it says more and counts as full. Else prove '..UptoSaid'. A law counts once. -/
mutual
def uptoBulk {H : Type} : DataW H → Nat
  | .lit (.string bytes) => bytes.length + 1
  | .lit _ => 1
  | .nil => 1
  | .ptr d => uptoBulk d + 1
  | .slice elems spare => uptoBulkAll elems + uptoBulkAll spare + 1
  | .agg parts => uptoBulkAll parts + 1
  | .iface _ d => uptoBulk d + 1
  | .map entries => uptoBulkEntries entries + 1
  | .held _ => 1
def uptoBulkAll {H : Type} : List (DataW H) → Nat
  | [] => 0
  | d :: r => uptoBulk d + uptoBulkAll r
def uptoBulkEntries {H : Type} : List (Lit × DataW H) → Nat
  | [] => 0
  | x :: r => uptoBulkEntry x + uptoBulkEntries r
def uptoBulkEntry {H : Type} : Lit × DataW H → Nat
  | (.string bytes, d) => bytes.length + uptoBulk d + 1
  | (_, d) => uptoBulk d + 1
 end
def uptoSmall : (H : Type) → List (DataW H) → Bool := fun _ ds => decide (uptoBulkAll ds ≤ 1048576)
def OpenSpec.upto (s : _root_.Go.ChangeSpec) : _root_.Go.OpenSpec := { _root_.Go.OpenSpec.ofChange s with cond := some uptoSmall }

/-- 'fanlightlaw03.PartGets', WHERE WHAT IT READS IS OF BULK AT MOST 1048576: true; the input reads as it did. -/
def partGetsUptoRow : OpenClaim := { program := "ytfkmallagficfaa", sum := "9d07d5c16404a39c56e3675411b25b090deb3b389bda4cfda8073a32bd57e4b5", func := "fanlight/fanlightlaw03.PartGets", spec := "partGets", apart := false, narrowed := true }
def PartGetsUptoSaid : Prop := partGetsUptoRow.holds Try.pinned (OpenSpec.upto partGetsSpec)

/-- 'fanlightlaw03.PartRaw', WHERE WHAT IT READS IS OF BULK AT MOST 1048576: true; the input reads as it did. -/
def partRawUptoRow : OpenClaim := { program := "ytfkmallagficfaa", sum := "9d07d5c16404a39c56e3675411b25b090deb3b389bda4cfda8073a32bd57e4b5", func := "fanlight/fanlightlaw03.PartRaw", spec := "partRaw", apart := false, narrowed := true }
def PartRawUptoSaid : Prop := partRawUptoRow.holds Try.pinned (OpenSpec.upto partRawSpec)

/-- 'fanlightlaw03.PartBits', WHERE WHAT IT READS IS OF BULK AT MOST 1048576: true; the input reads as it did. -/
def partBitsUptoRow : OpenClaim := { program := "ytfkmallagficfaa", sum := "9d07d5c16404a39c56e3675411b25b090deb3b389bda4cfda8073a32bd57e4b5", func := "fanlight/fanlightlaw03.PartBits", spec := "partBits", apart := false, narrowed := true }
def PartBitsUptoSaid : Prop := partBitsUptoRow.holds Try.pinned (OpenSpec.upto partBitsSpec)

/-- 'fanlightlaw03.PartBare', WHERE WHAT IT READS IS OF BULK AT MOST 1048576: true; the input reads as it did. -/
def partBareUptoRow : OpenClaim := { program := "ytfkmallagficfaa", sum := "9d07d5c16404a39c56e3675411b25b090deb3b389bda4cfda8073a32bd57e4b5", func := "fanlight/fanlightlaw03.PartBare", spec := "partBare", apart := false, narrowed := true }
def PartBareUptoSaid : Prop := partBareUptoRow.holds Try.pinned (OpenSpec.upto partBareSpec)

/-- 'fanlightlaw03.PartNests', WHERE WHAT IT READS IS OF BULK AT MOST 1048576: true; the input reads as it did. -/
def partNestsUptoRow : OpenClaim := { program := "ytfkmallagficfaa", sum := "9d07d5c16404a39c56e3675411b25b090deb3b389bda4cfda8073a32bd57e4b5", func := "fanlight/fanlightlaw03.PartNests", spec := "partNests", apart := false, narrowed := true }
def PartNestsUptoSaid : Prop := partNestsUptoRow.holds Try.pinned (OpenSpec.upto partNestsSpec)

/-- 'fanlightlaw03.PartLays', WHERE WHAT IT READS IS OF BULK AT MOST 1048576: true; the input reads as it did. -/
def partLaysUptoRow : OpenClaim := { program := "ytfkmallagficfaa", sum := "9d07d5c16404a39c56e3675411b25b090deb3b389bda4cfda8073a32bd57e4b5", func := "fanlight/fanlightlaw03.PartLays", spec := "partLays", apart := false, narrowed := true }
def PartLaysUptoSaid : Prop := partLaysUptoRow.holds Try.pinned (OpenSpec.upto partLaysSpec)

end Rows
end Go.Proofs.Ytfkmallagficfaa
