/- The walks of the reference of heads: Put, Fix; the laws' helpers to, From, heads. -/
import Derived.Test.YtlhfbmoodehoiaaHeadRef
import Derived.Test.YtlhfbmoodehoiaaHeadPut
namespace Go.Proofs.Ytlhfbmoodehoiaa
set_option linter.unusedVariables false
set_option linter.unusedSimpArgs false
open Go.RowKit
def rPutRes (w : World) (ttl proto src dst : Int) (l : List Int) (e : Ending) (w' : World) : Prop :=
  ∃ v', e = .returned (.tuple #[v', .bool true]) ∧ Own .u8 5 w' w.heap.size v' (putL ttl proto src dst l) ∧ Below w.heap.size w w'
theorem hd20_bd (ttl proto src dst n s : Int) (ht : 0 ≤ ttl ∧ ttl ≤ 255) (hp : 0 ≤ proto ∧ proto ≤ 255) (hs : 0 ≤ src ∧ src ≤ 4294967295) (hd : 0 ≤ dst ∧ dst ≤ 4294967295) (hn : 0 ≤ n ∧ n ≤ 65535) (hss : 0 ≤ s ∧ s ≤ 65535) : ∀ x, x ∈ hd20 ttl proto src dst n s → 0 ≤ x ∧ x ≤ 255 := by
  intro x hx
  simp only [hd20, List.mem_cons, List.not_mem_nil, or_false] at hx
  omega
end Go.Proofs.Ytlhfbmoodehoiaa
