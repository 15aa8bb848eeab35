/- The document's side of package part: word, wide, few, Pseudo. -/
import Derived.Test.YtpmidpoehgchgaaPart9
import Derived.Test.YtpmidpoehgchgaaHeadRef2
namespace Go.Proofs.Ytpmidpoehgchgaa
set_option linter.unusedVariables false
set_option linter.unusedSimpArgs false
open Go.RowKit
theorem App.new_ (w : World) (base : Nat) (l : List Int) (hr : ∀ x, x ∈ l → inr .u8 x) (cs : Array Value) (hcs : cs = (l.map (Value.int .u8)).toArray) (n : Nat) (hn : n = l.length) (h0 : n ≤ 100000) (hb : base ≤ w.heap.size) :
    App w (w.alloc (.cells cs 5)) base (.slice none 0 0) (.slice (some ⟨w.heap.size, 0, none⟩) n n) l :=
  ⟨Own.new .u8 w 5 base hb l hr cs hcs n hn (by unfold maxLen; omega), (Upd.refl _ _).alloc _, fun g hg => by right; simp [Value.ownBlock] at hg; omega⟩
theorem be2_inr {n : Int} (h : 0 ≤ n ∧ n ≤ 65535) : ∀ x, x ∈ be2 n → inr .u8 x := fun x hx => u8_inr (be2_bd n h x hx)
theorem be4_inr {n : Int} (h : 0 ≤ n ∧ n ≤ 4294967295) : ∀ x, x ∈ be4 n → inr .u8 x := fun x hx => u8_inr (be4_bd n h x hx)
end Go.Proofs.Ytpmidpoehgchgaa
