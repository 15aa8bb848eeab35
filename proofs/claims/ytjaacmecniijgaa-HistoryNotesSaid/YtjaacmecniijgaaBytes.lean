/- Bytes that are appended to a row of the call's own. -/
import Derived.Test.YtjaacmecniijgaaQuiet
import Derived.Test.YtjaacmecniijgaaHeap
import Derived.Test.YtjaacmecniijgaaProg
namespace Go.Proofs.Ytjaacmecniijgaa
set_option linter.unusedVariables false
set_option linter.unusedSimpArgs false
open Go.RowKit
/-- the row v of w has become v', which holds l: nothing else that was there has turned -/
structure App (w w' : World) (base : Nat) (v v' : Value) (l : List Int) : Prop where
  own : Own .u8 5 w' base v' l
  upd : Upd (fun k => v.ownBlock = some k) w w'
  blk : ∀ g, v'.ownBlock = some g → v.ownBlock = some g ∨ w.heap.size ≤ g
section
variable {w w1 w2 : World} {base : Nat} {v v1 v2 : Value} {l l1 l2 : List Int}
theorem App.refl (h : Own .u8 5 w base v l) : App w w base v v l := ⟨h, Upd.refl _ _, fun _ h => .inl h⟩
theorem App.trans (h : App w w1 base v v1 l1) (k : App w1 w2 base v1 v2 l2) : App w w2 base v v2 l2 := by
  refine ⟨k.own, ⟨k.upd.os.trans h.upd.os, k.upd.tape.trans h.upd.tape, k.upd.output.trans h.upd.output, Nat.le_trans h.upd.size k.upd.size, fun i hi hS => ?_⟩, fun g hg => ?_⟩
  · refine (k.upd.block i (Nat.lt_of_lt_of_le hi h.upd.size) fun e => ?_).trans (h.upd.block i hi hS)
    rcases h.blk i e with h1 | h1
    · exact hS h1
    · omega
  · rcases k.blk g hg with h1 | h1
    · exact h.blk g h1
    · exact .inr (Nat.le_trans h.upd.size h1)
theorem App.alloc (h : App w w1 base v v1 l) (o : Obj) : App w (w1.alloc o) base v v1 l := ⟨h.own.alloc o, h.upd.alloc o, h.blk⟩
theorem App.drewN (h : App w w1 base v v1 l) (n : Nat) : App w (w1.drewN n) base v v1 l := ⟨h.own.drewN n, h.upd.drewN n, h.blk⟩
theorem App.drew (h : App w w1 base v v1 l) : App w w1.drew base v v1 l := ⟨h.own.drew, h.upd.drew, h.blk⟩
/-- one append -/
theorem App.app (h : App w w1 base v v1 l) (own : Own .u8 5 w2 base v2 l2) (hg : w1.grownBy w2 v1.ownBlock) (hb : v2.ownBlock = v1.ownBlock ∨ v2.ownBlock = some w1.heap.size) : App w w2 base v v2 l2 := by
  refine h.trans ⟨own, Upd.of_grown hg fun g hg => hg, fun g hg' => ?_⟩
  rcases hb with hb | hb
  · left; rw [← hb]; exact hg'
  · right; rw [hb] at hg'; injection hg' with e; omega
theorem Own.notBlk {kd : IntKind} {e t : TypeId} {g : Nat} {cs : Array Value} (ho : Own kd e w base v l) (hb : Blk w g t cs) (hne : e ≠ t) : v.ownBlock ≠ some g := by
  intro hv
  rcases ho.row.2 with ⟨rfl, _⟩ | ⟨g', cap, cur, rfl, _, hh, _⟩
  · simp [Value.ownBlock] at hv
  · have : g' = g := by simpa [Value.ownBlock] using hv
    exact Blk.ne_ (cs := cur) hh hb hne this
theorem App.keep {t : TypeId} {g : Nat} {cs : Array Value} (h : App w w1 base v v1 l) (ho : v.ownBlock ≠ some g) (hb : Blk w g t cs) : Blk w1 g t cs := hb.upd h.upd ho
theorem App.below (h : App w w1 base v v1 l) {B : Nat} (hB : B ≤ w.heap.size) (hv : ∀ g, v.ownBlock = some g → B ≤ g) : Below B w w1 := h.upd.below hB fun k hk e => by have := hv k e; omega
end
theorem info_u8_ : (Try.prog.info? 5).map (fun i => (i.zero, i.size, i.bytes)) = some (some (.int .u8 0), 1, 1) := by kernel_rfl
def be2 (n : Int) : List Int := [n / 256, n % 256]
def be4 (n : Int) : List Int := [n / 16777216, n / 65536 % 256, n / 256 % 256, n % 256]
theorem be2_bd (n : Int) (h : 0 ≤ n ∧ n ≤ 65535) : ∀ x, x ∈ be2 n → 0 ≤ x ∧ x ≤ 255 := by intro x hx; simp [be2] at hx; omega
theorem be4_bd (n : Int) (h : 0 ≤ n ∧ n ≤ 4294967295) : ∀ x, x ∈ be4 n → 0 ≤ x ∧ x ≤ 255 := by intro x hx; simp [be4] at hx; omega
/-- what an appending call leaves -/
def Puts (w : World) (base : Nat) (v : Value) (l : List Int) (e : Ending) (w' : World) : Prop := ∃ v', e = .returned v' ∧ App w w' base v v' l
end Go.Proofs.Ytjaacmecniijgaa
