/- Maps from int to int that a call makes, told as functions. -/
import Derived.Test.YtgfjdnbejmmckaaProg
import Derived.Test.YtgfjdnbejmmckaaHeap
import Derived.Maps.OwnOps
import Derived.Maps.OwnSet
import Derived.Maps.Views
namespace Go.Proofs.Ytgfjdnbejmmckaa
set_option linter.unusedVariables false
set_option linter.unusedSimpArgs false
open Go.RowKit Go.Maps
theorem kint : Keyed Try.prog 3 := int_keyed Try.underlying3
theorem zeroInt (w : World) : (zeroValue 3).run Try.prog w = .ok (.int .i64 0) w := by kernel_rfl
/-- block b is a map that tells F, of at most n entries -/
def MapI (w : World) (b n : Nat) (F : Int → Int) : Prop :=
  ∃ D : DataW Unit, w.ownsMap Try.prog 3 (plainElem Try.prog 3) b n D ∧ IsMap D ∧ ∀ k, inr .i64 k → D.atKey (.int .i64 k) (.lit (.int .i64 0)) = .lit (.int .i64 (F k))
section
variable {w w' : World} {b n : Nat} {F : Int → Int}
theorem MapI.lt (h : MapI w b n F) : b < w.heap.size := by obtain ⟨D, h1, _⟩ := h; exact h1.lt
theorem MapI.made (w : World) : MapI (w.alloc (.map #[] 0)) w.heap.size 0 (fun _ => 0) :=
  ⟨.map [], World.ownsMap_made w _ _ _, isMap_empty, fun k _ => rfl⟩
theorem MapI.keep (h : MapI w b n F) (hb : w'.heap[b]? = w.heap[b]?) : MapI w' b n F := by
  obtain ⟨D, ⟨es, clock, h1, F1, hs, hD⟩, h2, h3⟩ := h
  exact ⟨D, ⟨es, clock, hb.trans h1, F1, hs, hD⟩, h2, h3⟩
theorem MapI.bel (h : MapI w b n F) (hb : Below w.heap.size w w') : MapI w' b n F := h.keep (hb.block b h.lt)
theorem MapI.upd {S : Nat → Prop} (h : MapI w b n F) (hu : Upd S w w') (hS : ¬ S b) : MapI w' b n F := h.keep (hu.block b h.lt hS)
theorem MapI.alloc (h : MapI w b n F) (o : Obj) : MapI (w.alloc o) b n F := h.bel (bel_alloc w o)
theorem MapI.drew (h : MapI w b n F) : MapI w.drew b n F := h
theorem MapI.mono (h : MapI w b n F) {m : Nat} (hm : n ≤ m) : MapI w b m F := by
  obtain ⟨D, h1, h2⟩ := h
  exact ⟨D, h1.mono hm, h2⟩
end
section
variable {ops : Array Oper} {rest : List Oper} {o : Oper} {a : Act} {Q : Exit → Act → World → Prop}
theorem wpList_mapPut (w : World) (hg : o.guard = none) (m x v : Operand) (hop : o.op = Op.mapUpdate 76 m x v ∨ o.op = Op.insert 76 m x v) (b n : Nat) (F : Int → Int) (hm : a.eval m = .map (some b)) (hown : MapI w b n F) (hn : n < 1000000) (key val : Int)
    (hx : a.eval x = .int .i64 key) (hv : a.eval v = .int .i64 val) (h1 : inr .i64 key) (h2 : inr .i64 val)
    (hK : ∀ w', MapI w' b (n + 1) (fun k => if k = key then val else F k) → Upd (fun k => k = b) w w' → wpList Try.prog ops Q rest (a.put o.dst undef) w') : wpList Try.prog ops Q (o :: rest) a w := by
  obtain ⟨D, hD, hM, hF⟩ := hown
  have hk : keyOf Try.prog 3 (.int .i64 key) = some (.int .i64 key) := keyOf_int_mk Try.underlying3 h1
  refine wpList_plain hg fun K' hK' => ?_
  obtain ⟨w', hrun, hw, hgr⟩ := hD.update kint Try.underlying76 (by unfold maxLen; omega) hk (plainElem_int (H := Unit) Try.underlying3 h2)
  have hend : MapI w' b (n + 1) (fun k => if k = key then val else F k) := by
    refine ⟨_, hw, hM.put _ _, fun k hk2 => ?_⟩
    show _ = DataW.lit (.int .i64 (if k = key then val else F k))
    by_cases e : k = key
    · subst e
      rw [if_pos rfl]
      exact atKey_put_same hM (by trivial) _ _
    · rw [if_neg e, ← hF k hk2]
      exact atKey_put_other (by simpa using e) _ _
  have hup : Upd (fun k => k = b) w w' := Upd.of_grown hgr (fun g e => by injection e with e; exact e.symm)
  unfold Oper.wp
  rcases hop with hop | hop
  · simp [execOp, hop, hm, hx, hv, hrun, Result.andThen]
    exact hK' _ _ (hK w' hend hup)
  · simp [execOp, hop, hm, hx, hv, hrun, Result.andThen]
    exact hK' _ _ (hK w' hend hup)
theorem MapI.look {w : World} {b n : Nat} {F : Int → Int} (hown : MapI w b n F) {key : Int} (h1 : inr .i64 key) : (Instr.lookup 76 (.map (some b)) (.int .i64 key) false).run Try.prog w = .ok (.int .i64 (F key)) w := by
  obtain ⟨D, hD, hM, hF⟩ := hown
  have hk : keyOf Try.prog 3 (.int .i64 key) = some (.int .i64 key) := keyOf_int_mk Try.underlying3 h1
  obtain ⟨c, hrun, hat, hwc⟩ := hD.lookup_int kint Try.underlying76 Try.underlying3 (zeroInt w) hk
  rw [hF key h1] at hat
  injection hat with hat
  injection hat with _ hat
  rw [hat]; exact hrun
theorem wpList_mapGet (w : World) (hg : o.guard = none) (m x : Operand) (hop : o.op = Op.lookup 76 m x false) (b n : Nat) (F : Int → Int) (hm : a.eval m = .map (some b)) (hown : MapI w b n F) (key : Int) (hx : a.eval x = .int .i64 key) (h1 : inr .i64 key)
    (hK : wpList Try.prog ops Q rest (a.put o.dst (.int .i64 (F key))) w) : wpList Try.prog ops Q (o :: rest) a w := by
  refine wpList_plain hg fun K' hK' => ?_
  have hrun := hown.look h1
  unfold Oper.wp
  simp [execOp, hop, hm, hx, hrun, Result.andThen]
  exact hK' _ _ hK
end
end Go.Proofs.Ytgfjdnbejmmckaa
