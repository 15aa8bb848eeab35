/- Maps from uint64 to int that a call makes, told as functions. -/
import Derived.Test.YtlhfbmoodehoiaaProg
import Derived.Test.YtlhfbmoodehoiaaHeap
import Derived.Maps.OwnOps
import Derived.Maps.OwnSet
import Derived.Maps.Views
import Derived.WideKeyEntry
namespace Go.Proofs.Ytlhfbmoodehoiaa
set_option linter.unusedVariables false
set_option linter.unusedSimpArgs false
open Go.RowKit Go.Maps Go.ChangeMaps Go.MapKept Go.WideShapes Go.ChangeShapes
theorem kuint : Keyed Try.prog 23 := int_keyed Try.underlying23
theorem zeroInt (w : World) : (zeroValue 3).run Try.prog w = .ok (.int .i64 0) w := by kernel_rfl
/-- block b is a map that tells F, of at most n entries -/
def MapU (w : World) (b n : Nat) (F : Int → Int) : Prop :=
  ∃ D : DataW Unit, w.ownsMap Try.prog 23 (plainElem Try.prog 3) b n D ∧ IsMap D ∧ ∀ k, inr .u64 k → D.atKey (.int .u64 k) (.lit (.int .i64 0)) = .lit (.int .i64 (F k))
section
variable {w w' : World} {b n : Nat} {F : Int → Int}
theorem MapU.lt (h : MapU w b n F) : b < w.heap.size := by obtain ⟨D, h1, _⟩ := h; exact h1.lt
theorem MapU.made (w : World) : MapU (w.alloc (.map #[] 0)) w.heap.size 0 (fun _ => 0) :=
  ⟨.map [], World.ownsMap_made w _ _ _, isMap_empty, fun k _ => rfl⟩
theorem MapU.keep (h : MapU w b n F) (hb : w'.heap[b]? = w.heap[b]?) : MapU w' b n F := by
  obtain ⟨D, ⟨es, clock, h1, F1, hs, hD⟩, h2, h3⟩ := h
  exact ⟨D, ⟨es, clock, hb.trans h1, F1, hs, hD⟩, h2, h3⟩
theorem MapU.bel (h : MapU w b n F) (hb : Below w.heap.size w w') : MapU w' b n F := h.keep (hb.block b h.lt)
theorem MapU.upd {S : Nat → Prop} (h : MapU w b n F) (hu : Upd S w w') (hS : ¬ S b) : MapU w' b n F := h.keep (hu.block b h.lt hS)
theorem MapU.alloc (h : MapU w b n F) (o : Obj) : MapU (w.alloc o) b n F := h.bel (bel_alloc w o)
theorem MapU.drew (h : MapU w b n F) : MapU w.drew b n F := h
theorem MapU.mono (h : MapU w b n F) {m : Nat} (hm : n ≤ m) : MapU w b m F := by
  obtain ⟨D, h1, h2⟩ := h
  exact ⟨D, h1.mono hm, h2⟩
end
section
variable {ops : Array Oper} {rest : List Oper} {o : Oper} {a : Act} {Q : Exit → Act → World → Prop}
set_option maxRecDepth 100000 in
theorem wpList_mapPut (w : World) (hg : o.guard = none) (m x v : Operand) (hop : o.op = Op.mapUpdate 33 m x v ∨ o.op = Op.insert 33 m x v) (b n : Nat) (F : Int → Int) (hm : a.eval m = .map (some b)) (hown : MapU w b n F) (hn : n < 1000000) (key val : Int)
    (hx : a.eval x = .int .u64 key) (hv : a.eval v = .int .i64 val) (h1 : inr .u64 key) (h2 : inr .i64 val)
    (hK : ∀ w', MapU w' b (n + 1) (fun k => if k = key then val else F k) → Upd (fun k => k = b) w w' → wpList Try.prog ops Q rest (a.put o.dst undef) w') : wpList Try.prog ops Q (o :: rest) a w := by
  obtain ⟨D, hD, hM, hF⟩ := hown
  have hk : keyOf Try.prog 23 (.int .u64 key) = some (.int .u64 key) := keyOf_int_mk Try.underlying23 h1
  refine wpList_plain hg fun K' hK' => ?_
  obtain ⟨w', hrun, hw, hgr⟩ := hD.update kuint Try.underlying33 (by unfold maxLen; omega) hk (plainElem_int (H := Unit) Try.underlying3 h2)
  have hend : MapU w' b (n + 1) (fun k => if k = key then val else F k) := by
    refine ⟨_, hw, hM.put _ _, fun k hk2 => ?_⟩
    show _ = DataW.lit (.int .i64 (if k = key then val else F k))
    by_cases e : k = key
    · subst e
      rw [if_pos rfl]
      exact atKey_put_same hM (by trivial) _ _
    · rw [if_neg e, ← hF k hk2]
      exact atKey_put_other (by simpa using e) _ _
  have hup : Upd (fun k => k = b) w w' := Upd.of_grown hgr (fun g e => by injection e with e; exact e.symm)
  unfold Oper.wp
  rcases hop with hop | hop
  · simp [execOp, hop, hm, hx, hv, hrun, Result.andThen]
    exact hK' _ _ (hK w' hend hup)
  · simp [execOp, hop, hm, hx, hv, hrun, Result.andThen]
    exact hK' _ _ (hK w' hend hup)
set_option maxRecDepth 100000 in
theorem MapU.look {w : World} {b n : Nat} {F : Int → Int} (hown : MapU w b n F) {key : Int} (h1 : inr .u64 key) : (Instr.lookup 33 (.map (some b)) (.int .u64 key) false).run Try.prog w = .ok (.int .i64 (F key)) w := by
  obtain ⟨D, hD, hM, hF⟩ := hown
  have hk : keyOf Try.prog 23 (.int .u64 key) = some (.int .u64 key) := keyOf_int_mk Try.underlying23 h1
  obtain ⟨c, hrun, hat, hwc⟩ := hD.lookup_int kuint Try.underlying33 Try.underlying3 (zeroInt w) hk
  rw [hF key h1] at hat
  injection hat with hat
  injection hat with _ hat
  rw [hat]; exact hrun
/-- a map's block is no row -/
theorem MapU.ne_ {w : World} {b n x : Nat} {F : Int → Int} {t : TypeId} {cs : Array Value} (h : MapU w b n F) (k : Blk w x t cs) : x ≠ b := fun e => by
  obtain ⟨D, ⟨es, clock, h1, _⟩, _⟩ := h
  have h2 : w.heap[x]? = some (.cells cs t (0, 0)) := k
  rw [e, h1] at h2
  cases h2
set_option maxRecDepth 100000 in
/-- m[k] = v in an assignment of several: the entry, then its value -/
theorem MapU.entry {w : World} {b n : Nat} {F : Int → Int} (hown : MapU w b n F) (hn : n < 1000000) {key val : Int} (h1 : inr .u64 key) (h2 : inr .i64 val) :
    ∃ (v0 : Value) (st : Int) (w1 w2 : World), (Instr.mapEntry 33 (.map (some b)) (.int .u64 key)).run Try.prog w = .ok (.tuple #[v0, .int .i64 st]) w1 ∧ (Instr.entryStore 33 (.map (some b)) (.int .i64 st) (.int .i64 val)).run Try.prog w1 = .ok () w2 ∧
      MapU w2 b (n + 1) (fun k => if k = key then val else F k) ∧ Upd (fun k => k = b) w w2 := by
  have hO := hown
  obtain ⟨D, hD, hM, hF⟩ := hown
  have hk : keyOf Try.prog 23 (.int .u64 key) = some (.int .u64 key) := keyOf_int_mk Try.underlying23 h1
  obtain ⟨w2, hrun, hw, hgr⟩ := hD.update kuint Try.underlying33 (by unfold maxLen; omega) hk (plainElem_int (H := Unit) Try.underlying3 h2)
  obtain ⟨es, clock, hb, Fi, hs, hDe⟩ := hD
  have hz := zeroInt
  have ht := Try.underlying33
  have key2 : ∃ (v0 : Value) (st : Int) (w1 : World), (Instr.mapEntry 33 (.map (some b)) (.int .u64 key)).run Try.prog w = .ok (.tuple #[v0, .int .i64 st]) w1 ∧ (Instr.entryStore 33 (.map (some b)) (.int .i64 st) (.int .i64 val)).run Try.prog w1 = .ok () w2 := by
    obtain ⟨s1, s2, _⟩ := Fi.stamped
    rcases kuint.find w hk es.toList Fi.keys with ⟨h1, h2⟩ | ⟨j, e0, h1, h2, h3⟩
    · have hb1 : (setBlock w b (.map (es.push ⟨.int .u64 key, .int .i64 0, clock⟩) (clock + 1))).heap[b]? = some (.map (es.push ⟨.int .u64 key, .int .i64 0, clock⟩) (clock + 1)) := heap_setBlock_same hb _
      refine ⟨.int .i64 0, (clock : Int), setBlock w b (.map (es.push ⟨.int .u64 key, .int .i64 0, clock⟩) (clock + 1)), ?_, ?_⟩
      · simp [Instr.mapEntry, run_underlying ht, MapKept.run_getObj_map hb, kuint.check w false hk, h1, hz, MapKept.run_setObj_map _ hb, Result.andThen, setBlock, goInt]
      · simp [Instr.mapUpdate, run_underlying ht, MapKept.run_getObj_map hb, kuint.check w false hk, h1, MapKept.run_setObj_map _ hb, Result.andThen, setBlock] at hrun
        subst hrun
        have hidx : (es.push ⟨.int .u64 key, .int .i64 0, clock⟩).findIdx? (fun e => ((e.born : Nat) : Int) == ((clock : Nat) : Int)) = some es.size := by
          rw [WideElems.findIdx_arr]
          exact WideElems.findIdx_born (l := (es.push ⟨.int .u64 key, .int .i64 0, clock⟩).toList) (j := es.size) (e0 := ⟨.int .u64 key, .int .i64 0, clock⟩) (by
            simp only [Array.toList_push, List.map_append, List.map_cons, List.map_nil]
            refine List.nodup_append.2 ⟨s2, by simp, fun a ha c hc e1 => ?_⟩
            simp only [List.mem_singleton] at hc
            obtain ⟨x, hx, rfl⟩ := List.mem_map.1 ha
            have := s1 x hx
            omega) (by simp)
        have hmod : (es.push ⟨.int .u64 key, .int .i64 0, clock⟩).modify es.size (fun e => { e with val := .int .i64 val }) = es.push ⟨.int .u64 key, .int .i64 val, clock⟩ := by
          apply Array.ext'
          rw [Array.toList_modify, Array.toList_push, Array.toList_push, ← Array.length_toList, WideElems.modify_last]
        generalize hW1 : setBlock w b (.map (es.push ⟨.int .u64 key, .int .i64 0, clock⟩) (clock + 1)) = W1 at hb1 ⊢
        simp [Instr.entryStore, MapKept.run_getObj_map hb1, asInt, asIntOf, hidx, hmod, MapKept.run_setObj_map _ hb1, Result.andThen]
        subst hW1
        simp [setBlock]
    · have hj : es[j]? = some e0 := by simpa using h2
      have hsame : es.modify j (fun e => { e with key := .int .u64 key }) = es := by
        apply Array.ext'
        rw [Array.toList_modify, modify_eq_set _ _ _ _ h2, show ({ e0 with key := .int .u64 key } : MapEntry) = e0 by rw [← h3]]
        exact WideElems.set_self _ _ _ h2
      refine ⟨e0.val, (e0.born : Int), w, ?_, ?_⟩
      · simp [Instr.mapEntry, run_underlying ht, MapKept.run_getObj_map hb, kuint.check w false hk, h1, hj, h3, kuint.stays w hk, hsame, MapKept.run_setObj_map _ hb, Result.andThen, goInt]
        have : w.heap.setIfInBounds b (.map es clock) = w.heap := by
          apply Array.ext_getElem?
          intro i
          by_cases hi : i = b
          · subst hi; exact (heap_setBlock_same hb _).trans hb.symm
          · exact heap_setBlock_other hb _ hi
        rw [this]
      · simp [Instr.mapUpdate, run_underlying ht, MapKept.run_getObj_map hb, kuint.check w false hk, h1, hj, h3, kuint.stays w hk, MapKept.run_setObj_map _ hb, Result.andThen, setBlock] at hrun
        subst hrun
        have hidx : es.findIdx? (fun e => ((e.born : Nat) : Int) == ((e0.born : Nat) : Int)) = some j := by
          rw [WideElems.findIdx_arr]
          exact WideElems.findIdx_born s2 h2
        have hmod : es.modify j (fun e => { e with val := .int .i64 val }) = es.modify j (fun e' => { e' with key := .int .u64 key, val := .int .i64 val }) := by
          apply Array.ext'
          rw [Array.toList_modify, Array.toList_modify, modify_eq_set _ _ _ _ h2, modify_eq_set _ _ _ _ h2, ← h3]
        simp [Instr.entryStore, MapKept.run_getObj_map hb, asInt, asIntOf, hidx, hmod, MapKept.run_setObj_map _ hb, Result.andThen, setBlock]
  obtain ⟨v0, st, w1, e1, e2⟩ := key2
  refine ⟨v0, st, w1, w2, e1, e2, ?_⟩
  refine ⟨⟨_, hw, hM.put _ _, fun k hk2 => ?_⟩, Upd.of_grown hgr (fun g e => by injection e with e; exact e.symm)⟩
  show _ = DataW.lit (.int .i64 (if k = key then val else F k))
  by_cases e : k = key
  · subst e
    rw [if_pos rfl]
    exact atKey_put_same hM (by trivial) _ _
  · rw [if_neg e, ← hF k hk2]
    exact atKey_put_other (by simpa using e) _ _
theorem wpList_mapGet (w : World) (hg : o.guard = none) (m x : Operand) (hop : o.op = Op.lookup 33 m x false) (b n : Nat) (F : Int → Int) (hm : a.eval m = .map (some b)) (hown : MapU w b n F) (key : Int) (hx : a.eval x = .int .u64 key) (h1 : inr .u64 key)
    (hK : wpList Try.prog ops Q rest (a.put o.dst (.int .i64 (F key))) w) : wpList Try.prog ops Q (o :: rest) a w := by
  refine wpList_plain hg fun K' hK' => ?_
  have hrun := hown.look h1
  unfold Oper.wp
  simp [execOp, hop, hm, hx, hrun, Result.andThen]
  exact hK' _ _ hK
end
end Go.Proofs.Ytlhfbmoodehoiaa
