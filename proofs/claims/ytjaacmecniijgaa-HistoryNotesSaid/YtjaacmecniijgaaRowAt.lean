/- Structs in rows: loaded whole out of a row, a field stored. -/
import Derived.Test.YtjaacmecniijgaaRowT
import Derived.Test.YtjaacmecniijgaaRowW
namespace Go.Proofs.Ytjaacmecniijgaa
set_option linter.unusedVariables false
set_option linter.unusedSimpArgs false
open Go.RowKit
variable {α : Type} {P : Program}
theorem run_load_at {w : World} {g o : Nat} {ty : TypeId} {cs : List Value} (h : ∀ j u, cs[j]? = some u → w.cell? ⟨g, o + j, none⟩ = some u) {fs : Array Field} (hu : P.underlying ty = some (.struct fs)) (hi : (P.info? ty).map (·.size) = some cs.length) :
    (loadVar ty ⟨g, o, none⟩).run P w = .ok (.agg cs.toArray) w := by
  have hl : (loadCells ⟨g, o, none⟩ cs.length).run P w = .ok cs.toArray w :=
    run_loadCells_list (P := P) w ⟨g, o, none⟩ cs (fun j v hv => by
      have hadd : (⟨g, o, none⟩ : Addr).add j = ⟨g, o + j, none⟩ := by unfold Addr.add; split <;> simp_all
      rw [hadd]; exact h j v hv)
  cases hq : P.info? ty with
  | none => simp [hq] at hi
  | some i =>
    have hs : i.size = cs.length := by simpa [hq] using hi
    have hagg : (isAgg ty).run P w = .ok true w := by
      unfold isAgg
      rw [Sem.run_bind, run_underlying hu w]
      simp
    simp [loadVar, Sem.run_bind, hagg, sizeOf, typeInfo, hq, hs, hl]
theorem wpList_ldAt {ops : Array Oper} {Q : Exit → Act → World → Prop} {a : Act} {w : World} {rest : List Oper} {o : Oper} (hg : o.guard = none) {t : TypeId} {p : Operand} (ho : o.op = .load t p) {g i : Nat} (hp : a.eval p = .pointer (some ⟨g, i, none⟩)) {cs : List Value}
    (hc : ∀ j u, cs[j]? = some u → w.cell? ⟨g, i + j, none⟩ = some u) {fs : Array Field} (hu : P.underlying t = some (.struct fs)) (hi : (P.info? t).map (·.size) = some cs.length) (h : wpList P ops Q rest (a.put o.dst (.agg cs.toArray)) w) : wpList P ops Q (o :: rest) a w := by
  refine wpList_plain hg fun K hK => ?_
  have hr : (execOp a.eval o).run P w = .ok (.value (.agg cs.toArray)) w := by
    have h2 := run_load_at (P := P) hc hu hi
    simp only [execOp, ho, hp, Instr.loadAt, Instr.sureAddr, Sem.run_bind, Sem.run_pure, Result.andThen, h2]
  unfold Oper.wp
  rw [hr, Oper.upon_value]
  exact hK _ _ h
theorem quiet_ldAt {o : Oper} {a : Act} {C : World → Prop} {K : Act → Prop} {t : TypeId} {p : Operand} (ho : o.op = .load t p) {g i : Nat} (hp : a.eval p = .pointer (some ⟨g, i, none⟩)) {cs : List Value} (h : ∀ w, C w → ∀ j u, cs[j]? = some u → w.cell? ⟨g, i + j, none⟩ = some u) {fs : Array Field} (hu : P.underlying t = some (.struct fs)) (hi : (P.info? t).map (·.size) = some cs.length)
    (hk : K (a.put o.dst (.agg cs.toArray))) : o.quiet P a C K :=
  quiet_run _ (fun w hw => by
    have h2 := run_load_at (P := P) (h w hw) hu hi
    simp only [execOp, ho, hp, Instr.loadAt, Instr.sureAddr, Sem.run_bind, Sem.run_pure, Result.andThen, h2]) hk
theorem flat_set {cs : α → List Value} {sz : Nat} (hs : ∀ x, (cs x).length = sz) : ∀ (l : List α) (j f : Nat) (x x' : α) (u : Value), l[j]? = some x → f < sz → cs x' = (cs x).set f u → (l.set j x').flatMap cs = (l.flatMap cs).set (j * sz + f) u
  | [], j, f, x, x', u, h, _, _ => by simp at h
  | y :: l, 0, f, x, x', u, h, hf, hx => by
      simp only [List.getElem?_cons_zero, Option.some.injEq] at h
      subst h
      rw [List.set_cons_zero, List.flatMap_cons, List.flatMap_cons, hx, Nat.zero_mul, Nat.zero_add, List.set_append_left _ _ (by rw [hs]; omega)]
  | y :: l, j + 1, f, x, x', u, h, hf, hx => by
      simp only [List.getElem?_cons_succ] at h
      rw [List.set_cons_succ, List.flatMap_cons, List.flatMap_cons, flat_set hs l j f x x' u h hf hx, List.set_append_right _ _ (by rw [hs, Nat.add_mul]; omega), hs]
      congr 2
      rw [Nat.add_mul]; omega
theorem OwnT.setF {cs : α → List Value} {sz : Nat} (hs : ∀ x, (cs x).length = sz) {e : TypeId} {w : World} {base g n c : Nat} {l : List α} (h : OwnT cs sz e w base (.slice (some ⟨g, 0, none⟩) n c) l) (hn : l.length = n) {j : Nat} {x x' : α} (hj : l[j]? = some x) {f : Nat} {u : Value} (hf : f < sz) (hx : cs x' = (cs x).set f u) :
    OwnT cs sz e (w.setCell ⟨g, j * sz + f, none⟩ u) base (.slice (some ⟨g, 0, none⟩) n c) (l.set j x') := by
  subst hn
  refine ⟨?_⟩
  rw [List.length_set, flat_set hs l j f x x' u hj hf hx]
  exact (h.row.stored (j * sz + f) u).1
theorem OwnT.frozen {cs : α → List Value} {sz : Nat} {e : TypeId} {w : World} {base g n c : Nat} {l : List α} (h : OwnT cs sz e w base (.slice (some ⟨g, 0, none⟩) n c) l) (hn : l.length = n) (i : Nat) : w.frozen? ⟨g, i, none⟩ = false := by
  subst hn
  exact h.row.frozenAt i
end Go.Proofs.Ytjaacmecniijgaa
