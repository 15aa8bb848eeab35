/- append to a fresh empty row: some slice; nothing that stood is turned. -/
import Derived.Test.YtjaacmecniijgaaMem
import Derived.Deep.Upon
namespace Go.Proofs.Ytjaacmecniijgaa
set_option linter.unusedVariables false
set_option linter.unusedSimpArgs false
open Go.RowKit
section
variable {P : Program}
theorem run_app0 (w : World) (t ty e : TypeId) (i : TypeInfo) (z : Value) (ht : P.underlying t = some (.slice e)) (hi : P.info? e = some i) (hz : i.zero = some z) (hsize : i.size = 1) (hby : i.bytes = 1) (g B : Nat) (A : Option Addr) (m c : Nat) (l2 : List Int) (hr : Rd .u8 w B A m l2) (hm : m ≤ 140737488355328) :
    ∃ A' n' c' w', (Builtin.append_ #[t, t] ty #[.slice (some ⟨g, 0, none⟩) 0 0, .slice A m c]).run P w = .ok (.slice A' n' c') w' ∧ Below w.heap.size w w' := by
  rcases Nat.eq_zero_or_pos m with h0 | h0
  · subst h0
    refine ⟨some ⟨g, 0, none⟩, 0, 0, w, ?_, Below.refl _ _⟩
    cases A <;> simp [Builtin.append_, run_underlying ht, sizeOf, typeInfo, hi, Builtin.lenOf, Builtin.firstCells, storeCells, loadCells, loadCellsFrom]
  · obtain ⟨b, o, rfl, hb, hc⟩ := hr.cel h0
    have hl := hr.len
    have h2 := run_append_grow (P := P) (w := w) t ty e i z ht hi hz ⟨g, 0, none⟩ 0 0 [] (by simp) (by simp) ⟨b, o, none⟩ m c (l2.map (Value.int .u8)) (by rw [List.length_map, hl, hsize]; omega) (fun j u hu => by
      have hj : j < l2.length := by
        have := List.getElem?_eq_some_iff.1 hu; obtain ⟨h, _⟩ := this; simpa using h
      have := hc j (by omega)
      rw [List.getElem?_map, List.getElem?_eq_getElem hj] at hu
      simp at hu
      subst hu
      rw [List.getD_eq_getElem?_getD, List.getElem?_eq_getElem hj] at this
      simp [Addr.add]
      split
      · rename_i h; subst h; simpa using this
      · simpa using this) (by omega) (by omega) (by rw [Nat.zero_add, nextslicecap_zero h0, hby]; omega)
    exact ⟨_, _, _, _, h2, ((Below.refl _ _).drew).alloc (Nat.le_refl _) _⟩
theorem wp_app0 {o : Oper} {a : Act} {K : Act → World → Prop} {Q : Exit → Act → World → Prop} (w : World) (s x : Operand) (t : TypeId)
    (ho : o.op = .call { callee := .builtin .append, args := #[s, x], argTypes := #[t, t] })
    (e : TypeId) (i : TypeInfo) (z : Value) (ht : P.underlying t = some (.slice e)) (hi : P.info? e = some i) (hz : i.zero = some z) (hsize : i.size = 1) (hby : i.bytes = 1) (g B : Nat) (A : Option Addr) (m c : Nat)
    (hsv : a.eval s = .slice (some ⟨g, 0, none⟩) 0 0) (hx : a.eval x = .slice A m c) (l2 : List Int) (hr : Rd .u8 w B A m l2) (hm : m ≤ 140737488355328)
    (h : ∀ A' n' c' w', Below w.heap.size w w' → K (a.put o.dst (.slice A' n' c')) w') : o.wp P a w K Q := by
  obtain ⟨A', n', c', w', hrun, h2⟩ := run_app0 (P := P) w t o.type e i z ht hi hz hsize hby g B A m c l2 hr hm
  unfold Oper.wp execOp
  simp only [ho, resolve, invoke, builtin, Sem.run_bind, Sem.run_pure, Result.andThen_ok, List.map_toArray, List.map_cons, List.map_nil, hsv, hx, hrun]
  exact h A' n' c' w' h2
end
end Go.Proofs.Ytjaacmecniijgaa
