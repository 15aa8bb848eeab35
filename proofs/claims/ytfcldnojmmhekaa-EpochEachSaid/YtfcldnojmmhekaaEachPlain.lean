/- Each thing is told once, in order: plain. -/
import Derived.Test.YtfcldnojmmhekaaEpoch11
namespace Go.Proofs.Ytfcldnojmmhekaa
set_option linter.unusedVariables false
set_option linter.unusedSimpArgs false
open Go.RowKit
structure EachK (E : Nat) (l : List Th) (gv td : Nat) : Prop where
  len : td + l.length = gv
  what : ∀ (j : Nat) x, l[j]? = some x → x.what = ((td + j : Nat) : Int)
  sort : l.Pairwise (fun x y => x.when ≤ y.when)
  when : ∀ x ∈ l, 0 ≤ x.when ∧ x.when ≤ E
theorem each_new (E : Nat) : EachK E [] 0 0 := ⟨rfl, by simp, List.Pairwise.nil, by simp⟩
theorem EachK.later {E E' : Nat} {l : List Th} {gv td : Nat} (k : EachK E l gv td) (h : E ≤ E') : EachK E' l gv td := ⟨k.len, k.what, k.sort, fun x hx => ⟨(k.when x hx).1, by have := (k.when x hx).2; omega⟩⟩
theorem EachK.give {E : Nat} {l : List Th} {gv td : Nat} (k : EachK E l gv td) : EachK E (l ++ [⟨gv, E⟩]) (gv + 1) td := by
  have hl := k.len
  refine ⟨by simp; omega, fun j x hj => ?_, ?_, fun x hx => ?_⟩
  · rcases Nat.lt_or_ge j l.length with h | h
    · rw [List.getElem?_append_left h] at hj; exact k.what j x hj
    · rw [List.getElem?_append_right h] at hj
      cases hjj : j - l.length with
      | zero =>
        rw [hjj] at hj
        simp only [List.getElem?_cons_zero, Option.some.injEq] at hj
        subst hj
        show (gv : Int) = _
        congr 1; omega
      | succ q => rw [hjj] at hj; simp at hj
  · rw [List.pairwise_append]
    refine ⟨k.sort, List.pairwise_singleton _ _, fun x hx y hy => ?_⟩
    simp only [List.mem_singleton] at hy
    subst hy
    exact (k.when x hx).2
  · rcases List.mem_append.1 hx with h | h
    · exact k.when x h
    · simp only [List.mem_singleton] at h
      subst h
      exact ⟨by simp, by simp⟩
theorem take_sorted (now : Int) : ∀ (l : List Th), l.Pairwise (fun x y => x.when ≤ y.when) → ∃ p, p ≤ l.length ∧ takes now l = (l.take p).map Th.what ∧ leaves now l = l.drop p
  | [], _ => ⟨0, by simp, rfl, rfl⟩
  | x :: l, h => by
      rw [List.pairwise_cons] at h
      by_cases hr : x.when + 2 ≤ now
      · obtain ⟨p, h1, h2, h3⟩ := take_sorted now l h.2
        refine ⟨p + 1, by simp; omega, ?_, ?_⟩
        · unfold takes at h2 ⊢
          rw [List.filter_cons_of_pos (by simp [Th.ripe, hr]), List.map_cons, h2, List.take_succ_cons, List.map_cons]
        · unfold leaves at h3 ⊢
          rw [List.filter_cons_of_neg (by simp [Th.ripe, hr]), h3, List.drop_succ_cons]
      · have hall : ∀ y ∈ x :: l, Th.ripe now y = false := fun y hy => by
          rcases List.mem_cons.1 hy with rfl | hy
          · simp [Th.ripe]; omega
          · have := h.1 y hy; simp [Th.ripe]; omega
        refine ⟨0, by simp, ?_, ?_⟩
        · unfold takes
          rw [List.filter_eq_nil_iff.2 (fun y hy => by rw [hall y hy]; simp)]; rfl
        · unfold leaves
          rw [List.filter_eq_self.2 (fun y hy => by rw [hall y hy]; rfl)]; rfl
theorem EachK.take {E : Nat} {l : List Th} {gv td : Nat} (k : EachK E l gv td) : ∃ p, p ≤ l.length ∧ takes E l = (List.range p).map (fun j => ((td + j : Nat) : Int)) ∧ EachK E (leaves E l) gv (td + p) := by
  obtain ⟨p, h1, h2, h3⟩ := take_sorted E l k.sort
  have hl := k.len
  refine ⟨p, h1, ?_, ?_⟩
  · rw [h2]
    apply List.ext_getElem?
    intro j
    simp only [List.getElem?_map, List.getElem?_take, List.getElem?_range']
    by_cases hj : j < p
    · have hjl : j < l.length := by omega
      have := k.what j _ (List.getElem?_eq_getElem hjl)
      simp [hj, List.getElem?_eq_getElem hjl, this]
    · simp [hj]
  · rw [h3]
    refine ⟨by rw [List.length_drop]; omega, fun j x hj => ?_, k.sort.sublist (List.drop_sublist _ _), fun x hx => k.when x (List.mem_of_mem_drop hx)⟩
    rw [List.getElem?_drop] at hj
    rw [k.what _ x hj]
    congr 1; omega
theorem EachK.given {E : Nat} {l : List Th} {gv td : Nat} (k : EachK E l gv td) {j : Nat} (hj : j < l.length) : (l.map Th.what).getD j 0 = ((td + j : Nat) : Int) := by
  have := k.what j _ (List.getElem?_eq_getElem hj)
  rw [List.getD_eq_getElem?_getD, List.getElem?_map, List.getElem?_eq_getElem hj]
  exact this
theorem EachK.rng {E : Nat} {l : List Th} {gv td : Nat} (k : EachK E l gv td) (hg : gv ≤ 1000) : ∀ x ∈ l, inr .u64 x.what := fun x hx => by
  obtain ⟨j, hj, he⟩ := List.getElem_of_mem hx
  have hl := k.len
  have := k.what j x (by rw [List.getElem?_eq_getElem hj, he])
  exact u64_inr (by omega)
end Go.Proofs.Ytfcldnojmmhekaa
