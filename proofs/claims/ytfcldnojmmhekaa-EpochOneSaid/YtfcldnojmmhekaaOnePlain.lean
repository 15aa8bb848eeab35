/- Advances that go on at one time, from one epoch: plain. -/
import Derived.Test.YtfcldnojmmhekaaEpoch11
namespace Go.Proofs.Ytfcldnojmmhekaa
set_option linter.unusedVariables false
set_option linter.unusedSimpArgs false
open Go.RowKit
def isWon : Option (Nat × Es) → Bool
  | none => false
  | some p => p.2.won
structure OneS (n E : Nat) (s : Es) : Prop where
  adv : s.adv = true
  seen : s.seen = 0
  p1 : 1 ≤ s.pos
  p2 : s.pos ≤ n + 2
  op : s.done = false → s.pos ≤ n + 1 ∧ s.won = false
  dn : s.done = true → E = 1
structure One (n E i : Nat) (ps : List (Option (Nat × Es))) : Prop where
  len : ps.length = n
  e1 : E ≤ 1
  full : ∀ j, j < i → ∃ sb s, ps[j]? = some (some (sb, s))
  rest : ∀ j, i ≤ j → j < n → ps[j]? = some none
  st : ∀ (j : Nat) sb s, ps[j]? = some (some (sb, s)) → OneS n E s
  cnt : ps.countP isWon = E
theorem one_new (n : Nat) : One n 0 0 (List.replicate n none) :=
  ⟨by simp, by omega, fun j h => by omega, fun j _ h => by simp [h], fun j sb s h => (by have := (List.mem_replicate.1 (List.mem_of_getElem? h)).2; cases this), by simp [List.countP_replicate, isWon]⟩
theorem getD_of {α : Type} {l : List α} {i : Nat} {x : α} (h : l[i]? = some x) : ∃ hl : i < l.length, l[i] = x := List.getElem?_eq_some_iff.1 h
theorem one_add {n i : Nat} {ps : List (Option (Nat × Es))} (k : One n 0 i ps) (hi : i < n) (sb : Nat) : One n 0 (i + 1) (ps.set i (some (sb, advS 0 1))) := by
  have hr := k.rest i (Nat.le_refl _) hi
  refine ⟨by rw [List.length_set]; exact k.len, by omega, fun j hj => ?_, fun j hj hn => ?_, fun j b s h => ?_, ?_⟩
  · by_cases hji : j = i
    · subst hji; exact ⟨_, _, List.getElem?_set_self (by rw [k.len]; exact hi)⟩
    · rw [List.getElem?_set_ne (Ne.symm hji)]; exact k.full j (by omega)
  · rw [List.getElem?_set_ne (by omega)]; exact k.rest j (by omega) hn
  · by_cases hji : j = i
    · subst hji
      rw [List.getElem?_set_self (by rw [k.len]; exact hi)] at h
      simp only [Option.some.injEq, Prod.mk.injEq] at h
      rw [← h.2]
      exact ⟨rfl, rfl, by simp [advS], by simp [advS], fun _ => ⟨by simp [advS], rfl⟩, fun h => (by cases h)⟩
    · rw [List.getElem?_set_ne (Ne.symm hji)] at h; exact k.st j b s h
  · obtain ⟨hl, he⟩ := getD_of hr
    rw [List.countP_set hl, he, k.cnt]
    simp [isWon, advS]
theorem one_do {n E : Nat} {s : Es} (k : OneS n E s) (hd : s.done = false) (hE : E ≤ 1) :
    ∃ (s' : Es) (E' : Nat), s.does n (idleL n E) = (s', idleL n E') ∧ OneS n E' s' ∧ E' ≤ 1 ∧ E ≤ E' ∧ (if s'.won then 1 else 0) + E = E' ∧ s'.pos = s.pos + 1 ∧ (s'.done = true ↔ s.pos = n + 1) := by
  obtain ⟨hp, hw⟩ := k.op hd
  have p1 := k.p1
  unfold Es.does
  rw [if_pos k.adv]
  unfold Es.advs
  rw [if_neg (by omega)]
  by_cases hn : s.pos ≤ n
  · rw [if_pos hn, idle_at n E s.pos p1]
    refine ⟨_, E, rfl, ⟨k.adv, k.seen, by simp, by simp; omega, fun _ => ⟨by simp; omega, hw⟩, fun h => by simp at h⟩, hE, Nat.le_refl _, by simp [hw], rfl, ?_⟩
    simp; omega
  · rw [if_neg hn, idle_at0, k.seen]
    have hpos : s.pos = n + 1 := by omega
    by_cases h0 : E = 0
    · subst h0
      rw [if_pos (by rfl)]
      have : celSet (idleL n ((0 : Nat) : Int)) 0 (IntKind.u64.wrap (0 + 1)) = idleL n ((1 : Nat) : Int) := idle_set n _ _
      rw [this]
      exact ⟨_, 1, rfl, ⟨k.adv, rfl, by simp, by simp; omega, fun h => (by cases h), fun _ => rfl⟩, by omega, by omega, by simp, rfl, by simp [hpos]⟩
    · obtain rfl : E = 1 := by omega
      rw [if_neg (by simp)]
      exact ⟨_, 1, rfl, ⟨k.adv, rfl, by simp, by simp; omega, fun h => (by cases h), fun _ => rfl⟩, by omega, by omega, by simp, rfl, by simp [hpos]⟩
theorem One.put {n E E' i j : Nat} {ps : List (Option (Nat × Es))} (k : One n E i ps) {sb : Nat} {s s' : Es} (hj : ps[j]? = some (some (sb, s))) (hw : s.won = false) (hs : OneS n E' s') (h1 : E' ≤ 1) (h2 : E ≤ E') (hc : (if s'.won then 1 else 0) + E = E') : One n E' i (ps.set j (some (sb, s'))) := by
  obtain ⟨hl, he⟩ := getD_of hj
  refine ⟨by rw [List.length_set]; exact k.len, h1, fun l hl => ?_, fun l hli hn => ?_, fun l b t h => ?_, ?_⟩
  · by_cases hlj : l = j
    · subst hlj; exact ⟨_, _, List.getElem?_set_self (by assumption)⟩
    · rw [List.getElem?_set_ne (Ne.symm hlj)]; exact k.full l hl
  · have hlj : l ≠ j := fun e => by subst e; rw [k.rest l hli hn] at hj; cases hj
    rw [List.getElem?_set_ne (Ne.symm hlj)]; exact k.rest l hli hn
  · by_cases hlj : l = j
    · subst hlj
      rw [List.getElem?_set_self hl] at h
      simp only [Option.some.injEq, Prod.mk.injEq] at h
      rw [← h.2]; exact hs
    · rw [List.getElem?_set_ne (Ne.symm hlj)] at h
      have q := k.st l b t h
      exact ⟨q.adv, q.seen, q.p1, q.p2, q.op, fun hd => by have := q.dn hd; omega⟩
  · rw [List.countP_set hl, he, k.cnt]
    have e1 : isWon (some (sb, s)) = false := hw
    have e2 : isWon (some (sb, s')) = s'.won := rfl
    by_cases hw' : s'.won = true <;> simp [hw', e1, e2] at hc ⊢ <;> omega
/-- how many of the first won -/
theorem won_take {n E i : Nat} {ps : List (Option (Nat × Es))} (_ : One n E i ps) {j : Nat} {sb : Nat} {s : Es} (hj : ps[j]? = some (some (sb, s))) : (ps.take (j + 1)).countP isWon = (ps.take j).countP isWon + (if s.won then 1 else 0) := by
  rw [List.take_add_one, hj, List.countP_append]
  cases hw : s.won <;> simp [isWon, List.countP_cons, hw]
end Go.Proofs.Ytfcldnojmmhekaa
