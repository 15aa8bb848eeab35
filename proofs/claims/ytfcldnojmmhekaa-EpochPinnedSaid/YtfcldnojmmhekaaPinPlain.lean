/- A worker stays pinned while others go on: plain. -/
import Derived.Test.YtfcldnojmmhekaaEpoch11
namespace Go.Proofs.Ytfcldnojmmhekaa
set_option linter.unusedVariables false
set_option linter.unusedSimpArgs false
open Go.RowKit
theorem celAt_nat (L : List Int) (j : Nat) : celAt L (j : Int) = L.getD j 0 := by
  unfold celAt
  split
  · rw [Int.toNat_natCast]
  · rw [List.getD_eq_getElem?_getD, List.getElem?_eq_none (by omega)]; rfl
theorem celSet_nat (L : List Int) (j : Nat) (v : Int) : celSet L (j : Int) v = L.set j v := by
  unfold celSet
  split
  · rw [Int.toNat_natCast]
  · rw [List.set_eq_of_length_le (by omega)]
theorem getD_set_ne_ (L : List Int) {i j : Nat} (v : Int) (h : j ≠ i) : (L.set j v).getD i 0 = L.getD i 0 := by rw [List.getD_eq_getElem?_getD, List.getElem?_set_ne h, List.getD_eq_getElem?_getD]
theorem getD_set_self_ (L : List Int) {i : Nat} (v : Int) (h : i < L.length) : (L.set i v).getD i 0 = v := by rw [List.getD_eq_getElem?_getD, List.getElem?_set_self h]; rfl
theorem celAt_set_ne (L : List Int) {i j : Nat} (v : Int) (h : j ≠ i) : celAt (celSet L j v) i = celAt L i := by rw [celSet_nat, celAt_nat, celAt_nat, getD_set_ne_ _ _ h]
theorem celAt_set_self (L : List Int) {i : Nat} (v : Int) (h : i < L.length) : celAt (celSet L i v) i = v := by rw [celSet_nat, celAt_nat, getD_set_self_ _ _ h]
structure PinI (n E E' : Nat) (L : List Int) : Prop where
  len : L.length = n + 1
  now : celAt L 0 = (E' : Int)
  pin : celAt L 1 = (E : Int) + 1
  lo : E ≤ E'
  hi : E' ≤ E + 1
structure PinS (n E k : Nat) (s : Es) : Prop where
  p : s.adv = false → s.worker = k ∧ s.pos ≤ 2
  a : s.adv = true → s.pos ≤ n + 1 ∧ (1 ≤ s.pos → 0 ≤ s.seen ∧ s.seen ≤ E + 1) ∧ (2 ≤ s.pos → s.seen = E)
  d : s.done = false
theorem pins_adv (n E k : Nat) : PinS n E k ⟨0, true, 0, 0, false, false⟩ := ⟨fun h => (by cases h), fun _ => ⟨Nat.zero_le _, fun h => absurd h (by decide), fun h => absurd h (by decide)⟩, rfl⟩
theorem pins_pin (n E k : Nat) : PinS n E k ⟨k, false, 0, 0, false, false⟩ := ⟨fun _ => ⟨rfl, Nat.zero_le _⟩, fun h => (by cases h), rfl⟩
theorem PinI.setk {n E E' : Nat} {L : List Int} (i : PinI n E E' L) (k : Nat) (v : Int) (h1 : 1 ≤ k) : PinI n E E' (celSet L (1 + (k : Int)) v) := by
  rw [show (1 + (k : Int)) = ((1 + k : Nat) : Int) by omega]
  refine ⟨by rw [celSet_length]; exact i.len, ?_, ?_, i.lo, i.hi⟩
  · have := celAt_set_ne L (i := 0) (j := 1 + k) v (by omega)
    rw [show ((0 : Nat) : Int) = 0 from rfl] at this
    rw [this]; exact i.now
  · have := celAt_set_ne L (i := 1) (j := 1 + k) v (by omega)
    rw [show ((1 : Nat) : Int) = 1 from rfl] at this
    rw [this]; exact i.pin
theorem PinI.does {n E E' k : Nat} {L : List Int} {s : Es} (i : PinI n E E' L) (p : PinS n E k s) (h1 : 1 ≤ k) (hE : E ≤ 1000) :
    ∃ s' L' E1, s.does n L = (s', L') ∧ PinI n E E1 L' ∧ (s'.done = false → PinS n E k s') := by
  have hlo := i.lo
  have hhi := i.hi
  have hd := p.d
  obtain ⟨wk, adv, pos, seen, dn, won⟩ := s
  simp only at hd
  subst hd
  unfold Es.does
  cases adv with
  | false =>
    obtain ⟨hw, hp⟩ := p.p rfl
    simp only at hw hp
    subst hw
    simp only [Bool.false_eq_true, if_false]
    unfold Es.pins
    simp only
    by_cases h0 : pos = 0
    · rw [if_pos h0]
      exact ⟨_, _, E', rfl, i, fun _ => ⟨fun _ => ⟨rfl, by show 1 ≤ 2; omega⟩, fun h => (by cases h), rfl⟩⟩
    · rw [if_neg h0]
      by_cases h2 : pos = 1
      · rw [if_pos h2]
        exact ⟨_, _, E', rfl, i.setk k _ h1, fun _ => ⟨fun _ => ⟨rfl, Nat.le_refl _⟩, fun h => (by cases h), rfl⟩⟩
      · rw [if_neg h2]
        exact ⟨_, _, E', rfl, i, fun hd => ⟨fun _ => ⟨rfl, Nat.zero_le _⟩, fun h => (by cases h), hd⟩⟩
  | true =>
    obtain ⟨hp, h3, h4⟩ := p.a rfl
    simp only at hp h3 h4
    simp only [if_true]
    unfold Es.advs
    simp only
    by_cases h0 : pos = 0
    · rw [if_pos h0]
      exact ⟨_, _, E', rfl, i, fun _ => ⟨fun h => (by cases h), fun _ => ⟨by show 1 ≤ n + 1; omega, fun _ => by show 0 ≤ celAt L 0 ∧ celAt L 0 ≤ _; rw [i.now]; omega, fun h => absurd h (by show ¬ 2 ≤ 1; omega)⟩, rfl⟩⟩
    · rw [if_neg h0]
      have h3 := h3 (by omega)
      by_cases hn : pos ≤ n
      · rw [if_pos hn]
        refine ⟨_, _, E', rfl, i, fun hd => ⟨fun h => (by cases h), fun _ => ⟨by show pos + 1 ≤ n + 1; omega, fun _ => h3, fun _ => ?_⟩, hd⟩⟩
        show seen = (E : Int)
        by_cases h1p : pos = 1
        · subst h1p
          simp only [decide_eq_false_iff_not] at hd
          rw [show (((1 : Nat)) : Int) = 1 from rfl, i.pin, IntKind.wrap_u64] at hd
          omega
        · exact h4 (by omega)
      · rw [if_neg hn]
        by_cases hc : celAt L 0 = seen
        · rw [if_pos hc]
          have h4 : 2 ≤ pos → seen = E := h4
          have hlen := i.len
          by_cases hn0 : 2 ≤ pos
          · have hs := h4 hn0
            have hw : IntKind.u64.wrap (seen + 1) = ((E + 1 : Nat) : Int) := by rw [IntKind.wrap_u64]; omega
            refine ⟨_, _, E + 1, rfl, ⟨by rw [celSet_length]; exact i.len, ?_, ?_, by omega, by omega⟩, fun hd => (by cases hd)⟩
            · have := celAt_set_self L (i := 0) (IntKind.u64.wrap (seen + 1)) (by omega)
              rw [show ((0 : Nat) : Int) = 0 from rfl] at this
              rw [this, hw]
            · have := celAt_set_ne L (i := 1) (j := 0) (IntKind.u64.wrap (seen + 1)) (by omega)
              rw [show ((0 : Nat) : Int) = 0 from rfl, show ((1 : Nat) : Int) = 1 from rfl] at this
              rw [this]; exact i.pin
          · have : n = 0 := by omega
            subst this
            have h5 := i.pin
            unfold celAt at h5
            rw [if_neg (by rw [hlen]; omega)] at h5
            omega
        · rw [if_neg hc]
          exact ⟨_, _, E', rfl, i, fun hd => (by cases hd)⟩
theorem idle_of {n E : Nat} {L : List Int} (h : L.length = n + 1) (h0 : celAt L 0 = (E : Int)) (hz : ∀ j, 1 ≤ j → j ≤ n → celAt L (j : Int) = 0) : L = idleL n E := by
  apply List.ext_getElem?
  intro j
  by_cases hj : j < n + 1
  · have e1 := celAt_nat L j
    rw [List.getD_eq_getElem?_getD, List.getElem?_eq_getElem (by omega)] at e1
    have e2 := celAt_nat (idleL n E) j
    have hl : (idleL n (E : Int)).length = n + 1 := by simp [idleL]
    rw [List.getD_eq_getElem?_getD, List.getElem?_eq_getElem (by omega)] at e2
    rw [List.getElem?_eq_getElem (by omega), List.getElem?_eq_getElem (by omega)]
    simp only [Option.getD_some] at e1 e2
    rw [← e1, ← e2]
    by_cases h1 : j = 0
    · subst h1
      rw [show ((0 : Nat) : Int) = 0 from rfl, h0, idle_at0]
    · rw [hz j (by omega) (by omega), idle_at n E j (by omega)]
  · rw [List.getElem?_eq_none (by omega), List.getElem?_eq_none (by simp [idleL]; omega)]
end Go.Proofs.Ytfcldnojmmhekaa
