/- A ring as a queue: plain. -/
import Derived.Test.YtpkcajnlcpmmcaaRing4
namespace Go.Proofs.Ytpkcajnlcpmmcaa
set_option linter.unusedVariables false
set_option linter.unusedSimpArgs false
open Go.RowKit
/-- the ring holds the numbers q; so many were got -/
structure QInv (r : Rg) (q : List Int) (got : Nat) : Prop where
  n1 : 1 ≤ r.n
  len : r.L.length = r.n + 2
  le : q.length ≤ r.n
  big : got + q.length ≤ 1000000
  g : r.got = got
  h : r.had = (got + q.length : Nat)
  c0 : celAt r.L 0 = got
  c1 : celAt r.L 1 = (got + q.length : Nat)
  at_ : ∀ j x, q[j]? = some x → celAt r.L (2 + ((got + j : Nat) : Int) % r.n) = x
theorem wrap_nat (a : Nat) (h : a ≤ 2000000) : IntKind.u64.wrap (a : Int) = a := by rw [IntKind.wrap_u64]; omega
theorem wrap_sub' (a b : Nat) (h : a ≤ 2000000) (hb : b ≤ a) : IntKind.u64.wrap ((a : Int) - b) = ((a - b : Nat) : Int) := by rw [IntKind.wrap_u64]; omega
theorem celAt_set_ne (l : List Int) (i j v : Int) (h : i ≠ j) : celAt (celSet l i v) j = celAt l j := by
  unfold celSet celAt
  split
  · rw [List.length_set]
    split
    · rename_i h1 h2
      rw [List.getD_eq_getElem?_getD, List.getD_eq_getElem?_getD, List.getElem?_set_ne (by omega)]
    · rfl
  · rfl
theorem celAt_set_self (l : List Int) (i v : Int) (h : 0 ≤ i ∧ i < l.length) : celAt (celSet l i v) i = v := by
  unfold celSet celAt
  rw [if_pos h, List.length_set, if_pos h, List.getD_eq_getElem?_getD, List.getElem?_set_self (by omega)]
  rfl
theorem mod_ne {n a b : Nat} (hab : a < b) (hb : b < a + n) : (a : Int) % n ≠ (b : Int) % n := by
  intro h
  have h2 : a % n = b % n := by exact_mod_cast h
  have ha := Nat.div_add_mod a n
  have hb' := Nat.div_add_mod b n
  rw [h2] at ha
  rcases Nat.lt_or_ge (a / n) (b / n) with hlt | hge
  · have := Nat.mul_le_mul_left n (show a / n + 1 ≤ b / n by omega)
    rw [Nat.mul_add, Nat.mul_one] at this
    omega
  · have := Nat.mul_le_mul_left n hge
    omega
theorem slot_rng {r : Rg} {q : List Int} {got : Nat} (h : QInv r q got) (k : Nat) : 2 ≤ 2 + (k : Int) % r.n ∧ 2 + (k : Int) % r.n < r.L.length := by
  have h1 := h.n1
  have h2 := h.len
  have h3 := Int.emod_nonneg (k : Int) (show (r.n : Int) ≠ 0 by omega)
  have h4 := Int.emod_lt_of_pos (k : Int) (show (0 : Int) < r.n by omega)
  omega
theorem put_full {r : Rg} {q : List Int} {got : Nat} (h : QInv r q got) (v : Int) (hf : q.length = r.n) : Rg.runF 3 r ⟨false, 0, v, 11, false⟩ = (r, ⟨false, 1, v, 9, true⟩) := by
  have hb := h.big
  have hw : IntKind.u64.wrap (r.had - celAt r.L 0) = r.n := by
    rw [h.h, h.c0, wrap_sub' _ _ (by omega) (by omega)]; omega
  have hd : r.does ⟨false, 0, v, 11, false⟩ = (r, ⟨false, 1, v, 9, true⟩) := by
    simp [Rg.does, Rg.puts, Stp.up, hw]
  unfold Rg.runF
  rw [hd, if_pos rfl]
theorem put_fits {r : Rg} {q : List Int} {got : Nat} (h : QInv r q got) (v : Int) (hf : q.length < r.n) (hb : got + q.length + 1 ≤ 1000000) :
    ∃ r', Rg.runF 3 r ⟨false, 0, v, 11, false⟩ = (r', ⟨false, 3, v, 0, true⟩) ∧ QInv r' (q ++ [v]) got ∧ r'.n = r.n := by
  have hw : IntKind.u64.wrap (r.had - celAt r.L 0) ≠ r.n := by
    rw [h.h, h.c0, wrap_sub' _ _ (by omega) (by omega)]; omega
  have hw2 : IntKind.u64.wrap (r.had + 1) = ((got + q.length + 1 : Nat) : Int) := by
    rw [h.h, show ((got + q.length : Nat) : Int) + 1 = ((got + q.length + 1 : Nat) : Int) by omega, wrap_nat _ (by omega)]
  have hd : r.does ⟨false, 0, v, 11, false⟩ = (r, ⟨false, 1, v, 11, false⟩) := by
    simp [Rg.does, Rg.puts, Stp.up, hw]
  have hd2 : r.does ⟨false, 1, v, 11, false⟩ = (⟨r.n, r.had, r.got, celSet r.L (r.slot r.had) v⟩, ⟨false, 2, v, 11, false⟩) := by
    simp [Rg.does, Rg.puts, Stp.up]
  have hd3 : (⟨r.n, r.had, r.got, celSet r.L (r.slot r.had) v⟩ : Rg).does ⟨false, 2, v, 11, false⟩ = (⟨r.n, ((got + q.length + 1 : Nat) : Int), r.got, celSet (celSet r.L (r.slot r.had) v) 1 ((got + q.length + 1 : Nat) : Int)⟩, ⟨false, 3, v, 0, true⟩) := by
    simp only [Rg.does, Rg.puts, Stp.up, hw2]
    rfl
  refine ⟨⟨r.n, ((got + q.length + 1 : Nat) : Int), r.got, celSet (celSet r.L (r.slot r.had) v) 1 ((got + q.length + 1 : Nat) : Int)⟩, ?_, ?_, rfl⟩
  · unfold Rg.runF
    rw [hd]
    simp only [Bool.false_eq_true, if_false]
    unfold Rg.runF
    rw [hd2]
    simp only [Bool.false_eq_true, if_false]
    unfold Rg.runF
    rw [hd3]
    rfl
  · have hs := slot_rng h (got + q.length)
    have hsl : r.slot r.had = 2 + ((got + q.length : Nat) : Int) % r.n := by unfold Rg.slot; rw [h.h]
    refine ⟨h.n1, by simp only [celSet_length]; exact h.len, by simp; omega, by simp; omega, h.g, by simp; omega, ?_, ?_, fun j x hj => ?_⟩
    · simp only
      rw [celAt_set_ne _ _ _ _ (by omega), celAt_set_ne _ _ _ _ (by omega), h.c0]
    · simp only
      rw [celAt_set_self _ _ _ ⟨by omega, by rw [celSet_length, h.len]; omega⟩]; simp; omega
    · simp only
      have hsj := slot_rng h (got + j)
      rw [celAt_set_ne _ _ _ _ (by omega), hsl]
      rcases Nat.lt_or_ge j q.length with hlt | hge
      · rw [List.getElem?_append_left hlt] at hj
        have hne := mod_ne (n := r.n) (a := got + j) (b := got + q.length) (by omega) (by omega)
        rw [celAt_set_ne _ _ _ _ (by omega)]
        exact h.at_ j x hj
      · rw [List.getElem?_append_right hge] at hj
        have hj0 : j = q.length := by
          cases hz : j - q.length with
          | zero => omega
          | succ z => rw [hz] at hj; simp at hj
        subst hj0
        simp at hj
        subst hj
        exact celAt_set_self _ _ _ ⟨by omega, hs.2⟩
theorem get_none {r : Rg} {got : Nat} (h : QInv r [] got) : Rg.runF 3 r ⟨true, 0, 0, 11, false⟩ = (r, ⟨true, 1, 0, 7, true⟩) := by
  have hw : celAt r.L 1 = r.got := by rw [h.c1, h.g]; simp
  have hd : r.does ⟨true, 0, 0, 11, false⟩ = (r, ⟨true, 1, 0, 7, true⟩) := by
    simp [Rg.does, Rg.gets, Stp.up, hw]
  unfold Rg.runF
  rw [hd, if_pos rfl]
theorem get_one {r : Rg} {x : Int} {q : List Int} {got : Nat} (h : QInv r (x :: q) got) :
    ∃ r', Rg.runF 3 r ⟨true, 0, 0, 11, false⟩ = (r', ⟨true, 3, x, 0, true⟩) ∧ QInv r' q (got + 1) ∧ r'.n = r.n := by
  have hb := h.big
  have hle := h.le
  simp only [List.length_cons] at hb hle
  have hw : celAt r.L 1 ≠ r.got := by rw [h.c1, h.g]; simp; omega
  have hw2 : IntKind.u64.wrap (r.got + 1) = ((got + 1 : Nat) : Int) := by
    rw [h.g, show (got : Int) + 1 = ((got + 1 : Nat) : Int) by omega, wrap_nat _ (by omega)]
  have hx : celAt r.L (r.slot r.got) = x := by
    unfold Rg.slot
    rw [h.g]
    exact h.at_ 0 x rfl
  have hd : r.does ⟨true, 0, 0, 11, false⟩ = (r, ⟨true, 1, 0, 11, false⟩) := by
    simp [Rg.does, Rg.gets, Stp.up, hw]
  have hd2 : r.does ⟨true, 1, 0, 11, false⟩ = (r, ⟨true, 2, x, 11, false⟩) := by
    simp [Rg.does, Rg.gets, Stp.up, hx]
  have hd3 : r.does ⟨true, 2, x, 11, false⟩ = (⟨r.n, r.had, ((got + 1 : Nat) : Int), celSet r.L 0 ((got + 1 : Nat) : Int)⟩, ⟨true, 3, x, 0, true⟩) := by
    simp only [Rg.does, Rg.gets, Stp.up, hw2]
    rfl
  refine ⟨⟨r.n, r.had, ((got + 1 : Nat) : Int), celSet r.L 0 ((got + 1 : Nat) : Int)⟩, ?_, ?_, rfl⟩
  · unfold Rg.runF
    rw [hd]
    simp only [Bool.false_eq_true, if_false]
    unfold Rg.runF
    rw [hd2]
    simp only [Bool.false_eq_true, if_false]
    unfold Rg.runF
    rw [hd3]
    rfl
  · refine ⟨h.n1, by simp only [celSet_length]; exact h.len, by simp only; omega, by omega, rfl, by rw [h.h]; simp; omega, ?_, ?_, fun j y hj => ?_⟩
    · simp only
      rw [celAt_set_self _ _ _ ⟨by omega, by rw [h.len]; omega⟩]
    · simp only
      rw [celAt_set_ne _ _ _ _ (by omega), h.c1]; simp; omega
    · simp only
      have hsj := slot_rng h (got + 1 + j)
      rw [celAt_set_ne _ _ _ _ (by omega)]
      have := h.at_ (j + 1) y (by simpa using hj)
      rw [show got + 1 + j = got + (j + 1) by omega]
      exact this
theorem q_new (n : Nat) (h1 : 1 ≤ n) : QInv ⟨n, 0, 0, List.replicate (n + 2) 0⟩ [] 0 := by
  refine ⟨h1, by simp, by simp, by simp, rfl, rfl, ?_, ?_, by simp⟩
  · simp [celAt, List.getD_eq_getElem?_getD, List.getElem?_replicate]
  · simp [celAt, List.getD_eq_getElem?_getD, List.getElem?_replicate]
end Go.Proofs.Ytpkcajnlcpmmcaa
