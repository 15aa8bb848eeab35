/- One bit turned: the sum of closed bytes is no longer nought. -/
import Derived.Test.YtlhfbmoodehoiaaSumPlain2
import Derived.Test.YtlhfbmoodehoiaaMem
namespace Go.Proofs.Ytlhfbmoodehoiaa
set_option linter.unusedVariables false
set_option linter.unusedSimpArgs false
open Go.RowKit
/-- one bit of a byte turned -/
def flip (x m : Nat) : Nat := if x / 2 ^ m % 2 = 1 then x - 2 ^ m else x + 2 ^ m
theorem xor_bit : ∀ x : Fin 256, ∀ m : Fin 8, x.val ^^^ 2 ^ m.val = flip x.val m.val := by decide +kernel
theorem flip_bd : ∀ x : Fin 256, ∀ m : Fin 8, flip x.val m.val < 256 := by decide +kernel
theorem sb_set (l : List Int) (j : Nat) (x : Int) (hj : j < l.length) : ∀ h, sb h (l.set j x) = sb h l + (x - l.getD j 0) * (if (j % 2 = 0) = (h = true) then 256 else 1) := by
  induction l generalizing j with
  | nil => simp at hj
  | cons y l ih =>
    intro h
    cases j with
    | zero => cases h <;> simp [sb] <;> omega
    | succ j =>
      have := ih j (by simpa using hj)
      cases h
      · simp only [List.set_cons_succ, sb, this true, List.getD_cons_succ]; rcases Nat.mod_two_eq_zero_or_one j with e | e <;> simp [Nat.add_mod, e] <;> omega
      · simp only [List.set_cons_succ, sb, this false, List.getD_cons_succ]; rcases Nat.mod_two_eq_zero_or_one j with e | e <;> simp [Nat.add_mod, e] <;> omega
theorem sum_closed (a : List Int) (he : a.length % 2 = 0) (h : 0 ≤ sb true a) : ∃ q : Int, 0 < q ∧ sb true (a ++ [sumOf a / 256, sumOf a % 256]) = 65535 * q := by
  rw [sb_word a _ _ he]
  have h1 : sumOf a / 256 * 256 + sumOf a % 256 = sumOf a := by omega
  rw [h1]
  unfold sumOf
  generalize sb true a = A at *
  by_cases h0 : A = 0
  · subst h0; exact ⟨1, by omega, by decide⟩
  · have : fo A = (A - 1) % 65535 + 1 := by unfold fo; rw [if_neg h0]
    rw [this]; exact ⟨(A - 1) / 65535 + 1, by omega, by omega⟩
theorem sumOf_null (l : List Int) (q : Int) (hq : 0 < q) (h : sb true l = 65535 * q) : sumOf l = 0 := by
  unfold sumOf fo; rw [h, if_neg (by omega)]; omega
theorem sumOf_not (l : List Int) (q d : Int) (h0 : 0 ≤ sb true l) (h : sb true l = 65535 * q + d) (hd : d % 65535 ≠ 0) : sumOf l ≠ 0 := by
  unfold sumOf fo; rw [h] at h0 ⊢; split <;> omega
theorem flip_sum (l : List Int) (q : Int) (j m : Nat) (hj : j < l.length) (hm : m < 8) (hl : ∀ x, x ∈ l → 0 ≤ x ∧ x ≤ 255) (h : sb true l = 65535 * q) :
    sumOf (l.set j (flip (l.getD j 0).toNat m : Nat)) ≠ 0 := by
  have hx := hl (l.getD j 0) (by rw [List.getD_eq_getElem?_getD, List.getElem?_eq_getElem hj]; exact List.getElem_mem _)
  have hs := sb_set l j (flip (l.getD j 0).toNat m : Nat) hj true
  have h0 : 0 ≤ sb true (l.set j (flip (l.getD j 0).toNat m : Nat)) := (sb_bd _ (fun y hy => by
    rcases List.mem_or_eq_of_mem_set hy with h | h
    · exact hl y h
    · have := flip_bd ⟨(l.getD j 0).toNat, by omega⟩ ⟨m, hm⟩; simp only at this; omega) true).1
  refine sumOf_not _ q _ h0 (by rw [hs, h]) ?_
  obtain ⟨x, hxe⟩ : ∃ x : Nat, l.getD j 0 = x := ⟨(l.getD j 0).toNat, by omega⟩
  rw [hxe]
  have hd : ((flip (x : Int).toNat m : Nat) : Int) - x = 2 ^ m ∨ ((flip (x : Int).toNat m : Nat) : Int) - x = - 2 ^ m := by
    rw [Int.toNat_natCast]
    unfold flip
    split
    · rename_i h1
      have : 2 ^ m ≤ x := by
        rcases Nat.lt_or_ge x (2 ^ m) with h2 | h2
        · rw [Nat.div_eq_of_lt h2] at h1; simp at h1
        · exact h2
      right; push_cast [this]; omega
    · left; push_cast; omega
  have hm' : m = 0 ∨ m = 1 ∨ m = 2 ∨ m = 3 ∨ m = 4 ∨ m = 5 ∨ m = 6 ∨ m = 7 := by omega
  have hp : (2 : Int) ^ m = 1 ∨ (2 : Int) ^ m = 2 ∨ (2 : Int) ^ m = 4 ∨ (2 : Int) ^ m = 8 ∨ (2 : Int) ^ m = 16 ∨ (2 : Int) ^ m = 32 ∨ (2 : Int) ^ m = 64 ∨ (2 : Int) ^ m = 128 := by
    rcases hm' with rfl | rfl | rfl | rfl | rfl | rfl | rfl | rfl <;> simp
  split <;> omega
theorem xor_u8 (x : Int) (m : Nat) (hx : 0 ≤ x ∧ x ≤ 255) (hm : m < 8) : bits .xor .u8 x (2 ^ m % 256) = (flip x.toNat m : Nat) := by
  have h1 : (2 : Int) ^ m % 256 = ((2 ^ m : Nat) : Int) := by
    have : m = 0 ∨ m = 1 ∨ m = 2 ∨ m = 3 ∨ m = 4 ∨ m = 5 ∨ m = 6 ∨ m = 7 := by omega
    rcases this with rfl | rfl | rfl | rfl | rfl | rfl | rfl | rfl <;> rfl
  have h2 : 2 ^ m < 256 := by
    have : 2 ^ m ≤ 2 ^ 7 := Nat.pow_le_pow_right (by omega) (by omega)
    omega
  rw [h1, u8_xor x _ (by omega) (by omega) (by omega) (by omega), Int.toNat_natCast]
  have := xor_bit ⟨x.toNat, by omega⟩ ⟨m, hm⟩
  simp only at this
  rw [this]
end Go.Proofs.Ytlhfbmoodehoiaa
