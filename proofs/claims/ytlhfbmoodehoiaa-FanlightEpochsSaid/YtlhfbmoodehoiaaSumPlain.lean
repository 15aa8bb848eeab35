/- The sum of bytes, plain. -/
import Derived.Test.YtlhfbmoodehoiaaBase
namespace Go.Proofs.Ytlhfbmoodehoiaa
set_option linter.unusedVariables false
set_option linter.unusedSimpArgs false
/-- the sum of 16-bit words; the flag says whether the next byte is a high one -/
def sb : Bool → List Int → Int
  | _, [] => 0
  | true, x :: l => x * 256 + sb false l
  | false, x :: l => x + sb true l
theorem sb_snoc (l : List Int) (x : Int) : ∀ h, sb h (l ++ [x]) = sb h l + (if (l.length % 2 = 0) = (h = true) then x * 256 else x) := by
  induction l with
  | nil => intro h; cases h <;> simp [sb]
  | cons y l ih =>
    intro h
    cases h
    · simp only [List.cons_append, sb, ih, List.length_cons]; rcases Nat.mod_two_eq_zero_or_one l.length with e | e <;> simp [Nat.add_mod, e] <;> omega
    · simp only [List.cons_append, sb, ih, List.length_cons]; rcases Nat.mod_two_eq_zero_or_one l.length with e | e <;> simp [Nat.add_mod, e] <;> omega
theorem sb_bd (l : List Int) (hl : ∀ x, x ∈ l → 0 ≤ x ∧ x ≤ 255) : ∀ h, 0 ≤ sb h l ∧ sb h l ≤ l.length * 65280 := by
  induction l with
  | nil => intro h; simp [sb]
  | cons y l ih =>
    intro h
    have hy := hl y (by simp)
    have i1 := ih (fun x hx => hl x (by simp [hx]))
    have i2 := i1 true
    have i3 := i1 false
    cases h <;> simp only [sb, List.length_cons] <;> omega
theorem sb_take (l : List Int) (i : Nat) (hi : i < l.length) : sb true (l.take (i + 1)) = sb true (l.take i) + l.getD i 0 * (if i % 2 = 0 then 256 else 1) := by
  rw [List.take_succ_eq_append_getElem hi, sb_snoc, List.length_take_of_le (by omega), List.getD_eq_getElem?_getD, List.getElem?_eq_getElem hi]
  rcases Nat.mod_two_eq_zero_or_one i with e | e <;> simp [e]
theorem sb_take2 (l : List Int) (i : Nat) (hi : i + 1 < l.length) (he : i % 2 = 0) : sb true (l.take (i + 2)) = sb true (l.take i) + (l.getD i 0 * 256 + l.getD (i + 1) 0) := by
  rw [sb_take l (i + 1) hi, sb_take l i (by omega), if_pos he, if_neg (by omega)]; omega
theorem sb_app (a b : List Int) (h : a.length % 2 = 0) : sb true (a ++ b) = sb true a + sb true b := by
  suffices ∀ n (a : List Int), a.length = 2 * n → sb true (a ++ b) = sb true a + sb true b from this (a.length / 2) a (by omega)
  intro n
  induction n with
  | zero => intro a ha; have : a = [] := List.length_eq_zero_iff.mp (by omega); subst this; simp [sb]
  | succ n ih =>
    intro a ha
    match a, ha with
    | x :: y :: r, ha => simp only [List.cons_append, sb]; rw [ih r (by simp at ha; omega)]; omega
theorem more_two (n : Int) (L : List Int) (k : Nat) (h0 : 0 ≤ n) (hk : k ≤ L.length) (he : k % 2 = 0) (hL : ∀ x, x ∈ L → 0 ≤ x ∧ x ≤ 255) :
    fo (fo (n + sb true (L.take k)) + sb true (L.drop k)) = fo (n + sb true L) := by
  have h1 := sb_bd (L.take k) (fun x hx => hL x (List.mem_of_mem_take hx)) true
  have h2 := sb_bd (L.drop k) (fun x hx => hL x (List.mem_of_mem_drop hx)) true
  rw [fo_add _ _ (by omega) (by omega), Int.add_assoc, ← sb_app _ _ (by rw [List.length_take_of_le hk]; exact he), List.take_append_drop]
/-- the checksum of bytes -/
def sumOf (l : List Int) : Int := 65535 - fo (sb true l)
def fixOf (s o n : Int) : Int := 65535 - fo (65535 - s + (65535 - o) + n)
theorem fixOf_bd {s o n : Int} (hs : 0 ≤ s ∧ s ≤ 65535) (ho : 0 ≤ o ∧ o ≤ 65535) (hn : 0 ≤ n ∧ n ≤ 65535) : 0 ≤ fixOf s o n ∧ fixOf s o n ≤ 65535 := by
  have := fo_bd (n := 65535 - s + (65535 - o) + n) (by omega); unfold fixOf; omega
end Go.Proofs.Ytlhfbmoodehoiaa
