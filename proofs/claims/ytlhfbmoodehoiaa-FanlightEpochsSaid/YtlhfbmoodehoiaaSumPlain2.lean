/- Plain facts on sums of words. -/
import Derived.Test.YtlhfbmoodehoiaaSumPlain
namespace Go.Proofs.Ytlhfbmoodehoiaa
set_option linter.unusedVariables false
set_option linter.unusedSimpArgs false
theorem sb_word (l : List Int) (h lo : Int) (he : l.length % 2 = 0) : sb true (l ++ [h, lo]) = sb true l + (h * 256 + lo) := by
  rw [sb_app _ _ he]; simp [sb]
theorem sb_nulls (l : List Int) (he : l.length % 2 = 0) : sb true (l ++ [0, 0, 0, 0]) = sb true l := by
  rw [sb_app _ _ he]; simp [sb]
/-- the sum of the first k words -/
def sw (l : List Int) (k : Nat) : Int := (l.take k).sum
theorem sw_succ (l : List Int) (k : Nat) (h : k < l.length) : sw l (k + 1) = sw l k + l.getD k 0 := by
  unfold sw; rw [List.take_succ_eq_append_getElem h, List.sum_append, List.getD_eq_getElem?_getD, List.getElem?_eq_getElem h]; simp
/-- turned by t -/
def rot (l : List Int) (t : Nat) : List Int := l.drop t ++ l.take t
theorem rot_length (l : List Int) (t : Nat) (h : t ≤ l.length) : (rot l t).length = l.length := by simp [rot]; omega
theorem rot_get (l : List Int) (t i ix : Nat) (ht : t < l.length) (hi : i < l.length) (hx : (i + t) % l.length = ix) : (rot l t).getD i 0 = l.getD ix 0 := by
  subst hx
  unfold rot
  rw [List.getD_eq_getElem?_getD, List.getD_eq_getElem?_getD]
  rcases Nat.lt_or_ge i (l.length - t) with h | h
  · rw [List.getElem?_append_left (by simp; omega), List.getElem?_drop, Nat.mod_eq_of_lt (by omega), Nat.add_comm]
  · rw [List.getElem?_append_right (by simp; omega), List.length_drop, List.getElem?_take, if_pos (by omega)]
    have : (i + t) % l.length = i - (l.length - t) := by
      rw [show i + t = (i - (l.length - t)) + l.length by omega, Nat.add_mod_right, Nat.mod_eq_of_lt (by omega)]
    rw [this]
theorem sw_rot (l : List Int) (t : Nat) (h : t ≤ l.length) : sw (rot l t) l.length = sw l l.length := by
  unfold sw
  rw [List.take_of_length_le (by rw [rot_length l t h]; omega), List.take_of_length_le (Nat.le_refl _)]
  unfold rot
  rw [List.sum_append, Int.add_comm, ← List.sum_append, List.take_append_drop]
/-- the two bytes of a word, changed about -/
def swp (w : Int) : Int := w % 256 * 256 + w / 256
theorem sumOf_swp (a b : List Int) (h1 : 0 ≤ sb true a) (h2 : 0 ≤ sb true b) (q : Int) (h : sb true b = 256 * sb true a - 65535 * q) (hz : sb true a = 0 → sb true b = 0) (hz2 : sb true b = 0 → sb true a = 0) : sumOf b = swp (sumOf a) := by
  unfold sumOf
  generalize sb true a = A at *
  generalize sb true b = B at *
  by_cases h0 : A = 0
  · have := hz h0; subst this; subst h0; decide
  · have hB : B ≠ 0 := fun e => h0 (hz2 e)
    have ea : fo A = (A - 1) % 65535 + 1 := by unfold fo; rw [if_neg h0]
    have eb : fo B = (B - 1) % 65535 + 1 := by unfold fo; rw [if_neg hB]
    rw [ea, eb]; unfold swp; omega
end Go.Proofs.Ytlhfbmoodehoiaa
