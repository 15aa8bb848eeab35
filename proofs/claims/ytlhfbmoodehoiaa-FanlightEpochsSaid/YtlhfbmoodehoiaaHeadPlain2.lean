/- Heads of packets: what is told of heads that are laid, cut, bent. -/
import Derived.Test.YtlhfbmoodehoiaaHeadPlain
import Derived.Test.YtlhfbmoodehoiaaSumFlip
namespace Go.Proofs.Ytlhfbmoodehoiaa
set_option linter.unusedVariables false
set_option linter.unusedSimpArgs false
open Go.RowKit
section
variable (t p s d n S : Int) (r : List Int)
theorem hd_len : (hd20 t p s d n S ++ r).length = 20 + r.length := by simp [hd20]; omega
theorem hd_0 : (hd20 t p s d n S ++ r).getD 0 0 = 69 := rfl
theorem hd_n2 : n2 (hd20 t p s d n S ++ r) 2 = n := by
  rw [n2_eq _ _ (by rw [hd_len]; omega)]
  show n / 256 * 256 + n % 256 = n
  omega
theorem hd_take (k : Nat) : (hd20 t p s d n S ++ r).take (20 + k) = hd20 t p s d n S ++ r.take k := by
  rw [List.take_append]
  have : (hd20 t p s d n S).length = 20 := rfl
  rw [this, List.take_of_length_le (by rw [this]; omega)]
  congr 2; omega
theorem hd_shape (most : Int) (h : 20 ≤ n) (hm : n ≤ most) : shapeE (hd20 t p s d n S ++ r) most = 0 := by
  unfold shapeE
  rw [hd_len, hd_0, hd_n2]
  rw [if_neg (by omega), if_neg (by omega), if_neg (by omega), if_neg (by omega)]
theorem hd_whole : wholeE (hd20 t p s d n S ++ r) = 0 := by
  unfold wholeE
  rw [n2_eq _ _ (by rw [hd_len]; omega)]
  rfl
theorem hd_hd (hs : 0 ≤ s ∧ s ≤ 4294967295) (hd : 0 ≤ d ∧ d ≤ 4294967295) : hdOf (hd20 t p s d n S ++ r) = ⟨20, n, t, p, s, d⟩ := by
  unfold hdOf
  rw [hd_0, hd_n2, n4_eq _ _ (by rw [hd_len]; omega), n4_eq _ _ (by rw [hd_len]; omega)]
  have e1 : ((s / 16777216 * 256 + s / 65536 % 256) * 256 + s / 256 % 256) * 256 + s % 256 = s := by omega
  have e2 : ((d / 16777216 * 256 + d / 65536 % 256) * 256 + d / 256 % 256) * 256 + d % 256 = d := by omega
  show (⟨69 % 16 * 4, n, t, p, ((s / 16777216 * 256 + s / 65536 % 256) * 256 + s / 256 % 256) * 256 + s % 256, ((d / 16777216 * 256 + d / 65536 % 256) * 256 + d / 256 % 256) * 256 + d % 256⟩ : Hd) = _
  rw [e1, e2]; rfl
theorem hd_sb : sb true (hd20 t p s d n S) = sb true (hd20 t p s d n 0) + S := by
  simp only [hd20, sb]; omega
theorem hd_bd (ht : 0 ≤ t ∧ t ≤ 255) (hp : 0 ≤ p ∧ p ≤ 255) (hs : 0 ≤ s ∧ s ≤ 4294967295) (hd : 0 ≤ d ∧ d ≤ 4294967295) (hn : 0 ≤ n ∧ n ≤ 65535) (hss : 0 ≤ S ∧ S ≤ 65535) : ∀ x, x ∈ hd20 t p s d n S → 0 ≤ x ∧ x ≤ 255 := by
  intro x hx
  simp only [hd20, List.mem_cons, List.not_mem_nil, or_false] at hx
  omega
theorem hd_take20 : (hd20 t p s d n S ++ r).take 20 = hd20 t p s d n S := by
  have := hd_take t p s d n S r 0
  simpa using this
theorem sumOf_bd {l : List Int} (h : ∀ x, x ∈ l → 0 ≤ x ∧ x ≤ 255) : 0 ≤ sumOf l ∧ sumOf l ≤ 65535 := by
  have := (sb_bd l h true).1; have := fo_bd this; unfold sumOf; omega
/-- the sum that was put in closes the head -/
theorem hd_closed (h0 : 0 ≤ sb true (hd20 t p s d n 0)) : ∃ q : Int, 0 < q ∧ sb true (hd20 t p s d n (sumOf (hd20 t p s d n 0))) = 65535 * q := by
  rw [hd_sb]
  unfold sumOf
  generalize sb true (hd20 t p s d n 0) = A at *
  by_cases h : A = 0
  · subst h; exact ⟨1, by omega, by decide⟩
  · have : fo A = (A - 1) % 65535 + 1 := by unfold fo; rw [if_neg h]
    rw [this]; exact ⟨(A - 1) / 65535 + 1, by omega, by omega⟩
end
section
variable {t p s d : Int} {l r : List Int}
theorem put_eq (l : List Int) : putL t p s d l = hd20 t p s d (20 + l.length) (sumOf (hd20 t p s d (20 + l.length) 0)) ++ l := rfl
theorem put_len : (putL t p s d l).length = 20 + l.length := by rw [put_eq, hd_len]
/-- cut anywhere -/
theorem put_cut (k : Nat) (hk : k < 20 + l.length) (hl : l.length ≤ 1480) : getE ((putL t p s d l).take k) = 2 := by
  rcases Nat.lt_or_ge k 20 with h | h
  · have : shapeE ((putL t p s d l).take k) 1500 = 2 := by
      unfold shapeE; rw [if_pos (by rw [List.length_take]; omega)]
    unfold getE; rw [this]; rfl
  · obtain ⟨j, rfl⟩ : ∃ j, k = 20 + j := ⟨k - 20, by omega⟩
    rw [put_eq, hd_take]
    unfold getE
    rw [hd_shape _ _ _ _ _ _ _ 1500 (by omega) (by omega), if_neg (by decide), hd_len, hd_n2, if_pos (by rw [List.length_take]; omega)]
/-- whole, and whatever behind it -/
theorem put_get (ht : 0 ≤ t ∧ t ≤ 255) (hp : 0 ≤ p ∧ p ≤ 255) (hs : 0 ≤ s ∧ s ≤ 4294967295) (hd : 0 ≤ d ∧ d ≤ 4294967295) (hl : l.length ≤ 1480) (r : List Int) : getE (putL t p s d l ++ r) = 0 ∧ hdOf (putL t p s d l ++ r) = ⟨20, 20 + l.length, t, p, s, d⟩ := by
  have e : putL t p s d l ++ r = hd20 t p s d (20 + l.length) (sumOf (hd20 t p s d (20 + l.length) 0)) ++ (l ++ r) := by rw [put_eq, List.append_assoc]
  rw [e]
  have hb := hd_bd t p s d (20 + l.length) 0 ht hp hs hd (by omega) (by omega)
  obtain ⟨q, hq, hc⟩ := hd_closed t p s d (20 + l.length) (sb_bd _ hb true).1
  refine ⟨?_, hd_hd _ _ _ _ _ _ _ hs hd⟩
  unfold getE
  rw [hd_shape _ _ _ _ _ _ _ 1500 (by omega) (by omega), if_neg (by decide), hd_len, hd_n2, if_neg (by rw [List.length_append]; omega), hd_0]
  rw [show ((69 : Int) % 16 * 4).toNat = 20 from rfl, hd_take20, sumOf_null _ q hq hc, if_neg (by decide), hd_whole]
/-- one bit of the head turned, but of its first byte -/
theorem put_flip (ht : 0 ≤ t ∧ t ≤ 255) (hp : 0 ≤ p ∧ p ≤ 255) (hs : 0 ≤ s ∧ s ≤ 4294967295) (hd : 0 ≤ d ∧ d ≤ 4294967295) (hl : l.length ≤ 1480) (j m : Nat) (hj1 : 1 ≤ j) (hj : j < 20) (hm : m < 8) :
    getE ((putL t p s d l).set j (flip ((putL t p s d l).getD j 0).toNat m : Nat)) ≠ 0 := by
  have hb := hd_bd t p s d (20 + l.length) 0 ht hp hs hd (by omega) (by omega)
  have hsb := sumOf_bd hb
  have hb2 := hd_bd t p s d (20 + l.length) (sumOf (hd20 t p s d (20 + l.length) 0)) ht hp hs hd (by omega) hsb
  obtain ⟨q, hq, hc⟩ := hd_closed t p s d (20 + l.length) (sb_bd _ hb true).1
  rw [put_eq]
  generalize hH : hd20 t p s d (20 + l.length) (sumOf (hd20 t p s d (20 + l.length) 0)) = H at *
  have hlen : H.length = 20 := by rw [← hH]; rfl
  have h0 : H.getD 0 0 = 69 := by rw [← hH]; rfl
  have hg : (H ++ l).getD j 0 = H.getD j 0 := by
    rw [List.getD_eq_getElem?_getD, List.getElem?_append_left (by omega), List.getD_eq_getElem?_getD]
  rw [hg]
  have hf := flip_sum H q j m (by omega) hm hb2 hc
  generalize (flip (H.getD j 0).toNat m : Nat) = x at *
  have hset : (H ++ l).set j (x : Int) = H.set j x ++ l := by rw [List.set_append_left _ _ (by omega)]
  rw [hset]
  have e0 : (H.set j (x : Int) ++ l).getD 0 0 = 69 := by
    rw [← h0, List.getD_eq_getElem?_getD, List.getElem?_append_left (by simp; omega), List.getElem?_set_ne (by omega), List.getD_eq_getElem?_getD]
  unfold getE
  split
  · assumption
  split
  · decide
  rw [e0, show ((69 : Int) % 16 * 4).toNat = 20 from rfl]
  have et : (H.set j (x : Int) ++ l).take 20 = H.set j (x : Int) := by
    rw [List.take_append_of_le_length (by simp; omega), List.take_of_length_le (by simp; omega)]
  rw [et, if_pos hf]; decide
end
end Go.Proofs.Ytlhfbmoodehoiaa
