import Derived.Test.YtjaacmecniijgaaBase
import Derived.Test.YtjaacmecniijgaaMem
import Derived.Test.YtjaacmecniijgaaBytes
namespace Go.Proofs.Ytjaacmecniijgaa
set_option linter.unusedVariables false
set_option linter.unusedSimpArgs false
open Go.RowKit
/- The sum of bytes, plain. -/
/-- the sum of 16-bit words; the flag says whether the next byte is a high one -/
def sb : Bool → List Int → Int
  | _, [] => 0
  | true, x :: l => x * 256 + sb false l
  | false, x :: l => x + sb true l
theorem sb_snoc (l : List Int) (x : Int) : ∀ h, sb h (l ++ [x]) = sb h l + (if (l.length % 2 = 0) = (h = true) then x * 256 else x) := by
  induction l with
  | nil => intro h; cases h <;> simp [sb]
  | cons y l ih =>
    intro h
    cases h
    · simp only [List.cons_append, sb, ih, List.length_cons]; rcases Nat.mod_two_eq_zero_or_one l.length with e | e <;> simp [Nat.add_mod, e] <;> omega
    · simp only [List.cons_append, sb, ih, List.length_cons]; rcases Nat.mod_two_eq_zero_or_one l.length with e | e <;> simp [Nat.add_mod, e] <;> omega
theorem sb_bd (l : List Int) (hl : ∀ x, x ∈ l → 0 ≤ x ∧ x ≤ 255) : ∀ h, 0 ≤ sb h l ∧ sb h l ≤ l.length * 65280 := by
  induction l with
  | nil => intro h; simp [sb]
  | cons y l ih =>
    intro h
    have hy := hl y (by simp)
    have i1 := ih (fun x hx => hl x (by simp [hx]))
    have i2 := i1 true
    have i3 := i1 false
    cases h <;> simp only [sb, List.length_cons] <;> omega
theorem sb_take (l : List Int) (i : Nat) (hi : i < l.length) : sb true (l.take (i + 1)) = sb true (l.take i) + l.getD i 0 * (if i % 2 = 0 then 256 else 1) := by
  rw [List.take_succ_eq_append_getElem hi, sb_snoc, List.length_take_of_le (by omega), List.getD_eq_getElem?_getD, List.getElem?_eq_getElem hi]
  rcases Nat.mod_two_eq_zero_or_one i with e | e <;> simp [e]
theorem sb_take2 (l : List Int) (i : Nat) (hi : i + 1 < l.length) (he : i % 2 = 0) : sb true (l.take (i + 2)) = sb true (l.take i) + (l.getD i 0 * 256 + l.getD (i + 1) 0) := by
  rw [sb_take l (i + 1) hi, sb_take l i (by omega), if_pos he, if_neg (by omega)]; omega
theorem sb_app (a b : List Int) (h : a.length % 2 = 0) : sb true (a ++ b) = sb true a + sb true b := by
  suffices ∀ n (a : List Int), a.length = 2 * n → sb true (a ++ b) = sb true a + sb true b from this (a.length / 2) a (by omega)
  intro n
  induction n with
  | zero => intro a ha; have : a = [] := List.length_eq_zero_iff.mp (by omega); subst this; simp [sb]
  | succ n ih =>
    intro a ha
    match a, ha with
    | x :: y :: r, ha => simp only [List.cons_append, sb]; rw [ih r (by simp at ha; omega)]; omega
theorem more_two (n : Int) (L : List Int) (k : Nat) (h0 : 0 ≤ n) (hk : k ≤ L.length) (he : k % 2 = 0) (hL : ∀ x, x ∈ L → 0 ≤ x ∧ x ≤ 255) :
    fo (fo (n + sb true (L.take k)) + sb true (L.drop k)) = fo (n + sb true L) := by
  have h1 := sb_bd (L.take k) (fun x hx => hL x (List.mem_of_mem_take hx)) true
  have h2 := sb_bd (L.drop k) (fun x hx => hL x (List.mem_of_mem_drop hx)) true
  rw [fo_add _ _ (by omega) (by omega), Int.add_assoc, ← sb_app _ _ (by rw [List.length_take_of_le hk]; exact he), List.take_append_drop]
/-- the checksum of bytes -/
def sumOf (l : List Int) : Int := 65535 - fo (sb true l)
def fixOf (s o n : Int) : Int := 65535 - fo (65535 - s + (65535 - o) + n)
theorem fixOf_bd {s o n : Int} (hs : 0 ≤ s ∧ s ≤ 65535) (ho : 0 ≤ o ∧ o ≤ 65535) (hn : 0 ≤ n ∧ n ≤ 65535) : 0 ≤ fixOf s o n ∧ fixOf s o n ≤ 65535 := by
  have := fo_bd (n := 65535 - s + (65535 - o) + n) (by omega); unfold fixOf; omega
/- Plain facts on sums of words. -/
theorem sb_word (l : List Int) (h lo : Int) (he : l.length % 2 = 0) : sb true (l ++ [h, lo]) = sb true l + (h * 256 + lo) := by
  rw [sb_app _ _ he]; simp [sb]
theorem sb_nulls (l : List Int) (he : l.length % 2 = 0) : sb true (l ++ [0, 0, 0, 0]) = sb true l := by
  rw [sb_app _ _ he]; simp [sb]
/-- the sum of the first k words -/
def sw (l : List Int) (k : Nat) : Int := (l.take k).sum
theorem sw_succ (l : List Int) (k : Nat) (h : k < l.length) : sw l (k + 1) = sw l k + l.getD k 0 := by
  unfold sw; rw [List.take_succ_eq_append_getElem h, List.sum_append, List.getD_eq_getElem?_getD, List.getElem?_eq_getElem h]; simp
/-- turned by t -/
def rot (l : List Int) (t : Nat) : List Int := l.drop t ++ l.take t
theorem rot_length (l : List Int) (t : Nat) (h : t ≤ l.length) : (rot l t).length = l.length := by simp [rot]; omega
theorem rot_get (l : List Int) (t i ix : Nat) (ht : t < l.length) (hi : i < l.length) (hx : (i + t) % l.length = ix) : (rot l t).getD i 0 = l.getD ix 0 := by
  subst hx
  unfold rot
  rw [List.getD_eq_getElem?_getD, List.getD_eq_getElem?_getD]
  rcases Nat.lt_or_ge i (l.length - t) with h | h
  · rw [List.getElem?_append_left (by simp; omega), List.getElem?_drop, Nat.mod_eq_of_lt (by omega), Nat.add_comm]
  · rw [List.getElem?_append_right (by simp; omega), List.length_drop, List.getElem?_take, if_pos (by omega)]
    have : (i + t) % l.length = i - (l.length - t) := by
      rw [show i + t = (i - (l.length - t)) + l.length by omega, Nat.add_mod_right, Nat.mod_eq_of_lt (by omega)]
    rw [this]
theorem sw_rot (l : List Int) (t : Nat) (h : t ≤ l.length) : sw (rot l t) l.length = sw l l.length := by
  unfold sw
  rw [List.take_of_length_le (by rw [rot_length l t h]; omega), List.take_of_length_le (Nat.le_refl _)]
  unfold rot
  rw [List.sum_append, Int.add_comm, ← List.sum_append, List.take_append_drop]
/-- the two bytes of a word, changed about -/
def swp (w : Int) : Int := w % 256 * 256 + w / 256
theorem sumOf_swp (a b : List Int) (h1 : 0 ≤ sb true a) (h2 : 0 ≤ sb true b) (q : Int) (h : sb true b = 256 * sb true a - 65535 * q) (hz : sb true a = 0 → sb true b = 0) (hz2 : sb true b = 0 → sb true a = 0) : sumOf b = swp (sumOf a) := by
  unfold sumOf
  generalize sb true a = A at *
  generalize sb true b = B at *
  by_cases h0 : A = 0
  · have := hz h0; subst this; subst h0; decide
  · have hB : B ≠ 0 := fun e => h0 (hz2 e)
    have ea : fo A = (A - 1) % 65535 + 1 := by unfold fo; rw [if_neg h0]
    have eb : fo B = (B - 1) % 65535 + 1 := by unfold fo; rw [if_neg hB]
    rw [ea, eb]; unfold swp; omega
/- One bit turned: the sum of closed bytes is no longer nought. -/
/-- one bit of a byte turned -/
def flip (x m : Nat) : Nat := if x / 2 ^ m % 2 = 1 then x - 2 ^ m else x + 2 ^ m
theorem xor_bit : ∀ x : Fin 256, ∀ m : Fin 8, x.val ^^^ 2 ^ m.val = flip x.val m.val := by decide +kernel
theorem flip_bd : ∀ x : Fin 256, ∀ m : Fin 8, flip x.val m.val < 256 := by decide +kernel
theorem sb_set (l : List Int) (j : Nat) (x : Int) (hj : j < l.length) : ∀ h, sb h (l.set j x) = sb h l + (x - l.getD j 0) * (if (j % 2 = 0) = (h = true) then 256 else 1) := by
  induction l generalizing j with
  | nil => simp at hj
  | cons y l ih =>
    intro h
    cases j with
    | zero => cases h <;> simp [sb] <;> omega
    | succ j =>
      have := ih j (by simpa using hj)
      cases h
      · simp only [List.set_cons_succ, sb, this true, List.getD_cons_succ]; rcases Nat.mod_two_eq_zero_or_one j with e | e <;> simp [Nat.add_mod, e] <;> omega
      · simp only [List.set_cons_succ, sb, this false, List.getD_cons_succ]; rcases Nat.mod_two_eq_zero_or_one j with e | e <;> simp [Nat.add_mod, e] <;> omega
theorem sum_closed (a : List Int) (he : a.length % 2 = 0) (h : 0 ≤ sb true a) : ∃ q : Int, 0 < q ∧ sb true (a ++ [sumOf a / 256, sumOf a % 256]) = 65535 * q := by
  rw [sb_word a _ _ he]
  have h1 : sumOf a / 256 * 256 + sumOf a % 256 = sumOf a := by omega
  rw [h1]
  unfold sumOf
  generalize sb true a = A at *
  by_cases h0 : A = 0
  · subst h0; exact ⟨1, by omega, by decide⟩
  · have : fo A = (A - 1) % 65535 + 1 := by unfold fo; rw [if_neg h0]
    rw [this]; exact ⟨(A - 1) / 65535 + 1, by omega, by omega⟩
theorem sumOf_null (l : List Int) (q : Int) (hq : 0 < q) (h : sb true l = 65535 * q) : sumOf l = 0 := by
  unfold sumOf fo; rw [h, if_neg (by omega)]; omega
theorem sumOf_not (l : List Int) (q d : Int) (h0 : 0 ≤ sb true l) (h : sb true l = 65535 * q + d) (hd : d % 65535 ≠ 0) : sumOf l ≠ 0 := by
  unfold sumOf fo; rw [h] at h0 ⊢; split <;> omega
theorem flip_sum (l : List Int) (q : Int) (j m : Nat) (hj : j < l.length) (hm : m < 8) (hl : ∀ x, x ∈ l → 0 ≤ x ∧ x ≤ 255) (h : sb true l = 65535 * q) :
    sumOf (l.set j (flip (l.getD j 0).toNat m : Nat)) ≠ 0 := by
  have hx := hl (l.getD j 0) (by rw [List.getD_eq_getElem?_getD, List.getElem?_eq_getElem hj]; exact List.getElem_mem _)
  have hs := sb_set l j (flip (l.getD j 0).toNat m : Nat) hj true
  have h0 : 0 ≤ sb true (l.set j (flip (l.getD j 0).toNat m : Nat)) := (sb_bd _ (fun y hy => by
    rcases List.mem_or_eq_of_mem_set hy with h | h
    · exact hl y h
    · have := flip_bd ⟨(l.getD j 0).toNat, by omega⟩ ⟨m, hm⟩; simp only at this; omega) true).1
  refine sumOf_not _ q _ h0 (by rw [hs, h]) ?_
  obtain ⟨x, hxe⟩ : ∃ x : Nat, l.getD j 0 = x := ⟨(l.getD j 0).toNat, by omega⟩
  rw [hxe]
  have hd : ((flip (x : Int).toNat m : Nat) : Int) - x = 2 ^ m ∨ ((flip (x : Int).toNat m : Nat) : Int) - x = - 2 ^ m := by
    rw [Int.toNat_natCast]
    unfold flip
    split
    · rename_i h1
      have : 2 ^ m ≤ x := by
        rcases Nat.lt_or_ge x (2 ^ m) with h2 | h2
        · rw [Nat.div_eq_of_lt h2] at h1; simp at h1
        · exact h2
      right; push_cast [this]; omega
    · left; push_cast; omega
  have hm' : m = 0 ∨ m = 1 ∨ m = 2 ∨ m = 3 ∨ m = 4 ∨ m = 5 ∨ m = 6 ∨ m = 7 := by omega
  have hp : (2 : Int) ^ m = 1 ∨ (2 : Int) ^ m = 2 ∨ (2 : Int) ^ m = 4 ∨ (2 : Int) ^ m = 8 ∨ (2 : Int) ^ m = 16 ∨ (2 : Int) ^ m = 32 ∨ (2 : Int) ^ m = 64 ∨ (2 : Int) ^ m = 128 := by
    rcases hm' with rfl | rfl | rfl | rfl | rfl | rfl | rfl | rfl <;> simp
  split <;> omega
theorem xor_u8 (x : Int) (m : Nat) (hx : 0 ≤ x ∧ x ≤ 255) (hm : m < 8) : bits .xor .u8 x (2 ^ m % 256) = (flip x.toNat m : Nat) := by
  have h1 : (2 : Int) ^ m % 256 = ((2 ^ m : Nat) : Int) := by
    have : m = 0 ∨ m = 1 ∨ m = 2 ∨ m = 3 ∨ m = 4 ∨ m = 5 ∨ m = 6 ∨ m = 7 := by omega
    rcases this with rfl | rfl | rfl | rfl | rfl | rfl | rfl | rfl <;> rfl
  have h2 : 2 ^ m < 256 := by
    have : 2 ^ m ≤ 2 ^ 7 := Nat.pow_le_pow_right (by omega) (by omega)
    omega
  rw [h1, u8_xor x _ (by omega) (by omega) (by omega) (by omega), Int.toNat_natCast]
  have := xor_bit ⟨x.toNat, by omega⟩ ⟨m, hm⟩
  simp only at this
  rw [this]
/- Heads of packets, plain. -/
/-- the number of bytes -/
def numOf (l : List Int) : Int := l.foldl (fun n x => n * 256 + x) 0
theorem numOf_snoc (l : List Int) (x : Int) : numOf (l ++ [x]) = numOf l * 256 + x := by simp [numOf]
theorem numOf_bd (l : List Int) (h : ∀ x, x ∈ l → 0 ≤ x ∧ x ≤ 255) : ∀ n, n ≤ l.length → 0 ≤ numOf (l.take n) ∧ numOf (l.take n) < 256 ^ n := by
  intro n
  induction n with
  | zero => intro _; simp [numOf]
  | succ n ih =>
    intro hn
    have i := ih (by omega)
    have hx := h l[n] (List.getElem_mem (by omega))
    rw [List.take_succ_eq_append_getElem (by omega), numOf_snoc, Int.pow_succ]
    omega
/-- n from i on -/
def seg (l : List Int) (i n : Nat) : List Int := (l.drop i).take n
theorem seg_length (l : List Int) (i n : Nat) (h : i + n ≤ l.length) : (seg l i n).length = n := by simp [seg]; omega
theorem seg_mem {l : List Int} {i n : Nat} {x : Int} (h : x ∈ seg l i n) : x ∈ l := List.mem_of_mem_drop (List.mem_of_mem_take h)
def n2 (l : List Int) (i : Nat) : Int := numOf (seg l i 2)
def n4 (l : List Int) (i : Nat) : Int := numOf (seg l i 4)
section
variable {l : List Int} {i : Nat}
theorem n2_bd (hl : ∀ x, x ∈ l → 0 ≤ x ∧ x ≤ 255) (h : i + 2 ≤ l.length) : 0 ≤ n2 l i ∧ n2 l i ≤ 65535 := by
  have := numOf_bd (seg l i 2) (fun x hx => hl x (seg_mem hx)) 2 (by rw [seg_length l i 2 h]; omega)
  rw [List.take_of_length_le (by rw [seg_length l i 2 h]; omega)] at this
  unfold n2; omega
theorem n4_bd (hl : ∀ x, x ∈ l → 0 ≤ x ∧ x ≤ 255) (h : i + 4 ≤ l.length) : 0 ≤ n4 l i ∧ n4 l i ≤ 4294967295 := by
  have := numOf_bd (seg l i 4) (fun x hx => hl x (seg_mem hx)) 4 (by rw [seg_length l i 4 h]; omega)
  rw [List.take_of_length_le (by rw [seg_length l i 4 h]; omega)] at this
  unfold n4; omega
end
theorem drop_two (l : List Int) (i : Nat) (h : i + 2 ≤ l.length) : l.drop i = l.getD i 0 :: l.getD (i + 1) 0 :: l.drop (i + 2) := by
  rw [List.drop_eq_getElem_cons (by omega), List.drop_eq_getElem_cons (by omega)]
  simp [List.getD_eq_getElem?_getD, List.getElem?_eq_getElem (show i < l.length by omega), List.getElem?_eq_getElem (show i + 1 < l.length by omega)]
theorem n2_eq (l : List Int) (i : Nat) (h : i + 2 ≤ l.length) : n2 l i = l.getD i 0 * 256 + l.getD (i + 1) 0 := by
  unfold n2 seg; rw [drop_two l i h]; simp [numOf]
theorem n4_eq (l : List Int) (i : Nat) (h : i + 4 ≤ l.length) : n4 l i = ((l.getD i 0 * 256 + l.getD (i + 1) 0) * 256 + l.getD (i + 2) 0) * 256 + l.getD (i + 3) 0 := by
  unfold n4 seg; rw [drop_two l i (by omega), drop_two l (i + 2) (by omega)]; simp [numOf]
/-- one head -/
structure Hd where
  size : Int
  len : Int
  ttl : Int
  proto : Int
  src : Int
  dst : Int
deriving instance DecidableEq for Hd
def Hd.z : Hd := ⟨0, 0, 0, 0, 0, 0⟩
def hdOf (l : List Int) : Hd := ⟨l.getD 0 0 % 16 * 4, n2 l 2, l.getD 8 0, l.getD 9 0, n4 l 12, n4 l 16⟩
/-- what stands in the head's first byte, and the lengths -/
def shapeE (l : List Int) (most : Int) : Int :=
  if l.length < 20 then 2 else if l.getD 0 0 / 16 ≠ 4 ∨ l.getD 0 0 % 16 * 4 < 20 then 3 else if (l.length : Int) < l.getD 0 0 % 16 * 4 then 2
  else if n2 l 2 < l.getD 0 0 % 16 * 4 ∨ most < n2 l 2 then 3 else 0
def wholeE (l : List Int) : Int := if n2 l 6 % 16384 ≠ 0 then 5 else 0
def getE (l : List Int) : Int :=
  if shapeE l 1500 ≠ 0 then shapeE l 1500 else if (l.length : Int) < n2 l 2 then 2 else if sumOf (l.take (l.getD 0 0 % 16 * 4).toNat) ≠ 0 then 4 else wholeE l
def partE (l : List Int) : Int := if shapeE l 65535 ≠ 0 then shapeE l 65535 else wholeE l
/-- the head, where there is no error -/
def hdIf (l : List Int) (e : Int) : Hd := if e = 0 then hdOf l else Hd.z
theorem shape_cases (l : List Int) (most : Int) :
    (shapeE l most = 2 ∧ l.length < 20) ∨
    (shapeE l most = 3 ∧ 20 ≤ l.length ∧ (l.getD 0 0 / 16 == 4) = false ∧ (l.getD 0 0 / 16 != 4) = true) ∨
    (shapeE l most = 3 ∧ 20 ≤ l.length ∧ l.getD 0 0 / 16 = 4 ∧ l.getD 0 0 % 16 * 4 < 20) ∨
    (shapeE l most = 2 ∧ 20 ≤ l.length ∧ l.getD 0 0 / 16 = 4 ∧ 20 ≤ l.getD 0 0 % 16 * 4 ∧ (l.length : Int) < l.getD 0 0 % 16 * 4) ∨
    (shapeE l most = 3 ∧ 20 ≤ l.length ∧ l.getD 0 0 / 16 = 4 ∧ 20 ≤ l.getD 0 0 % 16 * 4 ∧ l.getD 0 0 % 16 * 4 ≤ l.length ∧ n2 l 2 < l.getD 0 0 % 16 * 4) ∨
    (shapeE l most = 3 ∧ 20 ≤ l.length ∧ l.getD 0 0 / 16 = 4 ∧ 20 ≤ l.getD 0 0 % 16 * 4 ∧ l.getD 0 0 % 16 * 4 ≤ l.length ∧ l.getD 0 0 % 16 * 4 ≤ n2 l 2 ∧ most < n2 l 2) ∨
    (shapeE l most = 0 ∧ 20 ≤ l.length ∧ l.getD 0 0 / 16 = 4 ∧ 20 ≤ l.getD 0 0 % 16 * 4 ∧ l.getD 0 0 % 16 * 4 ≤ l.length ∧ l.getD 0 0 % 16 * 4 ≤ n2 l 2 ∧ n2 l 2 ≤ most) := by
  unfold shapeE
  by_cases h1 : l.length < 20
  · left; rw [if_pos h1]; exact ⟨rfl, h1⟩
  rw [if_neg h1]
  by_cases h2 : l.getD 0 0 / 16 = 4
  · by_cases h3 : l.getD 0 0 % 16 * 4 < 20
    · rw [if_pos (.inr h3)]; exact .inr (.inr (.inl ⟨rfl, by omega, h2, h3⟩))
    rw [if_neg (by rintro (h | h); exact h h2; exact h3 h)]
    by_cases h4 : (l.length : Int) < l.getD 0 0 % 16 * 4
    · rw [if_pos h4]; exact .inr (.inr (.inr (.inl ⟨rfl, by omega, h2, by omega, h4⟩)))
    rw [if_neg h4]
    by_cases h5 : n2 l 2 < l.getD 0 0 % 16 * 4
    · rw [if_pos (.inl h5)]; exact .inr (.inr (.inr (.inr (.inl ⟨rfl, by omega, h2, by omega, by omega, h5⟩))))
    by_cases h6 : most < n2 l 2
    · rw [if_pos (.inr h6)]; exact .inr (.inr (.inr (.inr (.inr (.inl ⟨rfl, by omega, h2, by omega, by omega, by omega, h6⟩)))))
    · rw [if_neg (by omega)]; exact .inr (.inr (.inr (.inr (.inr (.inr ⟨rfl, by omega, h2, by omega, by omega, by omega, by omega⟩)))))
  · rw [if_pos (.inl h2)]; exact .inr (.inl ⟨rfl, by omega, by simpa using h2, by simpa using h2⟩)
/-- a head of twenty bytes, its sum s -/
def hd20 (ttl proto src dst n s : Int) : List Int :=
  [69, 0, n / 256, n % 256, 0, 0, 64, 0, ttl, proto, s / 256, s % 256, src / 16777216, src / 65536 % 256, src / 256 % 256, src % 256, dst / 16777216, dst / 65536 % 256, dst / 256 % 256, dst % 256]
def putL (ttl proto src dst : Int) (l : List Int) : List Int :=
  hd20 ttl proto src dst (20 + l.length) (sumOf (hd20 ttl proto src dst (20 + l.length) 0)) ++ l
def canPut (ttl proto : Int) (n : Nat) : Prop := (0 ≤ ttl ∧ ttl ≤ 255) ∧ (0 ≤ proto ∧ proto ≤ 255) ∧ n ≤ 1480
/- Heads of packets: what is told of heads that are laid, cut, bent. -/
section
variable (t p s d n S : Int) (r : List Int)
theorem hd_len : (hd20 t p s d n S ++ r).length = 20 + r.length := by simp [hd20]; omega
theorem hd_0 : (hd20 t p s d n S ++ r).getD 0 0 = 69 := rfl
theorem hd_n2 : n2 (hd20 t p s d n S ++ r) 2 = n := by
  rw [n2_eq _ _ (by rw [hd_len]; omega)]
  show n / 256 * 256 + n % 256 = n
  omega
theorem hd_take (k : Nat) : (hd20 t p s d n S ++ r).take (20 + k) = hd20 t p s d n S ++ r.take k := by
  rw [List.take_append]
  have : (hd20 t p s d n S).length = 20 := rfl
  rw [this, List.take_of_length_le (by rw [this]; omega)]
  congr 2; omega
theorem hd_shape (most : Int) (h : 20 ≤ n) (hm : n ≤ most) : shapeE (hd20 t p s d n S ++ r) most = 0 := by
  unfold shapeE
  rw [hd_len, hd_0, hd_n2]
  rw [if_neg (by omega), if_neg (by omega), if_neg (by omega), if_neg (by omega)]
theorem hd_whole : wholeE (hd20 t p s d n S ++ r) = 0 := by
  unfold wholeE
  rw [n2_eq _ _ (by rw [hd_len]; omega)]
  rfl
theorem hd_hd (hs : 0 ≤ s ∧ s ≤ 4294967295) (hd : 0 ≤ d ∧ d ≤ 4294967295) : hdOf (hd20 t p s d n S ++ r) = ⟨20, n, t, p, s, d⟩ := by
  unfold hdOf
  rw [hd_0, hd_n2, n4_eq _ _ (by rw [hd_len]; omega), n4_eq _ _ (by rw [hd_len]; omega)]
  have e1 : ((s / 16777216 * 256 + s / 65536 % 256) * 256 + s / 256 % 256) * 256 + s % 256 = s := by omega
  have e2 : ((d / 16777216 * 256 + d / 65536 % 256) * 256 + d / 256 % 256) * 256 + d % 256 = d := by omega
  show (⟨69 % 16 * 4, n, t, p, ((s / 16777216 * 256 + s / 65536 % 256) * 256 + s / 256 % 256) * 256 + s % 256, ((d / 16777216 * 256 + d / 65536 % 256) * 256 + d / 256 % 256) * 256 + d % 256⟩ : Hd) = _
  rw [e1, e2]; rfl
theorem hd_sb : sb true (hd20 t p s d n S) = sb true (hd20 t p s d n 0) + S := by
  simp only [hd20, sb]; omega
theorem hd_bd (ht : 0 ≤ t ∧ t ≤ 255) (hp : 0 ≤ p ∧ p ≤ 255) (hs : 0 ≤ s ∧ s ≤ 4294967295) (hd : 0 ≤ d ∧ d ≤ 4294967295) (hn : 0 ≤ n ∧ n ≤ 65535) (hss : 0 ≤ S ∧ S ≤ 65535) : ∀ x, x ∈ hd20 t p s d n S → 0 ≤ x ∧ x ≤ 255 := by
  intro x hx
  simp only [hd20, List.mem_cons, List.not_mem_nil, or_false] at hx
  omega
theorem hd_take20 : (hd20 t p s d n S ++ r).take 20 = hd20 t p s d n S := by
  have := hd_take t p s d n S r 0
  simpa using this
theorem sumOf_bd {l : List Int} (h : ∀ x, x ∈ l → 0 ≤ x ∧ x ≤ 255) : 0 ≤ sumOf l ∧ sumOf l ≤ 65535 := by
  have := (sb_bd l h true).1; have := fo_bd this; unfold sumOf; omega
/-- the sum that was put in closes the head -/
theorem hd_closed (h0 : 0 ≤ sb true (hd20 t p s d n 0)) : ∃ q : Int, 0 < q ∧ sb true (hd20 t p s d n (sumOf (hd20 t p s d n 0))) = 65535 * q := by
  rw [hd_sb]
  unfold sumOf
  generalize sb true (hd20 t p s d n 0) = A at *
  by_cases h : A = 0
  · subst h; exact ⟨1, by omega, by decide⟩
  · have : fo A = (A - 1) % 65535 + 1 := by unfold fo; rw [if_neg h]
    rw [this]; exact ⟨(A - 1) / 65535 + 1, by omega, by omega⟩
end
section
variable {t p s d : Int} {l r : List Int}
theorem put_eq (l : List Int) : putL t p s d l = hd20 t p s d (20 + l.length) (sumOf (hd20 t p s d (20 + l.length) 0)) ++ l := rfl
theorem put_len : (putL t p s d l).length = 20 + l.length := by rw [put_eq, hd_len]
/-- cut anywhere -/
theorem put_cut (k : Nat) (hk : k < 20 + l.length) (hl : l.length ≤ 1480) : getE ((putL t p s d l).take k) = 2 := by
  rcases Nat.lt_or_ge k 20 with h | h
  · have : shapeE ((putL t p s d l).take k) 1500 = 2 := by
      unfold shapeE; rw [if_pos (by rw [List.length_take]; omega)]
    unfold getE; rw [this]; rfl
  · obtain ⟨j, rfl⟩ : ∃ j, k = 20 + j := ⟨k - 20, by omega⟩
    rw [put_eq, hd_take]
    unfold getE
    rw [hd_shape _ _ _ _ _ _ _ 1500 (by omega) (by omega), if_neg (by decide), hd_len, hd_n2, if_pos (by rw [List.length_take]; omega)]
/-- whole, and whatever behind it -/
theorem put_get (ht : 0 ≤ t ∧ t ≤ 255) (hp : 0 ≤ p ∧ p ≤ 255) (hs : 0 ≤ s ∧ s ≤ 4294967295) (hd : 0 ≤ d ∧ d ≤ 4294967295) (hl : l.length ≤ 1480) (r : List Int) : getE (putL t p s d l ++ r) = 0 ∧ hdOf (putL t p s d l ++ r) = ⟨20, 20 + l.length, t, p, s, d⟩ := by
  have e : putL t p s d l ++ r = hd20 t p s d (20 + l.length) (sumOf (hd20 t p s d (20 + l.length) 0)) ++ (l ++ r) := by rw [put_eq, List.append_assoc]
  rw [e]
  have hb := hd_bd t p s d (20 + l.length) 0 ht hp hs hd (by omega) (by omega)
  obtain ⟨q, hq, hc⟩ := hd_closed t p s d (20 + l.length) (sb_bd _ hb true).1
  refine ⟨?_, hd_hd _ _ _ _ _ _ _ hs hd⟩
  unfold getE
  rw [hd_shape _ _ _ _ _ _ _ 1500 (by omega) (by omega), if_neg (by decide), hd_len, hd_n2, if_neg (by rw [List.length_append]; omega), hd_0]
  rw [show ((69 : Int) % 16 * 4).toNat = 20 from rfl, hd_take20, sumOf_null _ q hq hc, if_neg (by decide), hd_whole]
/-- one bit of the head turned, but of its first byte -/
theorem put_flip (ht : 0 ≤ t ∧ t ≤ 255) (hp : 0 ≤ p ∧ p ≤ 255) (hs : 0 ≤ s ∧ s ≤ 4294967295) (hd : 0 ≤ d ∧ d ≤ 4294967295) (hl : l.length ≤ 1480) (j m : Nat) (hj1 : 1 ≤ j) (hj : j < 20) (hm : m < 8) :
    getE ((putL t p s d l).set j (flip ((putL t p s d l).getD j 0).toNat m : Nat)) ≠ 0 := by
  have hb := hd_bd t p s d (20 + l.length) 0 ht hp hs hd (by omega) (by omega)
  have hsb := sumOf_bd hb
  have hb2 := hd_bd t p s d (20 + l.length) (sumOf (hd20 t p s d (20 + l.length) 0)) ht hp hs hd (by omega) hsb
  obtain ⟨q, hq, hc⟩ := hd_closed t p s d (20 + l.length) (sb_bd _ hb true).1
  rw [put_eq]
  generalize hH : hd20 t p s d (20 + l.length) (sumOf (hd20 t p s d (20 + l.length) 0)) = H at *
  have hlen : H.length = 20 := by rw [← hH]; rfl
  have h0 : H.getD 0 0 = 69 := by rw [← hH]; rfl
  have hg : (H ++ l).getD j 0 = H.getD j 0 := by
    rw [List.getD_eq_getElem?_getD, List.getElem?_append_left (by omega), List.getD_eq_getElem?_getD]
  rw [hg]
  have hf := flip_sum H q j m (by omega) hm hb2 hc
  generalize (flip (H.getD j 0).toNat m : Nat) = x at *
  have hset : (H ++ l).set j (x : Int) = H.set j x ++ l := by rw [List.set_append_left _ _ (by omega)]
  rw [hset]
  have e0 : (H.set j (x : Int) ++ l).getD 0 0 = 69 := by
    rw [← h0, List.getD_eq_getElem?_getD, List.getElem?_append_left (by simp; omega), List.getElem?_set_ne (by omega), List.getD_eq_getElem?_getD]
  unfold getE
  split
  · assumption
  split
  · decide
  rw [e0, show ((69 : Int) % 16 * 4).toNat = 20 from rfl]
  have et : (H.set j (x : Int) ++ l).take 20 = H.set j (x : Int) := by
    rw [List.take_append_of_le_length (by simp; omega), List.take_of_length_le (by simp; omega)]
  rw [et, if_pos hf]; decide
end
/- What packets carry, plain. -/
/-- what stands ahead of UDP's and TCP's bytes for their sum -/
def ph (s d p : Int) (n : Nat) : List Int := be4 s ++ be4 d ++ [0, p] ++ be2 n
theorem ph_len (s d p : Int) (n : Nat) : (ph s d p n).length = 12 := rfl
def csum (s d p : Int) (l : List Int) : Int := sumOf (ph s d p l.length ++ l)
theorem ph_bd {s d p : Int} {n : Nat} (hs : 0 ≤ s ∧ s ≤ 4294967295) (hd : 0 ≤ d ∧ d ≤ 4294967295) (hp : 0 ≤ p ∧ p ≤ 255) (hn : n ≤ 65535) : ∀ x, x ∈ ph s d p n → 0 ≤ x ∧ x ≤ 255 := by
  intro x hx
  simp only [ph, List.mem_append] at hx
  rcases hx with ((h | h) | h) | h
  · exact be4_bd s hs x h
  · exact be4_bd d hd x h
  · simp only [List.mem_cons, List.not_mem_nil, or_false] at h; omega
  · exact be2_bd n (by omega) x h
theorem csum_eq (s d p : Int) (l : List Int) : csum s d p l = 65535 - fo (sb true (ph s d p l.length) + sb true l) := by
  unfold csum sumOf
  rw [sb_app _ _ (by rw [ph_len])]
theorem csum_bd {s d p : Int} {l : List Int} (hs : 0 ≤ s ∧ s ≤ 4294967295) (hd : 0 ≤ d ∧ d ≤ 4294967295) (hp : 0 ≤ p ∧ p ≤ 255) (hn : l.length ≤ 65535) (hl : ∀ x, x ∈ l → 0 ≤ x ∧ x ≤ 255) : 0 ≤ csum s d p l ∧ csum s d p l ≤ 65535 :=
  sumOf_bd (fun x hx => by
    rcases List.mem_append.1 hx with h | h
    · exact ph_bd hs hd hp hn x h
    · exact hl x h)
/-- the rows that are laid: with the sum S at its place -/
def udpB (a b : Int) (l : List Int) (S : Int) : List Int := be2 a ++ be2 b ++ be2 (8 + l.length) ++ be2 S ++ l
def tcpB (a b f : Int) (l : List Int) (S : Int) : List Int := be2 a ++ be2 b ++ [0, 0, 0, 0, 0, 0, 0, 0, 80, f % 256, 32, 0] ++ be2 S ++ [0, 0] ++ l
def echoB (k a : Int) (l : List Int) (S : Int) : List Int := [k, 0] ++ be2 S ++ be2 a ++ [0, 0] ++ l
def faultB (k c : Int) (l : List Int) (S : Int) : List Int := [k % 256, c % 256] ++ be2 S ++ [0, 0, 0, 0] ++ l
def fewL (l : List Int) : List Int := l.take 1400
def nev (s : Int) : Int := if s = 0 then 65535 else s
def udpL (s d a b : Int) (l : List Int) : List Int := udpB a b (fewL l) (nev (csum s d 17 (udpB a b (fewL l) 0)))
def tcpL (s d a b f : Int) (l : List Int) : List Int := tcpB a b f (fewL l) (csum s d 6 (tcpB a b f (fewL l) 0))
def echoL (r : Bool) (a : Int) (l : List Int) : List Int := echoB (if r then 0 else 8) a (fewL l) (sumOf (echoB (if r then 0 else 8) a (fewL l) 0))
def faultL (k c : Int) (l : List Int) : List Int := faultB k c (fewL l) (sumOf (faultB k c (fewL l) 0))
/-- what a packet carries -/
structure Pt where
  proto : Int
  src : Int
  dst : Int
  flags : Int
  kind : Int
  code : Int
  err : Bool
  inner : Hd
  pat : Int
  bare : Bool
def Pt.z : Pt := ⟨0, 0, 0, 0, 0, 0, false, Hd.z, 0, false⟩
/-- an error, or a part -/
abbrev PR := Int × Pt
def portsP (p : Pt) (l : List Int) (i j : Nat) : Pt := { p with src := n2 l i, dst := n2 l j }
def udpR (h : Hd) (x : List Int) : PR :=
  if x.length < 8 then (2, Pt.z) else if n2 x 4 ≠ x.length then (3, Pt.z) else
  if n2 x 6 ≠ 0 ∧ csum h.src h.dst 17 x ≠ 0 then (4, Pt.z) else (0, portsP { Pt.z with proto := 17, bare := decide (n2 x 6 = 0) } x 0 2)
def tcpR (h : Hd) (x : List Int) : PR :=
  if x.length < 20 then (2, Pt.z) else if x.getD 12 0 / 16 * 4 < 20 ∨ (x.length : Int) < x.getD 12 0 / 16 * 4 then (3, Pt.z) else
  if csum h.src h.dst 6 x ≠ 0 then (4, Pt.z) else (0, portsP { Pt.z with proto := 6, flags := x.getD 13 0 } x 0 2)
def faultR (p : Pt) (at_ : Int) (b : List Int) : PR :=
  if partE b ≠ 0 then (partE b, Pt.z) else
  if (b.length : Int) - (hdOf b).size < 8 ∨ (hdOf b).len < (hdOf b).size + 8 then (3, Pt.z) else
  if (hdOf b).proto = 17 ∨ (hdOf b).proto = 6 then (0, portsP { p with err := true, inner := hdOf b, pat := at_ } (b.drop (hdOf b).size.toNat) 0 2) else
  if (hdOf b).proto = 1 ∧ ((b.drop (hdOf b).size.toNat).getD 0 0 = 0 ∨ (b.drop (hdOf b).size.toNat).getD 0 0 = 8) then (0, portsP { p with err := true, inner := hdOf b, pat := at_ } (b.drop (hdOf b).size.toNat) 4 4) else (6, Pt.z)
def icmpR (h : Hd) (x : List Int) : PR :=
  if x.length < 8 then (2, Pt.z) else if sumOf x ≠ 0 then (4, Pt.z) else
  if x.getD 0 0 = 0 ∨ x.getD 0 0 = 8 then (if x.getD 1 0 ≠ 0 then (3, Pt.z) else (0, portsP { Pt.z with proto := 1, kind := x.getD 0 0, code := x.getD 1 0 } x 4 4)) else
  if x.getD 0 0 = 3 ∨ x.getD 0 0 = 11 ∨ x.getD 0 0 = 12 then faultR { Pt.z with proto := 1, kind := x.getD 0 0, code := x.getD 1 0 } (h.size + 8) (x.drop 8) else (6, Pt.z)
def getR (h : Hd) (b : List Int) : PR :=
  if h.size < 20 ∨ 60 < h.size ∨ h.len < h.size ∨ (b.length : Int) < h.len then (1, Pt.z) else
  if h.proto = 17 then udpR h (seg b h.size.toNat (h.len - h.size).toNat) else
  if h.proto = 6 then tcpR h (seg b h.size.toNat (h.len - h.size).toNat) else
  if h.proto = 1 then icmpR h (seg b h.size.toNat (h.len - h.size).toNat) else (6, Pt.z)
end Go.Proofs.Ytjaacmecniijgaa
