/- Heads of packets, plain. -/
import Derived.Test.YtlhfbmoodehoiaaMem
import Derived.Test.YtlhfbmoodehoiaaSumPlain
namespace Go.Proofs.Ytlhfbmoodehoiaa
set_option linter.unusedVariables false
set_option linter.unusedSimpArgs false
open Go.RowKit
/-- the number of bytes -/
def numOf (l : List Int) : Int := l.foldl (fun n x => n * 256 + x) 0
theorem numOf_snoc (l : List Int) (x : Int) : numOf (l ++ [x]) = numOf l * 256 + x := by simp [numOf]
theorem numOf_bd (l : List Int) (h : ∀ x, x ∈ l → 0 ≤ x ∧ x ≤ 255) : ∀ n, n ≤ l.length → 0 ≤ numOf (l.take n) ∧ numOf (l.take n) < 256 ^ n := by
  intro n
  induction n with
  | zero => intro _; simp [numOf]
  | succ n ih =>
    intro hn
    have i := ih (by omega)
    have hx := h l[n] (List.getElem_mem (by omega))
    rw [List.take_succ_eq_append_getElem (by omega), numOf_snoc, Int.pow_succ]
    omega
/-- n from i on -/
def seg (l : List Int) (i n : Nat) : List Int := (l.drop i).take n
theorem seg_length (l : List Int) (i n : Nat) (h : i + n ≤ l.length) : (seg l i n).length = n := by simp [seg]; omega
theorem seg_mem {l : List Int} {i n : Nat} {x : Int} (h : x ∈ seg l i n) : x ∈ l := List.mem_of_mem_drop (List.mem_of_mem_take h)
def n2 (l : List Int) (i : Nat) : Int := numOf (seg l i 2)
def n4 (l : List Int) (i : Nat) : Int := numOf (seg l i 4)
section
variable {l : List Int} {i : Nat}
theorem n2_bd (hl : ∀ x, x ∈ l → 0 ≤ x ∧ x ≤ 255) (h : i + 2 ≤ l.length) : 0 ≤ n2 l i ∧ n2 l i ≤ 65535 := by
  have := numOf_bd (seg l i 2) (fun x hx => hl x (seg_mem hx)) 2 (by rw [seg_length l i 2 h]; omega)
  rw [List.take_of_length_le (by rw [seg_length l i 2 h]; omega)] at this
  unfold n2; omega
theorem n4_bd (hl : ∀ x, x ∈ l → 0 ≤ x ∧ x ≤ 255) (h : i + 4 ≤ l.length) : 0 ≤ n4 l i ∧ n4 l i ≤ 4294967295 := by
  have := numOf_bd (seg l i 4) (fun x hx => hl x (seg_mem hx)) 4 (by rw [seg_length l i 4 h]; omega)
  rw [List.take_of_length_le (by rw [seg_length l i 4 h]; omega)] at this
  unfold n4; omega
end
theorem drop_two (l : List Int) (i : Nat) (h : i + 2 ≤ l.length) : l.drop i = l.getD i 0 :: l.getD (i + 1) 0 :: l.drop (i + 2) := by
  rw [List.drop_eq_getElem_cons (by omega), List.drop_eq_getElem_cons (by omega)]
  simp [List.getD_eq_getElem?_getD, List.getElem?_eq_getElem (show i < l.length by omega), List.getElem?_eq_getElem (show i + 1 < l.length by omega)]
theorem n2_eq (l : List Int) (i : Nat) (h : i + 2 ≤ l.length) : n2 l i = l.getD i 0 * 256 + l.getD (i + 1) 0 := by
  unfold n2 seg; rw [drop_two l i h]; simp [numOf]
theorem n4_eq (l : List Int) (i : Nat) (h : i + 4 ≤ l.length) : n4 l i = ((l.getD i 0 * 256 + l.getD (i + 1) 0) * 256 + l.getD (i + 2) 0) * 256 + l.getD (i + 3) 0 := by
  unfold n4 seg; rw [drop_two l i (by omega), drop_two l (i + 2) (by omega)]; simp [numOf]
/-- one head -/
structure Hd where
  size : Int
  len : Int
  ttl : Int
  proto : Int
  src : Int
  dst : Int
deriving instance DecidableEq for Hd
def Hd.z : Hd := ⟨0, 0, 0, 0, 0, 0⟩
def hdOf (l : List Int) : Hd := ⟨l.getD 0 0 % 16 * 4, n2 l 2, l.getD 8 0, l.getD 9 0, n4 l 12, n4 l 16⟩
/-- what stands in the head's first byte, and the lengths -/
def shapeE (l : List Int) (most : Int) : Int :=
  if l.length < 20 then 2 else if l.getD 0 0 / 16 ≠ 4 ∨ l.getD 0 0 % 16 * 4 < 20 then 3 else if (l.length : Int) < l.getD 0 0 % 16 * 4 then 2
  else if n2 l 2 < l.getD 0 0 % 16 * 4 ∨ most < n2 l 2 then 3 else 0
def wholeE (l : List Int) : Int := if n2 l 6 % 16384 ≠ 0 then 5 else 0
def getE (l : List Int) : Int :=
  if shapeE l 1500 ≠ 0 then shapeE l 1500 else if (l.length : Int) < n2 l 2 then 2 else if sumOf (l.take (l.getD 0 0 % 16 * 4).toNat) ≠ 0 then 4 else wholeE l
def partE (l : List Int) : Int := if shapeE l 65535 ≠ 0 then shapeE l 65535 else wholeE l
/-- the head, where there is no error -/
def hdIf (l : List Int) (e : Int) : Hd := if e = 0 then hdOf l else Hd.z
theorem shape_cases (l : List Int) (most : Int) :
    (shapeE l most = 2 ∧ l.length < 20) ∨
    (shapeE l most = 3 ∧ 20 ≤ l.length ∧ (l.getD 0 0 / 16 == 4) = false ∧ (l.getD 0 0 / 16 != 4) = true) ∨
    (shapeE l most = 3 ∧ 20 ≤ l.length ∧ l.getD 0 0 / 16 = 4 ∧ l.getD 0 0 % 16 * 4 < 20) ∨
    (shapeE l most = 2 ∧ 20 ≤ l.length ∧ l.getD 0 0 / 16 = 4 ∧ 20 ≤ l.getD 0 0 % 16 * 4 ∧ (l.length : Int) < l.getD 0 0 % 16 * 4) ∨
    (shapeE l most = 3 ∧ 20 ≤ l.length ∧ l.getD 0 0 / 16 = 4 ∧ 20 ≤ l.getD 0 0 % 16 * 4 ∧ l.getD 0 0 % 16 * 4 ≤ l.length ∧ n2 l 2 < l.getD 0 0 % 16 * 4) ∨
    (shapeE l most = 3 ∧ 20 ≤ l.length ∧ l.getD 0 0 / 16 = 4 ∧ 20 ≤ l.getD 0 0 % 16 * 4 ∧ l.getD 0 0 % 16 * 4 ≤ l.length ∧ l.getD 0 0 % 16 * 4 ≤ n2 l 2 ∧ most < n2 l 2) ∨
    (shapeE l most = 0 ∧ 20 ≤ l.length ∧ l.getD 0 0 / 16 = 4 ∧ 20 ≤ l.getD 0 0 % 16 * 4 ∧ l.getD 0 0 % 16 * 4 ≤ l.length ∧ l.getD 0 0 % 16 * 4 ≤ n2 l 2 ∧ n2 l 2 ≤ most) := by
  unfold shapeE
  by_cases h1 : l.length < 20
  · left; rw [if_pos h1]; exact ⟨rfl, h1⟩
  rw [if_neg h1]
  by_cases h2 : l.getD 0 0 / 16 = 4
  · by_cases h3 : l.getD 0 0 % 16 * 4 < 20
    · rw [if_pos (.inr h3)]; exact .inr (.inr (.inl ⟨rfl, by omega, h2, h3⟩))
    rw [if_neg (by rintro (h | h); exact h h2; exact h3 h)]
    by_cases h4 : (l.length : Int) < l.getD 0 0 % 16 * 4
    · rw [if_pos h4]; exact .inr (.inr (.inr (.inl ⟨rfl, by omega, h2, by omega, h4⟩)))
    rw [if_neg h4]
    by_cases h5 : n2 l 2 < l.getD 0 0 % 16 * 4
    · rw [if_pos (.inl h5)]; exact .inr (.inr (.inr (.inr (.inl ⟨rfl, by omega, h2, by omega, by omega, h5⟩))))
    by_cases h6 : most < n2 l 2
    · rw [if_pos (.inr h6)]; exact .inr (.inr (.inr (.inr (.inr (.inl ⟨rfl, by omega, h2, by omega, by omega, by omega, h6⟩)))))
    · rw [if_neg (by omega)]; exact .inr (.inr (.inr (.inr (.inr (.inr ⟨rfl, by omega, h2, by omega, by omega, by omega, by omega⟩)))))
  · rw [if_pos (.inl h2)]; exact .inr (.inl ⟨rfl, by omega, by simpa using h2, by simpa using h2⟩)
/-- a head of twenty bytes, its sum s -/
def hd20 (ttl proto src dst n s : Int) : List Int :=
  [69, 0, n / 256, n % 256, 0, 0, 64, 0, ttl, proto, s / 256, s % 256, src / 16777216, src / 65536 % 256, src / 256 % 256, src % 256, dst / 16777216, dst / 65536 % 256, dst / 256 % 256, dst % 256]
def putL (ttl proto src dst : Int) (l : List Int) : List Int :=
  hd20 ttl proto src dst (20 + l.length) (sumOf (hd20 ttl proto src dst (20 + l.length) 0)) ++ l
def canPut (ttl proto : Int) (n : Nat) : Prop := (0 ≤ ttl ∧ ttl ≤ 255) ∧ (0 ≤ proto ∧ proto ≤ 255) ∧ n ≤ 1480
end Go.Proofs.Ytlhfbmoodehoiaa
