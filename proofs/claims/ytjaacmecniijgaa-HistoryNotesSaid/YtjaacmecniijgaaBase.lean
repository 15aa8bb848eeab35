/- Plain arithmetic that the walks use: masks, joins, and the closed form of folding. -/
import Derived.WalkKit
import Derived.Lib.Hide
namespace Go.Proofs.Ytjaacmecniijgaa
set_option linter.unusedVariables false
set_option linter.unusedSimpArgs false
open Go.RowKit

theorem and_mask {k : IntKind} (hk : k.signed = false) (m : Nat) (hm : m ≤ k.bits) (a : Int) : bits .and k a (2 ^ m - 1 : Nat) = a % (2 ^ m : Nat) := by
  show k.wrap ((BitVec.ofInt k.bits a &&& BitVec.ofInt k.bits ((2 ^ m - 1 : Nat) : Int)).toNat : Int) = _
  rw [BitVec.toNat_and, BitVec.ofInt_natCast, BitVec.toNat_ofNat]
  have hlt : 2 ^ m - 1 < 2 ^ k.bits := by
    have h1 : 2 ^ m ≤ 2 ^ k.bits := Nat.pow_le_pow_right (by omega) hm
    have h2 : 0 < 2 ^ m := Nat.two_pow_pos m
    omega
  rw [Nat.mod_eq_of_lt hlt, Nat.and_two_pow_sub_one_eq_mod]
  have e1 : ((BitVec.ofInt k.bits a).toNat : Int) = a % (2 ^ k.bits : Nat) := by rw [BitVec.toNat_ofInt]; have := Int.emod_nonneg a (b := ((2 ^ k.bits : Nat) : Int)) (by have := Nat.two_pow_pos k.bits; omega); omega
  have e2 : (((BitVec.ofInt k.bits a).toNat % 2 ^ m : Nat) : Int) = a % (2 ^ m : Nat) := by
    rw [Int.natCast_emod, e1]
    exact Int.emod_emod_of_dvd a (by exact_mod_cast Nat.pow_dvd_pow 2 hm)
  rw [e2]
  have hb : (2 ^ m : Nat) ≤ 2 ^ k.bits := Nat.pow_le_pow_right (by omega) hm
  have h0 := Int.emod_nonneg a (b := ((2 ^ m : Nat) : Int)) (by have := Nat.two_pow_pos m; omega)
  have h1 := Int.emod_lt_of_pos a (b := ((2 ^ m : Nat) : Int)) (by have := Nat.two_pow_pos m; omega)
  have hb' : ((2 ^ m : Nat) : Int) ≤ ((2 ^ k.bits : Nat) : Int) := by omega
  have e3 : (2 : Int) ^ k.bits = ((2 ^ k.bits : Nat) : Int) := by push_cast; rfl
  unfold IntKind.wrap
  rw [e3, Int.emod_eq_of_lt h0 (by omega)]
  simp [hk]
theorem u64_and65535 (a : Int) : bits .and .u64 a 65535 = a % 65536 := and_mask (k := .u64) rfl 16 (by decide) a
theorem sg_u8 : IntKind.u8.signed = false := rfl
theorem sg_u16 : IntKind.u16.signed = false := rfl
theorem sg_u32 : IntKind.u32.signed = false := rfl
theorem sg_u64 : IntKind.u64.signed = false := rfl
theorem sg_i64 : IntKind.i64.signed = true := rfl
attribute [go_sem] sg_u8 sg_u16 sg_u32 sg_u64 sg_i64
theorem xor_not (m : Nat) (x : Nat) (hx : x < 2 ^ m) : (2 ^ m - 1) ^^^ x = 2 ^ m - 1 - x := by
  have h := BitVec.toNat_not (x := BitVec.ofNat m x)
  have h2 : (BitVec.allOnes m ^^^ BitVec.ofNat m x).toNat = (~~~ (BitVec.ofNat m x)).toNat := by
    congr 1
  rw [BitVec.toNat_xor, BitVec.toNat_allOnes, h, BitVec.toNat_ofNat, Nat.mod_eq_of_lt hx] at h2
  exact h2
theorem cpl_u16 (x : Int) (h : 0 ≤ x ∧ x ≤ 65535) : bits .xor .u16 IntKind.u16.max x = 65535 - x := by
  rw [show IntKind.u16.max = 65535 from rfl, u16_xor _ _ (by omega) (by omega) (by omega) (by omega)]
  have := xor_not 16 x.toNat (by omega)
  have e : (65535 : Int).toNat = 2 ^ 16 - 1 := rfl
  rw [e, this]; omega
theorem ret_int {k : IntKind} {a b : Int} (h : a = b) : Ending.returned (.int k a) = .returned (.int k b) := by rw [h]
theorem ret_bool {a b : Bool} (h : a = b) : Ending.returned (.bool a) = .returned (.bool b) := by rw [h]
theorem minc (c : Int) (h : 0 ≤ c) (len : Nat) : ∃ m : Nat, (if c < (len : Int) then c else (len : Int)) = (m : Int) ∧ m ≤ len ∧ (m : Int) ≤ c := ⟨min len c.toNat, by split <;> omega, by omega, by omega⟩
/-- 'int(uint64(a) % uint64(n))' -/
theorem modn (a N : Int) (h : 0 < N) : ∃ q : Nat, (IntKind.u64.wrap a).tmod N = (q : Int) ∧ (q : Int) < N := by
  have h0 : 0 ≤ IntKind.u64.wrap a := by simp [IntKind.wrap, IntKind.bits, IntKind.signed]; omega
  have h1 := Int.emod_nonneg (IntKind.u64.wrap a) (show N ≠ 0 by omega)
  have h2 := Int.emod_lt_of_pos (IntKind.u64.wrap a) h
  exact ⟨((IntKind.u64.wrap a) % N).toNat, by rw [Int.tmod_eq_emod_of_nonneg h0]; omega, by omega⟩
/-- folding again and again what is beyond 16 bits -/
def fo (n : Int) : Int := if n = 0 then 0 else (n - 1) % 65535 + 1
theorem fo_small {n : Int} (h0 : 0 ≤ n) (h1 : n ≤ 65535) : fo n = n := by unfold fo; split <;> omega
theorem fo_step {n : Int} (h0 : 65535 < n) : fo (n / 65536 + n % 65536) = fo n := by unfold fo; rw [if_neg (by omega), if_neg (by omega)]; omega
theorem fo_bd {n : Int} (h0 : 0 ≤ n) : 0 ≤ fo n ∧ fo n ≤ 65535 := by unfold fo; split <;> omega
theorem fo_add (a b : Int) (ha : 0 ≤ a) (hb : 0 ≤ b) : fo (fo a + b) = fo (a + b) := by
  by_cases h : a = 0
  · subst h; rfl
  · have : fo a = (a - 1) % 65535 + 1 := by unfold fo; rw [if_neg h]
    rw [this]; unfold fo; rw [if_neg (by omega), if_neg (by omega)]; omega
theorem fo_fo (a : Int) (ha : 0 ≤ a) : fo (fo a) = fo a := fo_small (fo_bd ha).1 (fo_bd ha).2
attribute [go_sem] u64_and65535
end Go.Proofs.Ytjaacmecniijgaa
