/- Words of places as numbers, plain. -/
import Derived.Test.YtgkimfodbbgdbaaBase
import Derived.Laws.BitsAllLaws
namespace Go.Proofs.Ytgkimfodbbgdbaa
set_option linter.unusedVariables false
set_option linter.unusedSimpArgs false
open Go.RowKit
structure Wd where
  st : Int
  gen : Int
  tr : Int
  seen : Int
def Wd.ok (w : Wd) : Prop := (0 ≤ w.st ∧ w.st ≤ 3) ∧ (0 ≤ w.gen ∧ w.gen ≤ 65535) ∧ (0 ≤ w.tr ∧ w.tr ≤ 7) ∧ (0 ≤ w.seen ∧ w.seen ≤ 4294967295)
instance (w : Wd) : Decidable w.ok := by unfold Wd.ok; exact inferInstance
def Wd.num (w : Wd) : Int := w.st + 256 * w.tr + 65536 * w.gen + 4294967296 * w.seen
def unW (n : Int) : Wd := ⟨n % 4, n / 65536 % 65536, n / 256 % 8, n / 4294967296⟩
def Wd.same (a b : Wd) : Prop := b.gen = a.gen ∧ b.tr = a.tr ∧ b.seen = a.seen
instance (a b : Wd) : Decidable (a.same b) := by unfold Wd.same; exact inferInstance
def Wd.may (a b : Wd) : Prop := a.ok ∧ b.ok ∧ ((a.st = 0 ∧ b.st = 1 ∧ b.gen = (a.gen + 1) % 65536) ∨ (a.st = 1 ∧ (b.st = 2 ∨ b.st = 0) ∧ a.same b) ∨ (a.st = 2 ∧ (b.st = 2 ∧ b.gen = a.gen ∧ a.seen ≤ b.seen ∨ b.st = 3 ∧ a.same b)) ∨ (a.st = 3 ∧ b.st = 0 ∧ a.same b))
instance (a b : Wd) : Decidable (a.may b) := by unfold Wd.may; exact inferInstance
theorem num_bd {w : Wd} (h : w.ok) : 0 ≤ w.num ∧ w.num ≤ 18446744073709551615 := by unfold Wd.ok at h; unfold Wd.num; omega
theorem un_num {w : Wd} (h : w.ok) : unW w.num = w := by
  obtain ⟨a, b, c, d⟩ := w
  unfold Wd.ok at h
  simp only at h
  simp only [unW, Wd.num, Wd.mk.injEq]
  refine ⟨by omega, by omega, by omega, by omega⟩
theorem un_ok {n : Int} (h : 0 ≤ n ∧ n ≤ 18446744073709551615) : (unW n).ok := by simp only [Wd.ok, unW]; omega
theorem num_inj {a b : Wd} (ha : a.ok) (hb : b.ok) (h : a.num = b.num) : a = b := by rw [← un_num ha, h, un_num hb]
theorem Wd.ext' {a b : Wd} (h1 : a.st = b.st) (h2 : a.gen = b.gen) (h3 : a.tr = b.tr) (h4 : a.seen = b.seen) : a = b := by cases a; cases b; simp_all
theorem u64_or_add (m : Nat) (y x : Int) (hy : 0 ≤ y) (hy2 : y < (2 ^ m : Nat)) (hx : 0 ≤ x) (hx2 : x % (2 ^ m : Nat) = 0) (hs : x < 18446744073709551616) (hy3 : y < 18446744073709551616) : bits .or .u64 y x = y + x := by
  obtain ⟨a, rfl⟩ := Int.eq_ofNat_of_zero_le hy
  obtain ⟨b, rfl⟩ := Int.eq_ofNat_of_zero_le hx
  have h1 : b % 2 ^ m = 0 := by exact_mod_cast hx2
  have h2 : a < 2 ^ m := by exact_mod_cast hy2
  rw [u64_or _ _ hy hy3 hx hs, Int.toNat_natCast, Int.toNat_natCast, Nat.or_comm, nat_join m _ _ h1 h2]; omega
theorem or_num {w : Wd} (h : w.ok) : bits .or .u64 (bits .or .u64 (bits .or .u64 w.st (w.tr * 256)) (w.gen * 65536)) (w.seen * 4294967296) = w.num := by
  unfold Wd.ok at h
  rw [u64_or_add 8 w.st (w.tr * 256) (by omega) (by omega) (by omega) (by omega) (by omega) (by omega), u64_or_add 16 _ (w.gen * 65536) (by omega) (by omega) (by omega) (by omega) (by omega) (by omega), u64_or_add 32 _ (w.seen * 4294967296) (by omega) (by omega) (by omega) (by omega) (by omega) (by omega)]
  unfold Wd.num; omega
theorem u64_and3 (a : Int) : bits .and .u64 a 3 = a % 4 := and_mask (k := .u64) rfl 2 (by decide) a
theorem u64_and7 (a : Int) : bits .and .u64 a 7 = a % 8 := and_mask (k := .u64) rfl 3 (by decide) a
theorem i64_and65535 (a : Int) (h0 : 0 ≤ a) (h1 : a ≤ 65536) : bits .and .i64 a 65535 = a % 65536 := by
  obtain ⟨n, rfl⟩ := Int.eq_ofNat_of_zero_le h0
  show IntKind.i64.wrap ((BitVec.ofInt 64 (n : Int) &&& BitVec.ofInt 64 ((65535 : Nat) : Int)).toNat : Int) = _
  rw [BitVec.toNat_and, BitVec.ofInt_natCast, BitVec.toNat_ofNat, BitVec.ofInt_natCast, BitVec.toNat_ofNat]
  have h2 : n % 2 ^ 64 &&& 65535 % 2 ^ 64 = (n % 2 ^ 64) % 2 ^ 16 := Nat.and_two_pow_sub_one_eq_mod _ 16
  rw [h2, IntKind.wrap_i64]
  omega
theorem and_split (m a b c d : Nat) (hb : b < 2 ^ m) (hd : d < 2 ^ m) : (a * 2 ^ m + b) &&& (c * 2 ^ m + d) = (a &&& c) * 2 ^ m + (b &&& d) := by
  have hbd : b &&& d < 2 ^ m := Nat.lt_of_le_of_lt Nat.and_le_left hb
  apply Nat.eq_of_testBit_eq
  intro i
  rw [Nat.mul_comm a, Nat.mul_comm c, Nat.mul_comm (a &&& c), Nat.testBit_and, Nat.testBit_two_pow_mul_add _ hb, Nat.testBit_two_pow_mul_add _ hd, Nat.testBit_two_pow_mul_add _ hbd]
  split <;> simp [Nat.testBit_and]
theorem and_word (n : Int) (h : 0 ≤ n ∧ n ≤ 18446744073709551615) : bits .and .u64 n 18446744073709487875 = (unW n).num := by
  rw [u64_and _ _ (by omega) (by omega) (by omega) (by omega)]
  obtain ⟨k, rfl⟩ := Int.eq_ofNat_of_zero_le h.1
  have e : (k : Int).toNat &&& (18446744073709487875 : Int).toNat = (k / 65536 * 2 ^ 16 + ((k % 65536) / 256 * 2 ^ 8 + k % 256)) &&& ((2 ^ 48 - 1) * 2 ^ 16 + ((2 ^ 3 - 1) * 2 ^ 8 + (2 ^ 2 - 1))) := by
    congr 1
    simp only [Int.toNat_natCast]; omega
  rw [e, and_split 16 _ _ _ _ (by omega) (by omega), and_split 8 _ _ _ _ (by omega) (by omega), Nat.and_two_pow_sub_one_eq_mod, Nat.and_two_pow_sub_one_eq_mod, Nat.and_two_pow_sub_one_eq_mod]
  simp only [unW, Wd.num]
  omega
attribute [go_sem] u64_and3 u64_and7
end Go.Proofs.Ytgkimfodbbgdbaa
