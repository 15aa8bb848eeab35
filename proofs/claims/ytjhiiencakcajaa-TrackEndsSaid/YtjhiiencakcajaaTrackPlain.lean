/- Flags as bits, and how a connection stands, plain. -/
import Derived.Test.YtjhiiencakcajaaBase
namespace Go.Proofs.Ytjhiiencakcajaa
set_option linter.unusedVariables false
open Go.RowKit
theorem and32 (f : Int) (m : Nat) (hm : m < 32) : bits .and .i64 f (m : Int) = (((f % 32).toNat &&& m : Nat) : Int) := by
  show IntKind.i64.wrap ((BitVec.ofInt 64 f &&& BitVec.ofInt 64 (m : Int)).toNat : Int) = _
  rw [BitVec.ofInt_natCast, BitVec.toNat_and, BitVec.toNat_ofNat, Nat.mod_eq_of_lt (by omega)]
  have hb : ((BitVec.ofInt 64 f).toNat : Int) = f % 18446744073709551616 := by rw [BitVec.toNat_ofInt]; omega
  have h1 : (BitVec.ofInt 64 f).toNat &&& m ≤ m := Nat.and_le_right
  have h2 : ((BitVec.ofInt 64 f).toNat &&& m) % 2 ^ 5 = ((BitVec.ofInt 64 f).toNat % 2 ^ 5) &&& (m % 2 ^ 5) := Nat.and_mod_two_pow
  rw [Nat.mod_eq_of_lt (show (BitVec.ofInt 64 f).toNat &&& m < 2 ^ 5 by omega), Nat.mod_eq_of_lt (show m < 2 ^ 5 by omega)] at h2
  have h3 : (BitVec.ofInt 64 f).toNat % 2 ^ 5 = (f % 32).toNat := by omega
  rw [h3] at h2
  rw [h2]
  exact IntWalk.i64_in _ (by omega)
/-- is a flag set? -/
def fb (f m : Int) : Bool := bits .and .i64 f m != 0
theorem fb_nat (f : Int) (m : Nat) (hm : m < 32) : fb f m = ((f % 32).toNat &&& m != 0) := by
  unfold fb; rw [and32 f m hm, Bool.eq_iff_iff]; simp
theorem nat18 : ∀ x : Fin 32, ((x.val &&& 18) == 2) = ((x.val &&& 2 != 0) && !(x.val &&& 16 != 0)) := by decide +kernel
theorem nat23 : ∀ x : Fin 32, ((x.val &&& 23) == 2) = ((x.val &&& 2 != 0) && !(x.val &&& 1 != 0) && !(x.val &&& 4 != 0) && !(x.val &&& 16 != 0)) := by decide +kernel
theorem flags18 (f : Int) : (bits .and .i64 f 18 == 2) = (fb f 2 && !fb f 16) := by
  have h := nat18 ⟨(f % 32).toNat, by omega⟩
  have e1 := fb_nat f 2 (by omega)
  have e2 := fb_nat f 16 (by omega)
  rw [show fb f 2 = _ from e1, show fb f 16 = _ from e2, ← h]
  have := and32 f 18 (by omega)
  rw [show bits .and .i64 f 18 = _ from this, Bool.eq_iff_iff]; simp; omega
theorem flags23 (f : Int) : (bits .and .i64 f 23 == 2) = (fb f 2 && !fb f 1 && !fb f 4 && !fb f 16) := by
  have h := nat23 ⟨(f % 32).toNat, by omega⟩
  rw [show fb f 2 = _ from fb_nat f 2 (by omega), show fb f 16 = _ from fb_nat f 16 (by omega), show fb f 1 = _ from fb_nat f 1 (by omega), show fb f 4 = _ from fb_nat f 4 (by omega), ← h]
  have := and32 f 23 (by omega)
  rw [show bits .and .i64 f 23 = _ from this, Bool.eq_iff_iff]; simp; omega
/-- behind an end that was said -/
def endd (st : Int) (out : Bool) : Int :=
  if st = 0 ∨ st = 1 then (if out then 2 else 3) else if (st = 2 ∧ out = false) ∨ (st = 3 ∧ out = true) then 4 else st
def clampS (st : Int) : Int := if st < 0 ∨ 4 < st then 4 else st
/-- behind a segment: is Rst, Fin, Syn, Ack set? -/
def nxt (proto state : Int) (out r f s k : Bool) : Int :=
  if proto ≠ 6 then 0 else if r then 4 else if f then endd (clampS state) out
  else if s && !k && out && (clampS state == 4) then 0 else if k && !out && (clampS state == 0) then 1 else clampS state
theorem clampS_bd (st : Int) : 0 ≤ clampS st ∧ clampS st ≤ 4 := by unfold clampS; split <;> omega
end Go.Proofs.Ytjhiiencakcajaa
