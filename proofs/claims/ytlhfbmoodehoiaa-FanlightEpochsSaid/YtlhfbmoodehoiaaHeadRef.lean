/- The walks of the reference of heads: Num, Get. -/
import Derived.Test.YtlhfbmoodehoiaaHead2
namespace Go.Proofs.Ytlhfbmoodehoiaa
set_option linter.unusedVariables false
set_option linter.unusedSimpArgs false
open Go.RowKit
theorem i64_and3FFF (f : Int) (h : 0 ≤ f ∧ f ≤ 65535) : bits .and .i64 f 16383 = f % 16384 := by
  show IntKind.i64.wrap ((BitVec.ofInt 64 f &&& BitVec.ofInt 64 ((16383 : Nat) : Int)).toNat : Int) = _
  rw [BitVec.ofInt_natCast, BitVec.toNat_and, BitVec.toNat_ofNat, Nat.mod_eq_of_lt (by omega)]
  have hb : ((BitVec.ofInt 64 f).toNat : Int) = f % 18446744073709551616 := by rw [BitVec.toNat_ofInt]; omega
  have h2 : (BitVec.ofInt 64 f).toNat &&& 16383 = (BitVec.ofInt 64 f).toNat % 2 ^ 14 := Nat.and_two_pow_sub_one_eq_mod _ 14
  rw [h2]
  have h3 : (((BitVec.ofInt 64 f).toNat % 2 ^ 14 : Nat) : Int) = f % 16384 := by omega
  rw [h3]
  exact IntWalk.i64_in _ (by omega)
def getP (l : List Int) (part : Bool) : Int := if part then partE l else getE l
theorem getP_cases (l : List Int) (p : Bool) (hb : n2 l 2 ≤ 65535 ∨ l.length < 20) :
    (getP l p = 2 ∧ l.length < 20) ∨
    (getP l p = 3 ∧ 20 ≤ l.length ∧ (l.getD 0 0 / 16 == 4) = false ∧ (l.getD 0 0 / 16 != 4) = true) ∨
    (getP l p = 3 ∧ 20 ≤ l.length ∧ l.getD 0 0 / 16 = 4 ∧ l.getD 0 0 % 16 * 4 < 20) ∨
    (20 ≤ l.length ∧ l.getD 0 0 / 16 = 4 ∧ 20 ≤ l.getD 0 0 % 16 * 4 ∧
      ((getP l p = 2 ∧ (l.length : Int) < l.getD 0 0 % 16 * 4) ∨
       (l.getD 0 0 % 16 * 4 ≤ l.length ∧
        ((getP l p = 3 ∧ n2 l 2 < l.getD 0 0 % 16 * 4) ∨
         (l.getD 0 0 % 16 * 4 ≤ n2 l 2 ∧
          ((p = false ∧ getP l p = 3 ∧ 1500 < n2 l 2) ∨
           (p = false ∧ n2 l 2 ≤ 1500 ∧
             ((getP l p = 2 ∧ (l.length : Int) < n2 l 2) ∨
              (n2 l 2 ≤ l.length ∧
               ((getP l p = 4 ∧ (sumOf (l.take (l.getD 0 0 % 16 * 4).toNat) != 0) = true) ∨
                ((sumOf (l.take (l.getD 0 0 % 16 * 4).toNat) != 0) = false ∧ getP l p = wholeE l))))) ∨
           (p = true ∧ getP l p = wholeE l))))))) := by
  cases p
  · have ep : getP l false = getE l := rfl
    rw [ep]
    rcases shape_cases l 1500 with ⟨h, h1⟩ | ⟨h, h1⟩ | ⟨h, h1⟩ | ⟨h, h1, h2, h3, h4⟩ | ⟨h, h1, h2, h3, h4, h5⟩ | ⟨h, h1, h2, h3, h4, h5, h6⟩ | ⟨h, h1, h2, h3, h4, h5, h6⟩
    · have e : getE l = 2 := by unfold getE; rw [h]; rfl
      exact .inl ⟨e, h1⟩
    · have e : getE l = 3 := by unfold getE; rw [h]; rfl
      exact .inr (.inl ⟨e, h1⟩)
    · have e : getE l = 3 := by unfold getE; rw [h]; rfl
      exact .inr (.inr (.inl ⟨e, h1⟩))
    · have e : getE l = 2 := by unfold getE; rw [h]; rfl
      exact .inr (.inr (.inr ⟨h1, h2, h3, .inl ⟨e, h4⟩⟩))
    · have e : getE l = 3 := by unfold getE; rw [h]; rfl
      exact .inr (.inr (.inr ⟨h1, h2, h3, .inr ⟨h4, .inl ⟨e, h5⟩⟩⟩))
    · have e : getE l = 3 := by unfold getE; rw [h]; rfl
      exact .inr (.inr (.inr ⟨h1, h2, h3, .inr ⟨h4, .inr ⟨h5, .inl ⟨rfl, e, h6⟩⟩⟩⟩))
    · rcases getE_cases l with ⟨h', _⟩ | ⟨_, _, _, _, h7, e⟩ | ⟨_, _, _, _, h7, h8, e⟩ | ⟨_, _, _, _, h7, h8, e⟩
      · omega
      · exact .inr (.inr (.inr ⟨h1, h2, h3, .inr ⟨h4, .inr ⟨h5, .inr (.inl ⟨rfl, h6, .inl ⟨e, h7⟩⟩)⟩⟩⟩))
      · exact .inr (.inr (.inr ⟨h1, h2, h3, .inr ⟨h4, .inr ⟨h5, .inr (.inl ⟨rfl, h6, .inr ⟨h7, .inl ⟨e, h8⟩⟩⟩)⟩⟩⟩))
      · exact .inr (.inr (.inr ⟨h1, h2, h3, .inr ⟨h4, .inr ⟨h5, .inr (.inl ⟨rfl, h6, .inr ⟨h7, .inr ⟨h8, e⟩⟩⟩)⟩⟩⟩))
  · have ep : getP l true = partE l := rfl
    rw [ep]
    rcases shape_cases l 65535 with ⟨h, h1⟩ | ⟨h, h1⟩ | ⟨h, h1⟩ | ⟨h, h1, h2, h3, h4⟩ | ⟨h, h1, h2, h3, h4, h5⟩ | ⟨h, h1, h2, h3, h4, h5, h6⟩ | ⟨h, h1, h2, h3, h4, h5, h6⟩
    · have e : partE l = 2 := by unfold partE; rw [h]; rfl
      exact .inl ⟨e, h1⟩
    · have e : partE l = 3 := by unfold partE; rw [h]; rfl
      exact .inr (.inl ⟨e, h1⟩)
    · have e : partE l = 3 := by unfold partE; rw [h]; rfl
      exact .inr (.inr (.inl ⟨e, h1⟩))
    · have e : partE l = 2 := by unfold partE; rw [h]; rfl
      exact .inr (.inr (.inr ⟨h1, h2, h3, .inl ⟨e, h4⟩⟩))
    · have e : partE l = 3 := by unfold partE; rw [h]; rfl
      exact .inr (.inr (.inr ⟨h1, h2, h3, .inr ⟨h4, .inl ⟨e, h5⟩⟩⟩))
    · omega
    · have e : partE l = wholeE l := by unfold partE; rw [h]; rfl
      exact .inr (.inr (.inr ⟨h1, h2, h3, .inr ⟨h4, .inr ⟨h5, .inr (.inr ⟨rfl, e⟩)⟩⟩⟩))
end Go.Proofs.Ytlhfbmoodehoiaa
