/- Every input of SumBack answers true, and reads behind the call as it read before. No condition. -/
import Derived.Test.YtdhpjdnbdeghdaaSumWalkB
import Derived.Test.YtdhpjdnbdeghdaaSumPlain2
import Derived.Test.YtdhpjdnbdeghdaaFrame
namespace Go.Proofs.Ytdhpjdnbdeghdaa
set_option linter.unusedVariables false
open Go.RowKit
theorem fixOf_mod {s o n : Int} (hs : 0 ≤ s ∧ s ≤ 65535) (ho : 0 ≤ o ∧ o ≤ 65535) (hn : 0 ≤ n ∧ n ≤ 65535) : fixOf s o n % 65535 = (s + o - n) % 65535 := by
  unfold fixOf fo; split <;> omega
set_option maxHeartbeats 400000 in
theorem SumBack_walk (s a b c : Int) (w : World) (hs : 0 ≤ s ∧ s ≤ 65535) (ha : 0 ≤ a ∧ a ≤ 65535) (hb : 0 ≤ b ∧ b ≤ 65535) (hc : 0 ≤ c ∧ c ≤ 65535) :
    Calls Try.prog 8 #[.int .u16 s, .agg #[.int .u16 a, .int .u16 b, .int .u16 c]] w fun e w' => e = .returned (.bool true) ∧ Below w.heap.size w w' := by
  have b1 := fixOf_bd hs ha hb
  have b2 := fixOf_bd b1 hb ha
  have b3 := fixOf_bd b1 hb hc
  have b4 := fixOf_bd hs ha hc
  have m1 := fixOf_mod hs ha hb
  have e1 : fixOf (fixOf s a b) b a % 65535 = s % 65535 := by rw [fixOf_mod b1 hb ha]; omega
  have e2 : fixOf (fixOf s a b) b c % 65535 = fixOf s a c % 65535 := by rw [fixOf_mod b1 hb hc, fixOf_mod hs ha hc]; omega
  clear m1
  go_enter Try.func8, Try.ntmps8
  go_wp2
  go_region
  go_wp2_with (first
    | (go_at_call 17; refine (Fix_any _ _ _ _ (by omega) (by omega) (by omega)).mono ?_; rintro e w' ⟨rfl, rfl⟩)
    | (go_at_call 10; refine (sums_any _).mono ?_; rintro e w2 ⟨rfl, hb2⟩))
  go_ret
  exact ⟨rfl, ((Below.refl _ _).alloc (Nat.le_refl _) _).drew.trans (hb2.mono (by simp))⟩
theorem SumBack_args (W : World) (args : Array Value) (hs : args.size = Try.f8.params.size) (hA : ∀ (j : Nat) t v, Try.f8.params[j]? = some t → args[j]? = some v → Arg Try.prog W t v) :
    Calls Try.prog 8 args W fun e W' => e = .returned (.bool true) ∧ Below W.heap.size W W' := by
  obtain ⟨v0, v1, rfl⟩ := args2 hs
  obtain ⟨s, rfl, is⟩ := arg_int Try.underlying26 (hA 0 26 v0 rfl rfl)
  obtain ⟨cs, n, rfl, hcs, hh⟩ := arg_array Try.underlying40 (hA 1 40 v1 rfl rfl)
  obtain ⟨a, b, c, rfl⟩ := args3 (args := cs) (by rw [hcs]; kernel_rfl)
  have hC : Try.prog.cellsOf 26 = 1 := by kernel_rfl
  rw [hC] at hh
  obtain ⟨x, hx, ix⟩ := rdg_int Try.underlying26 (hh 0 (by omega))
  obtain ⟨y, hy, iy⟩ := rdg_int Try.underlying26 (hh 1 (by omega))
  obtain ⟨z, hz, iz⟩ := rdg_int Try.underlying26 (hh 2 (by omega))
  simp at hx hy hz
  subst hx hy hz
  exact SumBack_walk s x y z W (inr_u16 is) (inr_u16 ix) (inr_u16 iy) (inr_u16 iz)

set_option maxRecDepth 100000 in
theorem SumBack_lifted (os : Os) (started : os.Started) (H : Type) (enc : TypeId × Value → H) :
    ReturnsInHanded {} Try.checked os 8 .any (Rows.sumBackSpec.pre6 enc Try.prog Try.f8 Rows.sumBackRow.domain false) (Rows.sumBackSpec.post enc Try.prog Try.f8 false true false false) :=
  law_lifted os started H enc (by kernel_rfl) Try.func8 rfl rfl (fun H ds h => by match ds, h with | [_, _], _ => exact ⟨rfl, rfl, rfl⟩) (by kernel_rfl)
    (ChangeSpec.witness6 (enc := enc) (C := Try.checked) false ⟨#[], #[.int .u16 0, .agg #[.int .u16 0, .int .u16 0, .int .u16 0]], []⟩ 8 (by kernel_rfl) (by kernel_rfl) (by kernel_rfl) (by kernel_rfl))
    SumBack_args

/-- the statement -/
theorem sumBack_holds : Rows.SumBackSaid :=
  OpenClaim.holds_of_wide 8 Try.f8 rfl rfl rfl rfl rfl rfl rfl ⟨rfl, rfl, rfl, rfl, rfl⟩ rfl rfl rfl rfl rfl (by kernel_rfl) Try.func8 (by kernel_rfl)
    (of_decide_eq_true (by kernel_rfl)) (by unfold Func.isWrapper; first | (rw [if_pos (by decide +kernel)]; kernel_rfl) | (rw [if_neg (by decide +kernel)]; exact ⟨rfl, rfl⟩))
    (fun os started H enc _ => SumBack_lifted os started H enc)

end Go.Proofs.Ytdhpjdnbdeghdaa
