/- Every input of SumBytes answers true, and reads behind the call as it read before. No condition. -/
import Derived.Test.YtdhpjdnbdeghdaaSumWalkB
import Derived.Test.YtdhpjdnbdeghdaaFrame
namespace Go.Proofs.Ytdhpjdnbdeghdaa
open Go.ChangeShapes Go.WideShapes Go.ChangeAt Go.RowKit
theorem SumBytes_args (W : World) (args : Array Value) (hs : args.size = Try.f3.params.size) (hA : ∀ (j : Nat) t v, Try.f3.params[j]? = some t → args[j]? = some v → Arg Try.prog W t v) :
    Calls Try.prog 3 args W fun e W' => e = .returned (.bool true) ∧ Below W.heap.size W W' := by
  obtain ⟨v0, v1, v2, rfl⟩ := args3 hs
  obtain ⟨A, len, cap, l, rfl, h1, h2, h3⟩ := arg_ints Try.underlying22 Try.underlying5 (by kernel_rfl) (hA 0 22 v0 rfl rfl)
  obtain ⟨a, rfl, wa⟩ := arg_int Try.underlying3 (hA 1 3 v1 rfl rfl)
  obtain ⟨n, rfl, wn⟩ := arg_int Try.underlying23 (hA 2 23 v2 rfl rfl)
  exact SumBytes_walk A len cap l a n W h3 h1 h2 wa wn

set_option maxRecDepth 100000 in
theorem SumBytes_lifted (os : Os) (started : os.Started) (H : Type) (enc : TypeId × Value → H) :
    ReturnsInHanded {} Try.checked os 3 .any (Rows.sumBytesSpec.pre6 enc Try.prog Try.f3 Rows.sumBytesRow.domain false) (Rows.sumBytesSpec.post enc Try.prog Try.f3 false true false false) :=
  law_lifted os started H enc (by kernel_rfl) Try.func3 rfl rfl (fun H ds h => by match ds, h with | [_, _, _], _ => exact ⟨rfl, rfl, rfl⟩) (by kernel_rfl)
    (ChangeSpec.witness6 (enc := enc) (C := Try.checked) false ⟨#[], #[.slice none 0 0, .int .i64 0, .int .u32 0], []⟩ 8 (by kernel_rfl) (by kernel_rfl) (by kernel_rfl) (by kernel_rfl))
    SumBytes_args

/-- the statement -/
theorem sumBytes_holds : Rows.SumBytesSaid :=
  OpenClaim.holds_of_wide 3 Try.f3 rfl rfl rfl rfl rfl rfl rfl ⟨rfl, rfl, rfl, rfl, rfl⟩ rfl rfl rfl rfl rfl (by kernel_rfl) Try.func3 (by kernel_rfl)
    (of_decide_eq_true (by kernel_rfl)) (by unfold Func.isWrapper; first | (rw [if_pos (by decide +kernel)]; kernel_rfl) | (rw [if_neg (by decide +kernel)]; exact ⟨rfl, rfl⟩))
    (fun os started H enc _ => SumBytes_lifted os started H enc)

end Go.Proofs.Ytdhpjdnbdeghdaa
