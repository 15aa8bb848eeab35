/- Every input of TrackNext answers true, and reads behind the call as it read before. No condition. -/
import Derived.Test.YtjhiiencakcajaaTrack2
import Derived.Test.YtjhiiencakcajaaFrame
namespace Go.Proofs.Ytjhiiencakcajaa
set_option linter.unusedVariables false
open Go.RowKit
set_option maxHeartbeats 1000000 in
theorem TrackNext_walk (p st : Int) (out : Bool) (fl : Int) (w : World) :
    Calls Try.prog 3 #[.int .i64 p, .int .i64 st, .agg #[.bool out, .int .i64 fl]] w fun e w' => e = .returned (.bool true) ∧ Below w.heap.size w w' := by
  go_enter Try.func3, Try.ntmps3
  go_wp2
  go_quiet ((first
    | (go_at_call 7; exact quiet_l (opens_any _))
    | (go_at_call 8; exact quiet_l (Next_any _ _ _ _ _))
    | (go_at_call 9; exact quiet_l (rNext_any _ _ _ _ _))))
  go_wp2
  go_ret
  exact ⟨rfl, below_drewN ((Below.refl _ _).alloc (Nat.le_refl _) _) nq⟩
/-- a segment by value -/
theorem arg_seg {W : World} {v : Value} (h : Arg Try.prog W 23 v) : ∃ out fl, v = .agg #[.bool out, .int .i64 fl] := by
  obtain ⟨cs, m, rfl, hs, hf⟩ := arg_struct Try.underlying23 h
  obtain ⟨a, b, rfl⟩ := args2 (args := cs) (by rw [hs]; kernel_rfl)
  obtain ⟨x, e0⟩ := fld_bool (i := 0) hf rfl Try.underlying4 (by kernel_rfl)
  obtain ⟨y, e1, _⟩ := fld_int (i := 1) hf rfl Try.underlying3 (by kernel_rfl)
  simp at e0 e1
  exact ⟨x, y, by rw [e0, e1]⟩
theorem TrackNext_args (W : World) (args : Array Value) (hs : args.size = Try.f3.params.size) (hA : ∀ (j : Nat) t v, Try.f3.params[j]? = some t → args[j]? = some v → Arg Try.prog W t v) :
    Calls Try.prog 3 args W fun e W' => e = .returned (.bool true) ∧ Below W.heap.size W W' := by
  obtain ⟨v0, v1, v2, rfl⟩ := args3 hs
  obtain ⟨p, rfl, _⟩ := arg_int Try.underlying3 (hA 0 3 v0 rfl rfl)
  obtain ⟨st, rfl, _⟩ := arg_int Try.underlying3 (hA 1 3 v1 rfl rfl)
  obtain ⟨out, fl, rfl⟩ := arg_seg (hA 2 23 v2 rfl rfl)
  exact TrackNext_walk p st out fl W

set_option maxRecDepth 100000 in
theorem TrackNext_lifted (os : Os) (started : os.Started) (H : Type) (enc : TypeId × Value → H) :
    ReturnsInHanded {} Try.checked os 3 .any (Rows.trackNextSpec.pre6 enc Try.prog Try.f3 Rows.trackNextRow.domain false) (Rows.trackNextSpec.post enc Try.prog Try.f3 false true false false) :=
  law_lifted os started H enc (by kernel_rfl) Try.func3 rfl rfl (fun H ds h => by match ds, h with | [_, _, _], _ => exact ⟨rfl, rfl, rfl⟩) (by kernel_rfl)
    (ChangeSpec.witness6 (enc := enc) (C := Try.checked) false ⟨#[], #[.int .i64 0, .int .i64 0, .agg #[.bool false, .int .i64 0]], []⟩ 8 (by kernel_rfl) (by kernel_rfl) (by kernel_rfl) (by kernel_rfl))
    TrackNext_args

/-- the statement -/
theorem trackNext_holds : Rows.TrackNextSaid :=
  OpenClaim.holds_of_wide 3 Try.f3 rfl rfl rfl rfl rfl rfl rfl ⟨rfl, rfl, rfl, rfl, rfl⟩ rfl rfl rfl rfl rfl (by kernel_rfl) Try.func3 (by kernel_rfl)
    (of_decide_eq_true (by kernel_rfl)) (by unfold Func.isWrapper; first | (rw [if_pos (by decide +kernel)]; kernel_rfl) | (rw [if_neg (by decide +kernel)]; exact ⟨rfl, rfl⟩))
    (fun os started H enc _ => TrackNext_lifted os started H enc)

end Go.Proofs.Ytjhiiencakcajaa
