/- Every input of TrackTells answers true, and reads behind the call as it read before. No condition. -/
import Derived.Test.YtjhiiencakcajaaTrackNext
import Derived.Test.YtjhiiencakcajaaHeap
namespace Go.Proofs.Ytjhiiencakcajaa
set_option linter.unusedVariables false
open Go.RowKit
set_option maxHeartbeats 2000000 in
theorem TrackTells_walk (p st : Int) (out : Bool) (fl : Int) (w : World) :
    Calls Try.prog 6 #[.int .i64 p, .int .i64 st, .agg #[.bool out, .int .i64 fl]] w fun e w' => e = .returned (.bool true) ∧ Below w.heap.size w w' := by
  go_enter Try.func6, Try.ntmps6
  go_wp2_with fail
  have hb0 := Blk.new w 23 #[.bool out, .int .i64 fl]
  have bel0 : Below w.heap.size w (w.alloc (.cells #[.bool out, .int .i64 fl] 23)) := (Below.refl _ _).alloc (Nat.le_refl _) _
  go_loopw [7] (fun i wr => ∃ k : Nat, i = .int .i64 k ∧ k ≤ 4 ∧ Blk wr w.heap.size 23 #[.bool out, .int .i64 fl] ∧ Below w.heap.size w wr) (fun i _ => 4 - (intOf i).toNat)
  case atStart => exact ⟨0, rfl, by omega, hb0, bel0⟩
  case round =>
    clear hb0 bel0
    obtain ⟨k, rfl, hk, hb, bel⟩ := hrel
    have c0 : wr.cell? ⟨w.heap.size, 0, none⟩ = some (.bool out) := hb.cell 0
    have c1 : wr.cell? ⟨w.heap.size, 1, none⟩ = some (.int .i64 fl) := hb.cell 1
    have hlt := hb.lt
    by_cases hk4 : k < 4
    · have hks : k = 0 ∨ k = 1 ∨ k = 2 ∨ k = 3 := by omega
      rcases hks with rfl | rfl | rfl | rfl
      all_goals
        go_wp2_with fail
        go_quiet ((first
          | (go_at_call 10; exact quiet_l (Life_any _ _ _))
          | (go_at_call 11; exact quiet_l (rLife_any _ _ _))
          | (go_at_call 12; exact quiet_l (Renews_any _ _ _))
          | (go_at_call 13; exact quiet_l (rRenews_any _ _ _))
          | (go_at_call 14; exact quiet_l (Begins_any _ _ _ _))
          | (go_at_call 15; exact quiet_l (rBegins_any _ _ _ _))))
        go_wp2
        go_roundw
        case rel => first | exact ⟨1, rfl, by decide, (hb.alloc _).drewN nq, below_drewN (bel.alloc bel.size _) nq⟩ | exact ⟨2, rfl, by decide, (hb.alloc _).drewN nq, below_drewN (bel.alloc bel.size _) nq⟩ | exact ⟨3, rfl, by decide, (hb.alloc _).drewN nq, below_drewN (bel.alloc bel.size _) nq⟩ | exact ⟨4, rfl, by decide, (hb.alloc _).drewN nq, below_drewN (bel.alloc bel.size _) nq⟩
        case measure => simp [intOf]
    · obtain rfl : k = 4 := by omega
      go_wp2_with (first
        | (go_at_call 7; refine (opens_any _).mono ?_; rintro e w' ⟨rfl, rfl⟩)
        | (go_at_call 16; refine (Text_any _ _).mono ?_; rintro e w' ⟨rfl, rfl⟩)
        | (go_at_call 17; refine (rText_any _ _).mono ?_; rintro e w' ⟨rfl, rfl⟩))
      go_ret
      exact ⟨by simp, bel⟩
theorem TrackTells_args (W : World) (args : Array Value) (hs : args.size = Try.f6.params.size) (hA : ∀ (j : Nat) t v, Try.f6.params[j]? = some t → args[j]? = some v → Arg Try.prog W t v) :
    Calls Try.prog 6 args W fun e W' => e = .returned (.bool true) ∧ Below W.heap.size W W' := by
  obtain ⟨v0, v1, v2, rfl⟩ := args3 hs
  obtain ⟨p, rfl, _⟩ := arg_int Try.underlying3 (hA 0 3 v0 rfl rfl)
  obtain ⟨st, rfl, _⟩ := arg_int Try.underlying3 (hA 1 3 v1 rfl rfl)
  obtain ⟨out, fl, rfl⟩ := arg_seg (hA 2 23 v2 rfl rfl)
  exact TrackTells_walk p st out fl W

set_option maxRecDepth 100000 in
theorem TrackTells_lifted (os : Os) (started : os.Started) (H : Type) (enc : TypeId × Value → H) :
    ReturnsInHanded {} Try.checked os 6 .any (Rows.trackTellsSpec.pre6 enc Try.prog Try.f6 Rows.trackTellsRow.domain false) (Rows.trackTellsSpec.post enc Try.prog Try.f6 false true false false) :=
  law_lifted os started H enc (by kernel_rfl) Try.func6 rfl rfl (fun H ds h => by match ds, h with | [_, _, _], _ => exact ⟨rfl, rfl, rfl⟩) (by kernel_rfl)
    (ChangeSpec.witness6 (enc := enc) (C := Try.checked) false ⟨#[], #[.int .i64 0, .int .i64 0, .agg #[.bool false, .int .i64 0]], []⟩ 8 (by kernel_rfl) (by kernel_rfl) (by kernel_rfl) (by kernel_rfl))
    TrackTells_args

/-- the statement -/
theorem trackTells_holds : Rows.TrackTellsSaid :=
  OpenClaim.holds_of_wide 6 Try.f6 rfl rfl rfl rfl rfl rfl rfl ⟨rfl, rfl, rfl, rfl, rfl⟩ rfl rfl rfl rfl rfl (by kernel_rfl) Try.func6 (by kernel_rfl)
    (of_decide_eq_true (by kernel_rfl)) (by unfold Func.isWrapper; first | (rw [if_pos (by decide +kernel)]; kernel_rfl) | (rw [if_neg (by decide +kernel)]; exact ⟨rfl, rfl⟩))
    (fun os started H enc _ => TrackTells_lifted os started H enc)

end Go.Proofs.Ytjhiiencakcajaa
