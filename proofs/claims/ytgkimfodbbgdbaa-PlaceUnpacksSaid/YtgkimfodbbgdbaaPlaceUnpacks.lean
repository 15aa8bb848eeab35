/- Every input of PlaceUnpacks answers true, and reads behind the call as it read before. No condition. -/
import Derived.Test.YtgkimfodbbgdbaaPlace5
import Derived.Test.YtgkimfodbbgdbaaFrame
namespace Go.Proofs.Ytgkimfodbbgdbaa
set_option linter.unusedVariables false
set_option linter.unusedSimpArgs false
open Go.RowKit
theorem PlaceUnpacks_any (n : Int) (w : World) (hn : 0 ≤ n ∧ n ≤ 18446744073709551615) :
    Calls Try.prog 4 #[.int .u64 n] w fun e w' => e = .returned (.bool true) ∧ Below w.heap.size w w' := by
  have ho := un_ok hn
  have hU := fun W => Unpack_any n W hn
  have hrU := fun W => rUnpack_any n W hn
  have hA := and_word n hn
  obtain ⟨a, b, c, d, hE⟩ : ∃ a b c d, unW n = ⟨a, b, c, d⟩ := ⟨_, _, _, _, rfl⟩
  rw [hE] at ho hU hrU hA
  have hP := fun W => Pack_any a b c d W
  rw [if_pos ho, if_pos ho] at hP
  obtain ⟨m, hm⟩ : ∃ m, m = (Wd.mk a b c d).num := ⟨_, rfl⟩
  rw [← hm] at hP hA
  have hv : (Wd.mk a b c d).val = .agg #[.int .i64 a, .int .i64 b, .int .i64 c, .int .i64 d] := rfl
  rw [hv] at hU hrU
  replace hU := Lib.hid hU
  replace hrU := Lib.hid hrU
  replace hP := Lib.hid hP
  clear hm hE hv ho
  go_enter Try.func4, Try.ntmps4
  go_wp2_with fail
  refine (hU.out _).mono ?_
  rintro e w1 ⟨rfl, b1⟩
  have k0 := Blk.new w1 28 #[.int .i64 a, .int .i64 b, .int .i64 c, .int .i64 d]
  have b0 := bel_after b1 (bel_alloc w1 (.cells #[.int .i64 a, .int .i64 b, .int .i64 c, .int .i64 d] 28))
  go_wp2_with fail
  refine (hP.out _).mono ?_
  rintro e w2 ⟨rfl, b2⟩
  replace k0 := k0.bel b2
  replace b0 := bel_after b0 b2
  clear b2
  go_wp2_with fail
  refine (moves_any _).mono ?_
  rintro e w3 ⟨rfl, b3⟩
  replace k0 := k0.bel b3
  replace b0 := bel_after b0 b3
  clear b3
  have c0 := k0.cell 0
  have c1 := k0.cell 1
  have c2 := k0.cell 2
  have c3 := k0.cell 3
  go_wp2_with fail
  refine (From_any _ _ _ _ _).mono ?_
  rintro e w4 ⟨rfl, b4⟩
  replace b0 := bel_after b0 b4
  go_wp2_with fail
  refine (hrU.out _).mono ?_
  rintro e w5 ⟨rfl, b5⟩
  go_wp2
  go_ret
  exact ⟨rfl, bel_after b0 b5⟩
theorem PlaceUnpacks_args (W : World) (args : Array Value) (hs : args.size = Try.f4.params.size) (hA : ∀ (j : Nat) t v, Try.f4.params[j]? = some t → args[j]? = some v → Arg Try.prog W t v) :
    Calls Try.prog 4 args W fun e W' => e = .returned (.bool true) ∧ Below W.heap.size W W' := by
  obtain ⟨v0, rfl⟩ := args1 hs
  obtain ⟨n, rfl, hn⟩ := arg_int Try.underlying24 (hA 0 24 v0 rfl rfl)
  exact PlaceUnpacks_any n W (inr_u64 hn)

set_option maxRecDepth 100000 in
theorem PlaceUnpacks_lifted (os : Os) (started : os.Started) (H : Type) (enc : TypeId × Value → H) :
    ReturnsInHanded {} Try.checked os 4 .any (Rows.placeUnpacksSpec.pre6 enc Try.prog Try.f4 Rows.placeUnpacksRow.domain false) (Rows.placeUnpacksSpec.post enc Try.prog Try.f4 false true false false) :=
  law_lifted os started H enc (by kernel_rfl) Try.func4 rfl rfl (fun H ds h => by match ds, h with | [_], _ => exact ⟨rfl, rfl, rfl⟩) (by kernel_rfl)
    (ChangeSpec.witness6 (enc := enc) (C := Try.checked) false ⟨#[], #[.int .u64 0], []⟩ 8 (by kernel_rfl) (by kernel_rfl) (by kernel_rfl) (by kernel_rfl))
    PlaceUnpacks_args

/-- the statement -/
theorem placeUnpacks_holds : Rows.PlaceUnpacksSaid :=
  OpenClaim.holds_of_wide 4 Try.f4 rfl rfl rfl rfl rfl rfl rfl ⟨rfl, rfl, rfl, rfl, rfl⟩ rfl rfl rfl rfl rfl (by kernel_rfl) Try.func4 (by kernel_rfl)
    (of_decide_eq_true (by kernel_rfl)) (by unfold Func.isWrapper; first | (rw [if_pos (by decide +kernel)]; kernel_rfl) | (rw [if_neg (by decide +kernel)]; exact ⟨rfl, rfl⟩))
    (fun os started H enc _ => PlaceUnpacks_lifted os started H enc)

end Go.Proofs.Ytgkimfodbbgdbaa
