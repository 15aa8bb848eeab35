/- Every input of PlaceMay answers true, and reads behind the call as it read before. No condition. -/
import Derived.Test.YtgkimfodbbgdbaaPlacePacks
namespace Go.Proofs.Ytgkimfodbbgdbaa
set_option linter.unusedVariables false
set_option linter.unusedSimpArgs false
open Go.RowKit
theorem May_at (a b c d e f g h : Int) (w : World) (B : Bool) (hB : decide ((Wd.mk a b c d).may (Wd.mk e f g h)) = B) :
    Calls Try.prog 16 #[.agg #[.int .i64 a, .int .i64 b, .int .i64 c, .int .i64 d], .agg #[.int .i64 e, .int .i64 f, .int .i64 g, .int .i64 h]] w fun r w' => r = .returned (.bool B) ∧ Below w.heap.size w w' := by
  rw [← hB]; exact May_any a b c d e f g h w
set_option maxHeartbeats 400000 in
theorem PlaceMay_any (a b c d e f g h : Int) (w : World) :
    Calls Try.prog 5 #[.agg #[.int .i64 a, .int .i64 b, .int .i64 c, .int .i64 d], .agg #[.int .i64 e, .int .i64 f, .int .i64 g, .int .i64 h]] w fun r w' => r = .returned (.bool true) ∧ Below w.heap.size w w' := by
  obtain ⟨B, hB⟩ : ∃ B, B = decide ((Wd.mk a b c d).may (Wd.mk e f g h)) := ⟨_, rfl⟩
  have hrM := fun W => rMay_any a b c d e f g h W
  rw [← hB] at hrM
  replace hrM := Lib.hid hrM
  have hM := Lib.hid hB.symm
  have hM1 := Lib.hid (show decide ((Wd.mk a b c d).may (Wd.mk 4 0 0 0)) = false from decide_eq_false fun hm => absurd hm.2.1 (by decide +kernel))
  have hM2 := Lib.hid (show decide ((Wd.mk (-1) 0 0 0).may (Wd.mk e f g h)) = false from decide_eq_false fun hm => absurd hm.1 (by decide +kernel))
  clear hB
  have hBB : (B == B) = true := by simp
  have k1 := (Blk.new w 23 #[.int .i64 a, .int .i64 b, .int .i64 c, .int .i64 d]).alloc (.cells #[.int .i64 e, .int .i64 f, .int .i64 g, .int .i64 h] 23)
  have k2 := Blk.new1 w (.cells #[.int .i64 a, .int .i64 b, .int .i64 c, .int .i64 d] 23) 23 #[.int .i64 e, .int .i64 f, .int .i64 g, .int .i64 h]
  have bw := (bel_alloc w (.cells #[.int .i64 a, .int .i64 b, .int .i64 c, .int .i64 d] 23)).alloc (by simp) (.cells #[.int .i64 e, .int .i64 f, .int .i64 g, .int .i64 h] 23)
  go_enter Try.func5, Try.ntmps5
  go_wp2_with fail
  generalize (w.alloc (.cells #[.int .i64 a, .int .i64 b, .int .i64 c, .int .i64 d] 23)).alloc (.cells #[.int .i64 e, .int .i64 f, .int .i64 g, .int .i64 h] 23) = W at *
  have x0 : ∀ t : Tw (fun w' => Below W.heap.size W w'), t.w.cell? ⟨w.heap.size, 0, none⟩ = some (.int .i64 a) := fun t => k1.tw k1.lt t 0
  have x1 : ∀ t : Tw (fun w' => Below W.heap.size W w'), t.w.cell? ⟨w.heap.size, 1, none⟩ = some (.int .i64 b) := fun t => k1.tw k1.lt t 1
  have x2 : ∀ t : Tw (fun w' => Below W.heap.size W w'), t.w.cell? ⟨w.heap.size, 2, none⟩ = some (.int .i64 c) := fun t => k1.tw k1.lt t 2
  have x3 : ∀ t : Tw (fun w' => Below W.heap.size W w'), t.w.cell? ⟨w.heap.size, 3, none⟩ = some (.int .i64 d) := fun t => k1.tw k1.lt t 3
  have y0 : ∀ t : Tw (fun w' => Below W.heap.size W w'), t.w.cell? ⟨w.heap.size + 1, 0, none⟩ = some (.int .i64 e) := fun t => k2.tw k2.lt t 0
  have y1 : ∀ t : Tw (fun w' => Below W.heap.size W w'), t.w.cell? ⟨w.heap.size + 1, 1, none⟩ = some (.int .i64 f) := fun t => k2.tw k2.lt t 1
  have y2 : ∀ t : Tw (fun w' => Below W.heap.size W w'), t.w.cell? ⟨w.heap.size + 1, 2, none⟩ = some (.int .i64 g) := fun t => k2.tw k2.lt t 2
  have y3 : ∀ t : Tw (fun w' => Below W.heap.size W w'), t.w.cell? ⟨w.heap.size + 1, 3, none⟩ = some (.int .i64 h) := fun t => k2.tw k2.lt t 3
  have : Nonempty (Tw (fun w' => Below W.heap.size W w')) := ⟨⟨W, Below.refl _ _⟩⟩
  refine region_tw (fun w' => Below W.heap.size W w') (by kernel_rfl) (by kernel_rfl) (Below.refl _ _).drew ?_
  unfold clsS
  repeat (first
    | go_big_quiet_skip
    | (go_big_quiet_want; go_big_quiet_op; first | go_big_quiet_on | go_big_quiet_call (
      (first
      | (go_at_call 12; exact q_tw (Nat.le_refl _) (moves_any _))
      | (go_at_call 10; exact q_tw (Nat.le_refl _) (To_any _ _ _ _ _))
      | (go_at_call 17; exact q_tw (Nat.le_refl _) (hrM.out _))
      | (go_at_call 16; exact q_tw (Nat.le_refl _) (May_at _ _ _ _ _ _ _ _ _ _ hM.out))
      | (go_at_call 16; exact q_tw (Nat.le_refl _) (May_at _ _ _ _ _ _ _ _ _ _ hM1.out))
      | (go_at_call 16; exact q_tw (Nat.le_refl _) (May_at _ _ _ _ _ _ _ _ _ _ hM2.out))))))
  refine wpQuiet_nil ?_
  intro tq
  go_wp2
  go_ret
  exact ⟨rfl, bel_after bw tq.h⟩
theorem PlaceMay_args (W : World) (args : Array Value) (hs : args.size = Try.f5.params.size) (hA : ∀ (j : Nat) t v, Try.f5.params[j]? = some t → args[j]? = some v → Arg Try.prog W t v) :
    Calls Try.prog 5 args W fun e W' => e = .returned (.bool true) ∧ Below W.heap.size W W' := by
  obtain ⟨v0, v1, rfl⟩ := args2 hs
  obtain ⟨a, b, c, d, rfl, _⟩ := arg_word (hA 0 23 v0 rfl rfl)
  obtain ⟨e, f, g, h, rfl, _⟩ := arg_word (hA 1 23 v1 rfl rfl)
  exact PlaceMay_any a b c d e f g h W

set_option maxRecDepth 100000 in
theorem PlaceMay_lifted (os : Os) (started : os.Started) (H : Type) (enc : TypeId × Value → H) :
    ReturnsInHanded {} Try.checked os 5 .any (Rows.placeMaySpec.pre6 enc Try.prog Try.f5 Rows.placeMayRow.domain false) (Rows.placeMaySpec.post enc Try.prog Try.f5 false true false false) :=
  law_lifted os started H enc (by kernel_rfl) Try.func5 rfl rfl (fun H ds h => by match ds, h with | [_, _], _ => exact ⟨rfl, rfl, rfl⟩) (by kernel_rfl)
    (ChangeSpec.witness6 (enc := enc) (C := Try.checked) false ⟨#[], #[.agg #[.int .i64 0, .int .i64 0, .int .i64 0, .int .i64 0], .agg #[.int .i64 0, .int .i64 0, .int .i64 0, .int .i64 0]], []⟩ 8 (by kernel_rfl) (by kernel_rfl) (by kernel_rfl) (by kernel_rfl))
    PlaceMay_args

/-- the statement -/
theorem placeMay_holds : Rows.PlaceMaySaid :=
  OpenClaim.holds_of_wide 5 Try.f5 rfl rfl rfl rfl rfl rfl rfl ⟨rfl, rfl, rfl, rfl, rfl⟩ rfl rfl rfl rfl rfl (by kernel_rfl) Try.func5 (by kernel_rfl)
    (of_decide_eq_true (by kernel_rfl)) (by unfold Func.isWrapper; first | (rw [if_pos (by decide +kernel)]; kernel_rfl) | (rw [if_neg (by decide +kernel)]; exact ⟨rfl, rfl⟩))
    (fun os started H enc _ => PlaceMay_lifted os started H enc)

end Go.Proofs.Ytgkimfodbbgdbaa
