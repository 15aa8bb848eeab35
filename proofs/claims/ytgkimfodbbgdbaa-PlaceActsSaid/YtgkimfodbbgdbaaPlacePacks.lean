/- Every input of PlacePacks answers true, and reads behind the call as it read before. No condition. -/
import Derived.Test.YtgkimfodbbgdbaaPlace5
import Derived.Test.YtgkimfodbbgdbaaFrame
namespace Go.Proofs.Ytgkimfodbbgdbaa
set_option linter.unusedVariables false
set_option linter.unusedSimpArgs false
open Go.RowKit
theorem arr4 {cs : Array Value} (h : cs.size = 4) {a b c d : Value} (h0 : cs.toList[0]? = some a) (h1 : cs.toList[1]? = some b) (h2 : cs.toList[2]? = some c) (h3 : cs.toList[3]? = some d) : cs = #[a, b, c, d] := by
  obtain ⟨l⟩ := cs
  match l, h with
  | [x0, x1, x2, x3], _ =>
    simp only [List.getElem?_cons_zero, List.getElem?_cons_succ, Option.some.injEq] at h0 h1 h2 h3
    rw [h0, h1, h2, h3]
theorem arg_word {W : World} {v : Value} (h : Arg Try.prog W 23 v) : ∃ a b c d : Int, v = .agg #[.int .i64 a, .int .i64 b, .int .i64 c, .int .i64 d] ∧ inr .i64 a ∧ inr .i64 b ∧ inr .i64 c ∧ inr .i64 d := by
  obtain ⟨cs, m, rfl, hs, hf⟩ := arg_struct Try.underlying23 h
  have hC : Try.prog.cellsOf 23 = 4 := by kernel_rfl
  have hCi : Try.prog.cellsOf 3 = 1 := by kernel_rfl
  obtain ⟨x0, e0, r0⟩ := fld_int (i := 0) hf rfl Try.underlying3 hCi
  obtain ⟨x1, e1, r1⟩ := fld_int (i := 1) hf rfl Try.underlying3 hCi
  obtain ⟨x2, e2, r2⟩ := fld_int (i := 2) hf rfl Try.underlying3 hCi
  obtain ⟨x3, e3, r3⟩ := fld_int (i := 3) hf rfl Try.underlying3 hCi
  exact ⟨x0, x1, x2, x3, by rw [arr4 (hs.trans hC) e0 e1 e2 e3], r0, r1, r2, r3⟩
set_option maxHeartbeats 400000 in
theorem PlacePacks_any (a b c d : Int) (w : World) :
    Calls Try.prog 3 #[.agg #[.int .i64 a, .int .i64 b, .int .i64 c, .int .i64 d]] w fun e w' => e = .returned (.bool true) ∧ Below w.heap.size w w' := by
  by_cases h : (Wd.mk a b c d).ok
  · have hd := decide_eq_true h
    have hU := fun W => Unpack_any (Wd.mk a b c d).num W (num_bd h)
    rw [un_num h] at hU
    have hv : (Wd.mk a b c d).val = .agg #[.int .i64 a, .int .i64 b, .int .i64 c, .int .i64 d] := rfl
    rw [hv] at hU
    obtain ⟨m, hm⟩ : ∃ m, m = (Wd.mk a b c d).num := ⟨_, rfl⟩
    rw [← hm] at hU
    have hnn : (m != m) = false := by simp
    replace hU := Lib.hid hU
    replace hm := Lib.hid hm
    clear hv
    have k0 := Blk.new w 23 #[.int .i64 a, .int .i64 b, .int .i64 c, .int .i64 d]
    have b0 := bel_alloc w (.cells #[.int .i64 a, .int .i64 b, .int .i64 c, .int .i64 d] 23)
    go_enter Try.func3, Try.ntmps3
    go_wp2_with fail
    refine (To_any _ _ _ _ _).mono ?_
    rintro e w1 ⟨rfl, b1⟩
    replace k0 := k0.bel b1
    replace b0 := bel_after b0 b1
    clear b1
    go_wp2_with fail
    refine (Pack_any _ _ _ _ _).mono ?_
    rw [if_pos h, if_pos h, ← hm.out]
    rintro e w2 ⟨rfl, b2⟩
    replace k0 := k0.bel b2
    replace b0 := bel_after b0 b2
    clear b2
    have c0 := k0.cell 0
    have c1 := k0.cell 1
    have c2 := k0.cell 2
    have c3 := k0.cell 3
    go_wp2_with fail
    refine (rPack_any _ _ _ _ _).mono ?_
    rw [if_pos h, hd, ← hm.out]
    rintro e w3 ⟨rfl, b3⟩
    replace k0 := k0.bel b3
    replace b0 := bel_after b0 b3
    clear b3
    clear c0 c1 c2 c3
    go_wp2_with fail
    refine (moves_any _).mono ?_
    rintro e w4 ⟨rfl, b4⟩
    replace k0 := k0.bel b4
    replace b0 := bel_after b0 b4
    clear b4
    go_wp2_with fail
    have x0 : ∀ t : Tw (fun w' => Below w4.heap.size w4 w'), t.w.cell? ⟨w.heap.size, 0, none⟩ = some (.int .i64 a) := fun t => k0.tw k0.lt t 0
    have x1 : ∀ t : Tw (fun w' => Below w4.heap.size w4 w'), t.w.cell? ⟨w.heap.size, 1, none⟩ = some (.int .i64 b) := fun t => k0.tw k0.lt t 1
    have x2 : ∀ t : Tw (fun w' => Below w4.heap.size w4 w'), t.w.cell? ⟨w.heap.size, 2, none⟩ = some (.int .i64 c) := fun t => k0.tw k0.lt t 2
    have x3 : ∀ t : Tw (fun w' => Below w4.heap.size w4 w'), t.w.cell? ⟨w.heap.size, 3, none⟩ = some (.int .i64 d) := fun t => k0.tw k0.lt t 3
    have : Nonempty (Tw (fun w' => Below w4.heap.size w4 w')) := ⟨⟨w4, Below.refl _ _⟩⟩
    refine region_tw (fun w' => Below (w4).heap.size (w4) w') (by kernel_rfl) (by kernel_rfl) (Below.refl _ _).drew ?_
    unfold clsS
    repeat (first
      | go_big_quiet_skip
      | (go_big_quiet_want; go_big_quiet_op; first | go_big_quiet_on | go_big_quiet_call (
        (first 
          | (go_at_call 14; exact q_tw (Nat.le_refl _) (hU.out _))
          | (go_at_call 13; exact q_tw (Nat.le_refl _) (From_any _ _ _ _ _))))))
    refine wpQuiet_nil ?_
    intro tq
    go_wp2
    go_ret
    exact ⟨rfl, bel_after b0 tq.h⟩
  · have hd := decide_eq_false h
    have k0 := Blk.new w 23 #[.int .i64 a, .int .i64 b, .int .i64 c, .int .i64 d]
    have b0 := bel_alloc w (.cells #[.int .i64 a, .int .i64 b, .int .i64 c, .int .i64 d] 23)
    go_enter Try.func3, Try.ntmps3
    go_wp2_with fail
    refine (To_any _ _ _ _ _).mono ?_
    rintro e w1 ⟨rfl, b1⟩
    replace k0 := k0.bel b1
    replace b0 := bel_after b0 b1
    clear b1
    go_wp2_with fail
    refine (Pack_any _ _ _ _ _).mono ?_
    rw [if_neg h, if_neg h]
    rintro e w2 ⟨rfl, b2⟩
    replace k0 := k0.bel b2
    replace b0 := bel_after b0 b2
    clear b2
    have c0 := k0.cell 0
    have c1 := k0.cell 1
    have c2 := k0.cell 2
    have c3 := k0.cell 3
    go_wp2_with fail
    refine (rPack_any _ _ _ _ _).mono ?_
    rw [if_neg h, hd]
    rintro e w3 ⟨rfl, b3⟩
    replace k0 := k0.bel b3
    replace b0 := bel_after b0 b3
    clear b3
    clear c0 c1 c2 c3
    go_wp2_with fail
    refine (moves_any _).mono ?_
    rintro e w4 ⟨rfl, b4⟩
    replace k0 := k0.bel b4
    replace b0 := bel_after b0 b4
    clear b4
    go_wp2_with fail
    have : Nonempty (Tw (fun w' => Below w4.heap.size w4 w')) := ⟨⟨w4, Below.refl _ _⟩⟩
    refine region_tw (fun w' => Below (w4).heap.size (w4) w') (by kernel_rfl) (by kernel_rfl) (Below.refl _ _).drew ?_
    unfold clsS
    repeat (first
      | go_big_quiet_skip
      | (go_big_quiet_want; go_big_quiet_op; first | go_big_quiet_on | go_big_quiet_call (
        (first 
          | fail))))
    refine wpQuiet_nil ?_
    intro tq
    go_wp2
    go_ret
    exact ⟨rfl, bel_after b0 tq.h⟩
theorem PlacePacks_args (W : World) (args : Array Value) (hs : args.size = Try.f3.params.size) (hA : ∀ (j : Nat) t v, Try.f3.params[j]? = some t → args[j]? = some v → Arg Try.prog W t v) :
    Calls Try.prog 3 args W fun e W' => e = .returned (.bool true) ∧ Below W.heap.size W W' := by
  obtain ⟨v0, rfl⟩ := args1 hs
  obtain ⟨a, b, c, d, rfl, _⟩ := arg_word (hA 0 23 v0 rfl rfl)
  exact PlacePacks_any a b c d W

set_option maxRecDepth 100000 in
theorem PlacePacks_lifted (os : Os) (started : os.Started) (H : Type) (enc : TypeId × Value → H) :
    ReturnsInHanded {} Try.checked os 3 .any (Rows.placePacksSpec.pre6 enc Try.prog Try.f3 Rows.placePacksRow.domain false) (Rows.placePacksSpec.post enc Try.prog Try.f3 false true false false) :=
  law_lifted os started H enc (by kernel_rfl) Try.func3 rfl rfl (fun H ds h => by match ds, h with | [_], _ => exact ⟨rfl, rfl, rfl⟩) (by kernel_rfl)
    (ChangeSpec.witness6 (enc := enc) (C := Try.checked) false ⟨#[], #[.agg #[.int .i64 0, .int .i64 0, .int .i64 0, .int .i64 0]], []⟩ 8 (by kernel_rfl) (by kernel_rfl) (by kernel_rfl) (by kernel_rfl))
    PlacePacks_args

/-- the statement -/
theorem placePacks_holds : Rows.PlacePacksSaid :=
  OpenClaim.holds_of_wide 3 Try.f3 rfl rfl rfl rfl rfl rfl rfl ⟨rfl, rfl, rfl, rfl, rfl⟩ rfl rfl rfl rfl rfl (by kernel_rfl) Try.func3 (by kernel_rfl)
    (of_decide_eq_true (by kernel_rfl)) (by unfold Func.isWrapper; first | (rw [if_pos (by decide +kernel)]; kernel_rfl) | (rw [if_neg (by decide +kernel)]; exact ⟨rfl, rfl⟩))
    (fun os started H enc _ => PlacePacks_lifted os started H enc)

end Go.Proofs.Ytgkimfodbbgdbaa
