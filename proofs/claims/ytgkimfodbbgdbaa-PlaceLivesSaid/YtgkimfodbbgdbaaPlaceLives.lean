/- Every input of PlaceLives answers true, and reads behind the call as it read before. No condition. -/
import Derived.Test.YtgkimfodbbgdbaaPlaceLives2
namespace Go.Proofs.Ytgkimfodbbgdbaa
set_option linter.unusedVariables false
set_option linter.unusedSimpArgs false
open Go.RowKit
theorem PlaceLives_args (W : World) (args : Array Value) (hs : args.size = Try.f6.params.size) (hA : ∀ (j : Nat) t v, Try.f6.params[j]? = some t → args[j]? = some v → Arg Try.prog W t v) :
    Calls Try.prog 6 args W fun e W' => e = .returned (.bool true) ∧ Below W.heap.size W W' := by
  obtain ⟨v1, rfl⟩ := args1 hs
  obtain ⟨A, len, cap, m, rfl, h1, h2, h3⟩ := arg_slice Try.underlying40 (hA 0 40 v1 rfl rfl)
  have hC : Try.prog.cellsOf 49 = 13 := by kernel_rfl
  have hCi : Try.prog.cellsOf 3 = 1 := by kernel_rfl
  have hCw : Try.prog.cellsOf 23 = 4 := by kernel_rfl
  have hCf : Try.prog.cellsOf 47 = 3 := by kernel_rfl
  have hC3 : Try.prog.cellsOf 44 = 1 := by kernel_rfl
  have hC1 : Try.prog.cellsOf 45 = 1 := by kernel_rfl
  rw [hC] at h3
  have h4 := slice_rows (by omega) h3
  unfold maxLen at h2
  have hrd : AcRd W A len := by
    intro hp
    obtain ⟨b, o, rfl, hb, hi⟩ := h4 hp
    refine ⟨b, o, rfl, hb, fun i hil => ?_⟩
    obtain ⟨ys, hc, hl, hr⟩ := hi i hil
    obtain ⟨m', _, hf⟩ := rdg_struct Try.underlying49 hr
    obtain ⟨x0, e0, r0⟩ := fld_int (i := 0) hf rfl Try.underlying3 hCi
    obtain ⟨x1, e1, r1⟩ := fld_int (i := 1) hf rfl Try.underlying3 hCi
    obtain ⟨m2, _, hf2⟩ := rdg_struct Try.underlying23 (hf 2 _ rfl)
    obtain ⟨m3, _, hf3⟩ := rdg_struct Try.underlying23 (hf 3 _ rfl)
    obtain ⟨m4, _, hf4⟩ := rdg_struct Try.underlying47 (hf 4 _ rfl)
    obtain ⟨o0, u0, s0⟩ := fld_int (i := 0) hf2 rfl Try.underlying3 hCi
    obtain ⟨o1, u1, s1⟩ := fld_int (i := 1) hf2 rfl Try.underlying3 hCi
    obtain ⟨o2, u2, s2⟩ := fld_int (i := 2) hf2 rfl Try.underlying3 hCi
    obtain ⟨o3, u3, s3⟩ := fld_int (i := 3) hf2 rfl Try.underlying3 hCi
    obtain ⟨n0, v0, t0⟩ := fld_int (i := 0) hf3 rfl Try.underlying3 hCi
    obtain ⟨n1, v1, t1⟩ := fld_int (i := 1) hf3 rfl Try.underlying3 hCi
    obtain ⟨n2, v2, t2⟩ := fld_int (i := 2) hf3 rfl Try.underlying3 hCi
    obtain ⟨n3, v3, t3⟩ := fld_int (i := 3) hf3 rfl Try.underlying3 hCi
    obtain ⟨kp, w0, p0⟩ := fld_int (i := 0) hf4 rfl Try.underlying3 hCi
    obtain ⟨ka, w1, p1⟩ := fld_int (i := 1) hf4 rfl Try.underlying44 hC3
    obtain ⟨kr, w2, p2⟩ := fld_int (i := 2) hf4 rfl Try.underlying45 hC1
    clear hf hf2 hf3 hf4 hr h3 h4 hi hA
    simp [List.getElem?_take, List.getElem?_drop, hCw, hCf] at u0 u1 u2 u3 v0 v1 v2 v3 w0 w1 w2
    refine ⟨⟨x0, x1, ⟨o0, o1, o2, o3⟩, ⟨n0, n1, n2, n3⟩, kp, ka, kr⟩, ⟨r0, r1, ⟨s0, s1, s2, s3⟩, ⟨t0, t1, t2, t3⟩, p0, p1, p2⟩, fun j v hj => ?_⟩
    have hj13 : j < 13 := by
      rcases Nat.lt_or_ge j 13 with h | h
      · exact h
      · rw [List.getElem?_eq_none (by simp [Ac.cs]; omega)] at hj; cases hj
    refine (hc j (by omega)).trans ?_
    rw [← hj]
    have h13 : j = 0 ∨ j = 1 ∨ j = 2 ∨ j = 3 ∨ j = 4 ∨ j = 5 ∨ j = 6 ∨ j = 7 ∨ j = 8 ∨ j = 9 ∨ j = 10 ∨ j = 11 ∨ j = 12 := by omega
    rcases h13 with rfl | rfl | rfl | rfl | rfl | rfl | rfl | rfl | rfl | rfl | rfl | rfl | rfl
    · exact e0
    · exact e1
    · exact u0
    · exact u1
    · exact u2
    · exact u3
    · exact v0
    · exact v1
    · exact v2
    · exact v3
    · exact w0
    · exact w1
    · exact w2
  exact PlaceLives_yes A len cap W hrd (by omega)

set_option maxRecDepth 100000 in
theorem PlaceLives_lifted (os : Os) (started : os.Started) (H : Type) (enc : TypeId × Value → H) :
    ReturnsInHanded {} Try.checked os 6 .any (Rows.placeLivesSpec.pre6 enc Try.prog Try.f6 Rows.placeLivesRow.domain false) (Rows.placeLivesSpec.post enc Try.prog Try.f6 false true false false) :=
  law_lifted os started H enc (by kernel_rfl) Try.func6 rfl rfl (fun H ds h => by match ds, h with | [_], _ => exact ⟨rfl, rfl, rfl⟩) (by kernel_rfl)
    (ChangeSpec.witness6 (enc := enc) (C := Try.checked) false ⟨#[], #[.slice none 0 0], []⟩ 8 (by kernel_rfl) (by kernel_rfl) (by kernel_rfl) (by kernel_rfl))
    PlaceLives_args

/-- the statement -/
theorem placeLives_holds : Rows.PlaceLivesSaid :=
  OpenClaim.holds_of_wide 6 Try.f6 rfl rfl rfl rfl rfl rfl rfl ⟨rfl, rfl, rfl, rfl, rfl⟩ rfl rfl rfl rfl rfl (by kernel_rfl) Try.func6 (by kernel_rfl)
    (of_decide_eq_true (by kernel_rfl)) (by unfold Func.isWrapper; first | (rw [if_pos (by decide +kernel)]; kernel_rfl) | (rw [if_neg (by decide +kernel)]; exact ⟨rfl, rfl⟩))
    (fun os started H enc _ => PlaceLives_lifted os started H enc)

end Go.Proofs.Ytgkimfodbbgdbaa
