/- Every input of FanlightPorts answers true, and reads behind the call as it read before. The variable that the row lays (the table of the lowest bits) is tied to the program's text by the given tie. -/
import Derived.Test.YtilhkhnjloplfaaGreatDoorPp16
import Derived.Test.YtilhkhnjloplfaaGreatDoorPp14
import Derived.Test.YtilhkhnjloplfaaGreatDoorTie
import Derived.Test.YtilhkhnjloplfaaGreatDoorCards
import Derived.SevenTiedAt
import Derived.Lay
import Derived.OpenShut
namespace Go.Proofs.YtilhkhnjloplfaaGreatDoor
set_option linter.unusedVariables false
set_option linter.unusedSimpArgs false
open Go.ChangeShapes Go.WideShapes Go.ChangeAt Go.RowKit
theorem arr2r {cs : Array Value} {x0 x1 : Value} (h : cs.size = 2) (h0 : cs.toList[0]? = some x0) (h1 : cs.toList[1]? = some x1) : cs = #[x0, x1] := by
  obtain ⟨l⟩ := cs
  match l, h with
  | [y0, y1], _ =>
    simp only [List.getElem?_cons_zero, List.getElem?_cons_succ, Option.some.injEq] at h0 h1
    rw [h0, h1]
theorem arg_twor {W : World} {v : Value} (h : Arg Tryz.prog W 22 v) : ∃ x y : Int, v = .agg #[.int .i64 x, .int .i64 y] := by
  obtain ⟨cs, m, rfl, hs, hf⟩ := arg_array Tryz.underlying22 h
  have hC : Tryz.prog.cellsOf 22 = 2 := by kernel_rfl
  have hCi : Tryz.prog.cellsOf 3 = 1 := by kernel_rfl
  have key : ∀ i, i < 2 → ∃ n, cs.toList[i]? = some (.int .i64 n) := by
    intro i hi
    have h1 := hf i hi
    rw [hCi] at h1
    obtain ⟨n, hn, _⟩ := rdg_int Tryz.underlying3 h1
    refine ⟨n, ?_⟩
    have : ((cs.toList.drop (i * 1)).take 1)[0]? = some (.int .i64 n) := by rw [hn]; rfl
    simpa using this
  obtain ⟨x, hx⟩ := key 0 (by omega)
  obtain ⟨y, hy⟩ := key 1 (by omega)
  exact ⟨x, y, by rw [arr2r (hs.trans hC) hx hy]⟩
set_option maxRecDepth 100000 in
set_option maxHeartbeats 8000000 in
theorem FanlightPorts_args (W : World) (args : Array Value) (hs : args.size = Tryz.f3.params.size) (hA : ∀ (j : Nat) t v, Tryz.f3.params[j]? = some t → args[j]? = some v → Arg Tryz.prog W t v) (hT : Tab W) :
    Calls Tryz.prog 3 args W fun e W' => e = .returned (.bool true) ∧ Below W.heap.size W W' := by
  obtain ⟨v0, v1, rfl⟩ := args2 hs
  obtain ⟨x0, x1, rfl⟩ := arg_twor (hA 0 22 v0 rfl rfl)
  obtain ⟨A, len, cap, l, rfl, h1, h2, h3⟩ := arg_ints Tryz.underlying23 Tryz.underlying3 (by kernel_rfl) (hA 1 23 v1 rfl rfl)
  unfold maxLen at h2
  exact FanlightPorts_walk x0 x1 A len cap l W h3 (by omega) ⟨hT, tab_pos hT⟩
set_option maxRecDepth 100000 in
theorem FanlightPorts_lifted (os : Os) (started : os.Started) (H : Type) (enc : TypeId × Value → H) :
    ReturnsInHanded {} Tryz.checked os 3 .any (fun w args => (Rows.fanlightPortsSpec.pre enc Tryz.prog Tryz.f3 [] false w args ∧ laidMetH Tryz.prog [("math/bits.deBruijn64tab", Rows.laid_math_bits_deBruijn64tab)] w) ∧ sizedMet enc Tryz.prog Tryz.f3 (OpenSpec.ofChange Rows.fanlightPortsSpec) false w args) (Rows.fanlightPortsSpec.post enc Tryz.prog Tryz.f3 false true false false) :=
  law_lifted_laid os started H enc (by kernel_rfl) Tryz.func3 rfl rfl (fun H ds h => by match ds, h with | [_, _], _ => exact ⟨rfl, rfl, rfl⟩) (by kernel_rfl)
    (ChangeSpec.witness_shaped (enc := enc) (C := Tryz.checked) (os := os) (X := fun w _ => laidMetH Tryz.prog [("math/bits.deBruijn64tab", Rows.laid_math_bits_deBruijn64tab)] w) false (World.laidAll Tryz.prog os [("math/bits.deBruijn64tab", Rows.laid_math_bits_deBruijn64tab)]) #[.agg #[.int .i64 0, .int .i64 0], .slice none 0 0] 8 (World.laidAll_os _ _ _) (World.shaped_of_ZipB (by kernel_rfl) (by kernel_rfl)) (by kernel_rfl) (by kernel_rfl) (by kernel_rfl)
      (by rw [MakeChecks.laidMetH_plain _ _ _ (by kernel_rfl)]; exact laidMet_laidAll _ (by kernel_rfl) (by kernel_rfl)))
    FanlightPorts_args
theorem fanlightPorts_row_holds : Rows.FanlightPortsSaid :=
  OpenClaim.holds_of_wide 3 Tryz.f3 rfl rfl rfl rfl rfl rfl rfl ⟨rfl, rfl, rfl, rfl, rfl⟩ rfl rfl rfl rfl rfl (by kernel_rfl) Tryz.func3 (by kernel_rfl)
    (of_decide_eq_true (by kernel_rfl)) (by unfold Func.isWrapper; first | (rw [if_pos (by decide +kernel)]; kernel_rfl) | (rw [if_neg (by decide +kernel)]; exact ⟨rfl, rfl⟩))
    (fun os started H enc _ => FanlightPorts_lifted os started H enc)
/-- the statement -/
theorem fanlightPorts_holds : Rows.FanlightPortsCardSaid :=
  Claim7.holds_tied_plain_at .later [] [.data] true (true, "c4abf6acfd67dd3f668ffbb1139c7ab4c6849433c2cae6d935c54428bf5c10a1") false fanlightPorts_row_holds (fun _ h => by cases h) (by kernel_rfl) (fun _ h => by cases h) fanlightPorts_row_tie rfl ⟨rfl, rfl⟩ (by kernel_rfl) rfl
    (fun f fn hf hfn => by
      obtain rfl : f = 3 := Option.some.inj ((show Tryz.prog.funcNamed "fanlight/fanlighttop.FanlightPorts" = some 3 by kernel_rfl).symm.trans hf) |>.symm
      obtain rfl : fn = Tryz.f3 := (Option.some.inj (Tryz.func3.symm.trans hfn)).symm
      exact ⟨by kernel_rfl, fun j t ht => by
        rw [Tryz.params3] at ht
        have hm : t ∈ [22, 23] := by simpa using Array.mem_of_getElem? ht
        have hall : ([22, 23].all fun u => !Tryz.prog.wantsStandIn u) = true := by kernel_rfl
        exact (show Tryz.prog.wantsStandIn t = false by simpa using List.all_eq_true.1 hall t hm)⟩)
    (by kernel_rfl)
end Go.Proofs.YtilhkhnjloplfaaGreatDoor
