/- The walks of package epoch: known, Now, Pin. -/
import Derived.Test.YtfcldnojmmhekaaEpoch3
namespace Go.Proofs.Ytfcldnojmmhekaa
set_option linter.unusedVariables false
set_option linter.unusedSimpArgs false
open Go.RowKit
theorem known_yes (x : Int) (b g h gr n : Nat) (L : List Int) (w : World) (ep : EpAt w b g h gr n L) (hx : 0 ≤ x ∧ x < n) :
    Calls Try.prog 35 #[.pointer (some ⟨b, 0, none⟩), .int .i64 x] w fun e w' => e = .returned (.bool true) ∧ w = w' := by
  have e1 := ep.obj.cell 1
  have h1 : decide (0 ≤ x) = true := by simpa using hx.1
  have h2 : decide (x < (n : Int)) = true := by simpa using hx.2
  obtain ⟨hx1, hx2⟩ := hx
  clear ep
  go_enter Try.func35, Try.ntmps35
  go_wp2
  go_ret
  exact ⟨rfl, rfl⟩
theorem EpNow_any (b g h gr n : Nat) (L : List Int) (w : World) (ep : EpAt w b g h gr n L) (m : Nat) (hm : celAt L 0 = m) (hm2 : m ≤ 1000000) :
    Calls Try.prog 13 #[.pointer (some ⟨b, 0, none⟩)] w fun e w' => e = .returned (.int .i64 m) ∧ w = w' := by
  have e0 := ep.obj.cell 0
  have n2 := ep.n2
  have hl : L.length ≤ 65536 := by rw [ep.len]; omega
  have hc := ep.cel
  have hw : wrap64 (m : Int) = m := IntWalk.wrap64_in _ (by omega)
  replace hm := Lib.hid hm
  go_enter Try.func13, Try.ntmps13
  go_wp2_with fail
  refine (Load_any 0 g h L _ hc hl).mono ?_
  rw [hm.out]
  rintro e w1 ⟨rfl, rfl⟩
  go_wp2_with fail
  go_ret
  exact ⟨rfl, rfl⟩
theorem EpPin_any (x : Int) (b g h gr n : Nat) (L : List Int) (w : World) (ep : EpAt w b g h gr n L) (hx : 0 ≤ x ∧ x < n) :
    Calls Try.prog 17 #[.pointer (some ⟨b, 0, none⟩), .int .i64 x] w fun e w' => ∃ nb, e = .returned (.pointer (some ⟨nb, 0, none⟩)) ∧ w.heap.size ≤ nb ∧ EsAt w' nb ⟨x, false, 0, 0, false, false⟩ ∧ Below w.heap.size w w' := by
  go_enter Try.func17, Try.ntmps17
  go_wp2_with fail
  refine (known_yes x b g h gr n L w ep hx).mono ?_
  rintro e w1 ⟨rfl, rfl⟩
  go_wp2_with fail
  go_ret
  exact ⟨_, rfl, Nat.le_refl _, Blk.new _ _ _, bel_alloc _ _⟩
end Go.Proofs.Ytfcldnojmmhekaa
