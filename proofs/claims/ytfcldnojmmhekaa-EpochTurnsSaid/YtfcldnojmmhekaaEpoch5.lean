/- The walks of package epoch: Pinned, Unpin. -/
import Derived.Test.YtfcldnojmmhekaaEpoch4
namespace Go.Proofs.Ytfcldnojmmhekaa
set_option linter.unusedVariables false
set_option linter.unusedSimpArgs false
open Go.RowKit
theorem EpPinned_any (x : Int) (b g h gr n : Nat) (L : List Int) (w : World) (ep : EpAt w b g h gr n L) (hx : 0 ≤ x ∧ x < n) (m : Nat) (hm : celAt L (1 + x) = m) (hm2 : m ≤ 1000000) :
    Calls Try.prog 18 #[.pointer (some ⟨b, 0, none⟩), .int .i64 x] w fun e w' => e = .returned (.int .i64 ((m : Int) - 1)) ∧ w = w' := by
  have e0 := ep.obj.cell 0
  have n2 := ep.n2
  have hl : L.length ≤ 65536 := by rw [ep.len]; omega
  have hc := ep.cel
  have hw : wrap64 (m : Int) = m := IntWalk.wrap64_in _ (by omega)
  have hw1 : wrap64 ((m : Int) - 1) = (m : Int) - 1 := IntWalk.wrap64_in _ (by omega)
  have hw2 : wrap64 (1 + x) = 1 + x := IntWalk.wrap64_in _ (by omega)
  replace hm := Lib.hid hm
  go_enter Try.func18, Try.ntmps18
  go_wp2_with fail
  refine (known_yes x b g h gr n L w ep hx).mono ?_
  rintro e w1 ⟨rfl, rfl⟩
  go_wp2_with fail
  refine (Load_any (1 + x) g h L _ hc hl).mono ?_
  rw [hm.out]
  rintro e w1 ⟨rfl, rfl⟩
  go_wp2_with fail
  go_ret
  exact ⟨rfl, rfl⟩
theorem EpUnpin_any (x : Int) (b g h gr n : Nat) (L : List Int) (w : World) (ep : EpAt w b g h gr n L) (hx : 0 ≤ x ∧ x < n) :
    Calls Try.prog 19 #[.pointer (some ⟨b, 0, none⟩), .int .i64 x] w fun e w' => e = .returned (.tuple #[]) ∧ EpAt w' b g h gr n (celSet L (1 + x) 0) ∧ Upd (fun y => y = h) w w' := by
  have e0 := ep.obj.cell 0
  have n2 := ep.n2
  have hl : L.length ≤ 65536 := by rw [ep.len]; omega
  have hc := ep.cel
  have hw2 : wrap64 (1 + x) = 1 + x := IntWalk.wrap64_in _ (by omega)
  have hz : inr .u64 (0 : Int) := u64_inr (by omega)
  obtain ⟨hgb, hhb, hgh⟩ := ep.ne
  go_enter Try.func19, Try.ntmps19
  go_wp2_with fail
  refine (known_yes x b g h gr n L w ep hx).mono ?_
  rintro e w1 ⟨rfl, rfl⟩
  go_wp2_with fail
  refine (Store_any (1 + x) 0 g h L _ hc hl hz).mono ?_
  rintro e w1 ⟨rfl, hc1, up1⟩
  go_wp2_with fail
  go_end0
  exact ⟨rfl, ⟨ep.obj.upd up1 (Ne.symm hhb), hc1, by rw [celSet_length]; exact ep.len, ep.n1, ep.n2⟩, up1⟩
end Go.Proofs.Ytfcldnojmmhekaa
