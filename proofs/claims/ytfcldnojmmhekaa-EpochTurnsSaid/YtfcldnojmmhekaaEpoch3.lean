/- The walks of package epoch: Do, Advance, Won, Now. -/
import Derived.Test.YtfcldnojmmhekaaEpoch2
namespace Go.Proofs.Ytfcldnojmmhekaa
set_option linter.unusedVariables false
set_option linter.unusedSimpArgs false
open Go.RowKit
theorem EpDo_done (b sb : Nat) (s : Es) (w : World) (st : EsAt w sb s) (hd : s.done = true) :
    Calls Try.prog 11 #[.pointer (some ⟨b, 0, none⟩), .pointer (some ⟨sb, 0, none⟩)] w fun e w' => e = .returned (.bool true) ∧ w = w' := by
  have e4 := Blk.cell st 4
  rw [hd] at e4
  clear hd st
  go_enter Try.func11, Try.ntmps11
  go_wp2
  go_ret
  exact ⟨rfl, rfl⟩
set_option maxHeartbeats 1000000 in
theorem EpDo_any (b g h gr n sb : Nat) (s : Es) (L : List Int) (w : World) (ep : EpAt w b g h gr n L) (st : EsAt w sb s) (hp : s.pos ≤ 1000) (hp2 : s.adv = false → s.pos ≤ 2 ∧ 0 ≤ s.worker ∧ s.worker < n) (hd : s.done = false) :
    Calls Try.prog 11 #[.pointer (some ⟨b, 0, none⟩), .pointer (some ⟨sb, 0, none⟩)] w fun e w' => e = .returned (.bool (s.does n L).1.done) ∧ ES w b g h gr n sb (s.does n L).1 (s.does n L).2 w' := by
  have e4 := Blk.cell st 4
  have e1 := Blk.cell st 1
  rw [hd] at e4
  replace hd := Lib.hid hd
  cases ha : s.adv with
  | true =>
    rw [ha] at e1
    rw [show s.does n L = s.advs n L by unfold Es.does; rw [if_pos ha]]
    have hA := advance_any b g h gr n sb s L w ep st hp
    obtain ⟨s1, L1, hr⟩ : ∃ s1 L1, s.advs n L = (s1, L1) := ⟨_, _, rfl⟩
    rw [hr] at hA ⊢
    simp only at hA ⊢
    clear hr hp2
    replace hA := Lib.hid hA
    replace ha := Lib.hid ha
    go_enter Try.func11, Try.ntmps11
    go_wp2_with fail
    refine hA.out.mono ?_
    rintro e w1 ⟨rfl, k1⟩
    have x4 := Blk.cell k1.st 4
    clear e4 e1 hA
    go_wp2_with fail
    go_ret
    exact ⟨rfl, k1⟩
  | false =>
    rw [ha] at e1
    rw [show s.does n L = s.pins L by unfold Es.does; rw [if_neg (by simp [ha])]]
    obtain ⟨q1, q2⟩ := hp2 ha
    have hA := pin_any b g h gr n sb s L w ep st q1 q2
    obtain ⟨s1, L1, hr⟩ : ∃ s1 L1, s.pins L = (s1, L1) := ⟨_, _, rfl⟩
    rw [hr] at hA ⊢
    simp only at hA ⊢
    clear hr hp2 q1 q2
    replace hA := Lib.hid hA
    replace ha := Lib.hid ha
    go_enter Try.func11, Try.ntmps11
    go_wp2_with fail
    refine hA.out.mono ?_
    rintro e w1 ⟨rfl, k1⟩
    have x4 := Blk.cell k1.st 4
    clear e4 e1 hA
    go_wp2_with fail
    go_ret
    exact ⟨rfl, k1⟩
theorem EpWon_any (sb : Nat) (s : Es) (w : World) (st : EsAt w sb s) :
    Calls Try.prog 12 #[.pointer (some ⟨sb, 0, none⟩)] w fun e w' => e = .returned (.bool s.won) ∧ w = w' := by
  have e5 := Blk.cell st 5
  clear st
  go_enter Try.func12, Try.ntmps12
  go_wp2
  go_ret
  exact ⟨rfl, rfl⟩
theorem EpAdvance_any (b : Nat) (w : World) :
    Calls Try.prog 10 #[.pointer (some ⟨b, 0, none⟩)] w fun e w' => ∃ nb, e = .returned (.pointer (some ⟨nb, 0, none⟩)) ∧ w.heap.size ≤ nb ∧ EsAt w' nb ⟨0, true, 0, 0, false, false⟩ ∧ Below w.heap.size w w' := by
  go_enter Try.func10, Try.ntmps10
  go_wp2_with fail
  go_ret
  exact ⟨_, rfl, Nat.le_refl _, Blk.new _ _ _, bel_alloc _ _⟩
end Go.Proofs.Ytfcldnojmmhekaa
