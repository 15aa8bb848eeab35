/- The walks of package ring: New, Put, Get, Do, End, Value, Len. -/
import Derived.Test.YtpkcajnlcpmmcaaRing2
namespace Go.Proofs.Ytpkcajnlcpmmcaa
set_option linter.unusedVariables false
set_option linter.unusedSimpArgs false
open Go.RowKit
theorem gets_pos (r : Rg) (s : Stp) : (r.gets s).2.pos = s.pos := by unfold Rg.gets; split; · split <;> rfl
                                                                     · split <;> rfl
theorem puts_pos (r : Rg) (s : Stp) : (r.puts s).2.pos = s.pos := by unfold Rg.puts; split; · split <;> rfl
                                                                     · split <;> rfl
theorem RS.up {w0 W : World} {b g h sb : Nat} {P G : Option Addr} {r : Rg} {s : Stp} (k : RS w0 b g h sb P G r s W) : RS w0 b g h sb P G r s.up (W.setCell ⟨sb, 1, none⟩ (.int .i64 ((s.pos : Int) + 1))) :=
  k.fin (s' := s.up) (by have := Blk.set_ k.st 1 (.int .i64 ((s.pos : Int) + 1)); unfold StpAt Stp.up; simpa using this) (Upd.one W sb 1 _)
theorem Do_done (b sb : Nat) (s : Stp) (w : World) (st : StpAt w sb s) (hd : s.done = true) :
    Calls Try.prog 9 #[.pointer (some ⟨b, 0, none⟩), .pointer (some ⟨sb, 0, none⟩)] w fun e w' => e = .returned (.bool true) ∧ w = w' := by
  have e4 := Blk.cell st 4
  rw [hd] at e4
  clear hd st
  go_enter Try.func9, Try.ntmps9
  go_wp2
  go_ret
  exact ⟨rfl, rfl⟩
set_option maxHeartbeats 1000000 in
theorem Do_any (b g h sb : Nat) (P G : Option Addr) (r : Rg) (s : Stp) (w : World) (rg : RgAt w b g h P G r) (st : StpAt w sb s) (hp : s.pos ≤ 2) (hv : inr .u64 s.v) (hd : s.done = false) :
    Calls Try.prog 9 #[.pointer (some ⟨b, 0, none⟩), .pointer (some ⟨sb, 0, none⟩)] w fun e w' => e = .returned (.bool (r.does s).2.done) ∧ RS w b g h sb P G (r.does s).1 (r.does s).2 w' := by
  have e4 := Blk.cell st 4
  have e0 := Blk.cell st 0
  rw [hd] at e4
  replace hd := Lib.hid hd
  cases hg : s.get with
  | true =>
    rw [hg] at e0
    rw [show r.does s = ((r.gets s).1, (r.gets s).2.up) by unfold Rg.does; rw [if_pos hg]]
    replace hg := Lib.hid hg
    have hA := gets_any b g h sb P G r s w rg st hp
    have hpos := gets_pos r s
    obtain ⟨r1, s1, hgs⟩ : ∃ r1 s1, r.gets s = (r1, s1) := ⟨_, _, rfl⟩
    rw [hgs] at hA hpos ⊢
    simp only at hA hpos ⊢
    replace hA := Lib.hid hA
    replace hgs := Lib.hid hgs
    replace hpos := Lib.hid hpos
    go_enter Try.func9, Try.ntmps9
    go_wp2_with fail
    refine hA.out.mono ?_
    rintro e w1 ⟨rfl, k1⟩
    clear hA
    replace hpos := hpos.out
    have k2 := k1.up
    have x1 := Blk.cell k1.st 1
    have f1 := Blk.frozen k1.st 1
    have x4 := Blk.cell k2.st 4
    have hw : wrap64 ((s1.pos : Int) + 1) = (s1.pos : Int) + 1 := IntWalk.wrap64_in _ (by omega)
    clear e4 e0 hpos
    go_wp2_with fail
    go_ret
    exact ⟨rfl, k2⟩
  | false =>
    rw [hg] at e0
    rw [show r.does s = ((r.puts s).1, (r.puts s).2.up) by unfold Rg.does; rw [if_neg (by simp [hg])]]
    replace hg := Lib.hid hg
    have hA := puts_any b g h sb P G r s w rg st hp hv
    have hpos := puts_pos r s
    obtain ⟨r1, s1, hgs⟩ : ∃ r1 s1, r.puts s = (r1, s1) := ⟨_, _, rfl⟩
    rw [hgs] at hA hpos ⊢
    simp only at hA hpos ⊢
    replace hA := Lib.hid hA
    replace hgs := Lib.hid hgs
    replace hpos := Lib.hid hpos
    go_enter Try.func9, Try.ntmps9
    go_wp2_with fail
    refine hA.out.mono ?_
    rintro e w1 ⟨rfl, k1⟩
    clear hA
    replace hpos := hpos.out
    have k2 := k1.up
    have x1 := Blk.cell k1.st 1
    have f1 := Blk.frozen k1.st 1
    have x4 := Blk.cell k2.st 4
    have hw : wrap64 ((s1.pos : Int) + 1) = (s1.pos : Int) + 1 := IntWalk.wrap64_in _ (by omega)
    clear e4 e0 hpos
    go_wp2_with fail
    go_ret
    exact ⟨rfl, k2⟩
theorem End_any (sb : Nat) (s : Stp) (w : World) (st : StpAt w sb s) :
    Calls Try.prog 10 #[.pointer (some ⟨sb, 0, none⟩)] w fun e w' => e = .returned (.int .i64 s.fin) ∧ w = w' := by
  have e3 := Blk.cell st 3
  clear st
  go_enter Try.func10, Try.ntmps10
  go_wp2
  go_ret
  exact ⟨rfl, rfl⟩
def Stp.val (s : Stp) : Int := if s.get = true ∧ s.fin = 0 then s.v else 0
theorem Value_any (sb : Nat) (s : Stp) (w : World) (st : StpAt w sb s) :
    Calls Try.prog 12 #[.pointer (some ⟨sb, 0, none⟩)] w fun e w' => e = .returned (.int .u64 s.val) ∧ w = w' := by
  have e0 := Blk.cell st 0
  have e2 := Blk.cell st 2
  have e3 := Blk.cell st 3
  clear st
  obtain ⟨gt, pos, v, fin, done⟩ := s
  cases gt with
  | false =>
    rw [show Stp.val ⟨false, pos, v, fin, done⟩ = 0 by simp [Stp.val]]
    go_enter Try.func12, Try.ntmps12
    go_wp2
    go_ret
    exact ⟨rfl, rfl⟩
  | true =>
    by_cases hf : fin = 0
    · subst hf
      rw [show Stp.val ⟨true, pos, v, 0, done⟩ = v by simp [Stp.val]]
      go_enter Try.func12, Try.ntmps12
      go_wp2
      go_ret
      exact ⟨rfl, rfl⟩
    · rw [show Stp.val ⟨true, pos, v, fin, done⟩ = 0 by simp [Stp.val, hf]]
      go_enter Try.func12, Try.ntmps12
      go_wp2
      go_ret
      exact ⟨rfl, rfl⟩
theorem RgNew_yes (n : Nat) (w : World) (h1 : 1 ≤ n) (h2 : n ≤ 256) :
    Calls Try.prog 6 #[.int .i64 n] w fun e w' => ∃ b g h, e = .returned (.tuple #[.pointer (some ⟨b, 0, none⟩), .int .i64 0]) ∧ Below w.heap.size w w' ∧ w.heap.size ≤ b ∧ w.heap.size ≤ h ∧ RgAt w' b g h none none ⟨n, 0, 0, List.replicate (n + 2) 0⟩ := by
  have hd : decide ((n : Int) < 1) = false := by simp; omega
  have hd2 : decide (256 < (n : Int)) = false := by simp; omega
  have hw : wrap64 (2 + (n : Int)) = ((n + 2 : Nat) : Int) := by rw [IntWalk.wrap64_in _ (by omega)]; omega
  have hw' : 2 + (n : Int) = ((n + 2 : Nat) : Int) := by omega
  have hu : Value.int .u64 (IntKind.u64.wrap (n : Int)) = .int .u64 n := by rw [show IntKind.u64.wrap (n : Int) = n by rw [IntKind.wrap_u64]; omega]
  generalize hm : n + 2 = m at *
  replace hm := Lib.hid hm
  clear hw
  go_enter Try.func6, Try.ntmps6
  go_wp2_with fail
  refine (CellsNew_yes m _ (by have := hm.out; omega) (by have := hm.out; omega)).mono ?_
  rintro e w1 ⟨g, h, rfl, bel, hg, hh, hc, _⟩
  go_wp2
  go_ret2
  exact ⟨w1.heap.size, g, h, rfl, bel_after bel (bel_alloc _ _), bel.size, hh, ⟨Blk.new _ _ _, hc.alloc _, by simp only [List.length_replicate]; exact hm.out.symm, h1, h2, (show inr .u64 0 from u64_inr (by omega)), (show inr .u64 0 from u64_inr (by omega))⟩⟩
end Go.Proofs.Ytpkcajnlcpmmcaa
