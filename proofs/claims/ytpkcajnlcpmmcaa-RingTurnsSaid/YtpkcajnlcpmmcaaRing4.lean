/- The walks of package ring: Put, Get, Len; of the law's run. -/
import Derived.Test.YtpkcajnlcpmmcaaRing3
namespace Go.Proofs.Ytpkcajnlcpmmcaa
set_option linter.unusedVariables false
set_option linter.unusedSimpArgs false
open Go.RowKit
/-- the step that a pointer names, if any, is done -/
def PtrDone (w : World) (P : Option Addr) : Prop := P = none ∨ ∃ pb sp, P = some ⟨pb, 0, none⟩ ∧ StpAt w pb sp ∧ sp.done = true
set_option maxHeartbeats 1000000 in
theorem Put_yes (v : Int) (b g h : Nat) (P G : Option Addr) (r : Rg) (w : World) (rg : RgAt w b g h P G r) (hP : PtrDone w P) :
    Calls Try.prog 8 #[.pointer (some ⟨b, 0, none⟩), .int .u64 v] w fun e w' => ∃ nb, e = .returned (.pointer (some ⟨nb, 0, none⟩)) ∧ w.heap.size ≤ nb ∧ RgAt w' b g h (some ⟨nb, 0, none⟩) G r ∧ StpAt w' nb ⟨false, 0, v, 11, false⟩ ∧ Upd (fun x => x = b) w w' := by
  have e2 := rg.obj.cell 2
  have kn := Blk.new w 63 #[.bool false, .int .i64 0, .int .u64 v, .int .i64 11, .bool false]
  have rg1 := rg.bel (bel_alloc w (.cells #[.bool false, .int .i64 0, .int .u64 v, .int .i64 11, .bool false] 63))
  have hb1 : b ≠ w.heap.size := by have := rg.obj.lt; omega
  obtain ⟨hgb, hhb, hgh⟩ := rg.ne
  have e2n := rg1.obj.cell 2
  have f2n := rg1.obj.frozen 2
  have up : Upd (fun x => x = b) w ((w.alloc (.cells #[.bool false, .int .i64 0, .int .u64 v, .int .i64 11, .bool false] 63)).setCell ⟨b, 2, none⟩ (.pointer (some ⟨w.heap.size, 0, none⟩))) := Upd.setCell (S := fun x => x = b) ((Upd.refl _ w).alloc _) (p := ⟨b, 2, none⟩) (fun _ => rfl) _
  have rg2 : RgAt ((w.alloc (.cells #[.bool false, .int .i64 0, .int .u64 v, .int .i64 11, .bool false] 63)).setCell ⟨b, 2, none⟩ (.pointer (some ⟨w.heap.size, 0, none⟩))) b g h (some ⟨w.heap.size, 0, none⟩) G r :=
    ⟨rg1.obj.set_ 2 _, Cel.upd (S := (· = b)) rg1.cel (Upd.one _ b 2 _) hgb hhb, rg.len, rg.n1, rg.n2, rg.hr, rg.gr⟩
  have kn2 : StpAt ((w.alloc (.cells #[.bool false, .int .i64 0, .int .u64 v, .int .i64 11, .bool false] 63)).setCell ⟨b, 2, none⟩ (.pointer (some ⟨w.heap.size, 0, none⟩))) w.heap.size ⟨false, 0, v, 11, false⟩ := kn.far (Ne.symm hb1) _
  have e2m := rg2.obj.cell 2
  rcases hP with rfl | ⟨pb, sp, rfl, hsp, hdn⟩
  · go_enter Try.func8, Try.ntmps8
    go_wp2_with fail
    go_ret
    exact ⟨_, rfl, Nat.le_refl _, rg2, kn2, up⟩
  · have e4 := Blk.cell hsp 4
    rw [hdn] at e4
    clear hdn hsp
    go_enter Try.func8, Try.ntmps8
    go_wp2_with fail
    go_ret
    exact ⟨_, rfl, Nat.le_refl _, rg2, kn2, up⟩
set_option maxHeartbeats 1000000 in
theorem Get_yes (b g h : Nat) (P G : Option Addr) (r : Rg) (w : World) (rg : RgAt w b g h P G r) (hG : PtrDone w G) :
    Calls Try.prog 11 #[.pointer (some ⟨b, 0, none⟩)] w fun e w' => ∃ nb, e = .returned (.pointer (some ⟨nb, 0, none⟩)) ∧ w.heap.size ≤ nb ∧ RgAt w' b g h P (some ⟨nb, 0, none⟩) r ∧ StpAt w' nb ⟨true, 0, 0, 11, false⟩ ∧ Upd (fun x => x = b) w w' := by
  have e2 := rg.obj.cell 3
  have kn := Blk.new w 63 #[.bool true, .int .i64 0, .int .u64 0, .int .i64 11, .bool false]
  have rg1 := rg.bel (bel_alloc w (.cells #[.bool true, .int .i64 0, .int .u64 0, .int .i64 11, .bool false] 63))
  have hb1 : b ≠ w.heap.size := by have := rg.obj.lt; omega
  obtain ⟨hgb, hhb, hgh⟩ := rg.ne
  have e2n := rg1.obj.cell 3
  have f2n := rg1.obj.frozen 3
  have up : Upd (fun x => x = b) w ((w.alloc (.cells #[.bool true, .int .i64 0, .int .u64 0, .int .i64 11, .bool false] 63)).setCell ⟨b, 3, none⟩ (.pointer (some ⟨w.heap.size, 0, none⟩))) := Upd.setCell (S := fun x => x = b) ((Upd.refl _ w).alloc _) (p := ⟨b, 3, none⟩) (fun _ => rfl) _
  have rg2 : RgAt ((w.alloc (.cells #[.bool true, .int .i64 0, .int .u64 0, .int .i64 11, .bool false] 63)).setCell ⟨b, 3, none⟩ (.pointer (some ⟨w.heap.size, 0, none⟩))) b g h P (some ⟨w.heap.size, 0, none⟩) r :=
    ⟨rg1.obj.set_ 3 _, Cel.upd (S := (· = b)) rg1.cel (Upd.one _ b 3 _) hgb hhb, rg.len, rg.n1, rg.n2, rg.hr, rg.gr⟩
  have kn2 : StpAt ((w.alloc (.cells #[.bool true, .int .i64 0, .int .u64 0, .int .i64 11, .bool false] 63)).setCell ⟨b, 3, none⟩ (.pointer (some ⟨w.heap.size, 0, none⟩))) w.heap.size ⟨true, 0, 0, 11, false⟩ := kn.far (Ne.symm hb1) _
  have e2m := rg2.obj.cell 3
  rcases hG with rfl | ⟨pb, sp, rfl, hsp, hdn⟩
  · go_enter Try.func11, Try.ntmps11
    go_wp2_with fail
    go_ret
    exact ⟨_, rfl, Nat.le_refl _, rg2, kn2, up⟩
  · have e4 := Blk.cell hsp 4
    rw [hdn] at e4
    clear hdn hsp
    go_enter Try.func11, Try.ntmps11
    go_wp2_with fail
    go_ret
    exact ⟨_, rfl, Nat.le_refl _, rg2, kn2, up⟩
def Rg.runF : Nat → Rg → Stp → Rg × Stp
  | 0, r, s => (r, s)
  | k + 1, r, s => if (r.does s).2.done then r.does s else Rg.runF k (r.does s).1 (r.does s).2
theorem does_pos (r : Rg) (s : Stp) : (r.does s).2.pos = s.pos + 1 := by
  unfold Rg.does
  split
  · simp only [Stp.up, gets_pos]
  · simp only [Stp.up, puts_pos]
theorem does_end (r : Rg) (s : Stp) (h : s.pos = 2) : (r.does s).2.done = true := by
  unfold Rg.does Rg.gets Rg.puts
  split
  · rw [if_neg (by omega), if_neg (by omega)]; rfl
  · rw [if_neg (by omega), if_neg (by omega)]; rfl
theorem does_v {w : World} {b g h : Nat} {P G : Option Addr} {r : Rg} {s : Stp} (rg : RgAt w b g h P G r) (hv : inr .u64 s.v) : inr .u64 (r.does s).2.v := by
  unfold Rg.does Rg.gets Rg.puts
  split
  · split
    · split <;> exact hv
    · split
      · refine u64_inr ?_
        simp only [Stp.up]
        unfold celAt
        split
        · rename_i hh; exact (rg.cel.at_ (k := (r.slot r.got).toNat) (by omega)).2.2
        · omega
      · exact hv
  · split
    · split <;> exact hv
    · split <;> exact hv
theorem RS.trans {w0 w1 W : World} {b g h sb : Nat} {P G : Option Addr} {r r1 : Rg} {s s1 : Stp} (k : RS w0 b g h sb P G r s w1) (k2 : RS w1 b g h sb P G r1 s1 W) : RS w0 b g h sb P G r1 s1 W := ⟨k2.rg, k2.st, k.upd.trans k2.upd⟩
set_option maxHeartbeats 1000000 in
theorem run_any (b g h sb : Nat) (P G : Option Addr) (r : Rg) (s : Stp) (w : World) (rg : RgAt w b g h P G r) (st : StpAt w sb s) (hp : s.pos = 0) (hv : inr .u64 s.v) (hd : s.done = false) :
    Calls Try.prog 14 #[.pointer (some ⟨b, 0, none⟩), .pointer (some ⟨sb, 0, none⟩)] w fun e w' => e = .returned (.int .i64 (Rg.runF 3 r s).2.fin) ∧ RS w b g h sb P G (Rg.runF 3 r s).1 (Rg.runF 3 r s).2 w' ∧ (Rg.runF 3 r s).2.done = true := by
  obtain ⟨R, hR⟩ : ∃ R, R = Rg.runF 3 r s := ⟨_, rfl⟩
  rw [← hR]
  replace hR := Lib.hid hR
  have k : RS w b g h sb P G r s w := ⟨rg, st, Upd.refl _ _⟩
  go_enter Try.func14, Try.ntmps14
  go_wp2_with fail
  go_loopg [5] 3 (fun gk s5 wr => ∃ (i : Nat) (rk : Rg) (sk : Stp), gk = 3 - i ∧ i ≤ 2 ∧ s5 = .int .i64 i ∧ RS w b g h sb P G rk sk wr ∧ R = Rg.runF (3 - i) rk sk ∧ sk.pos = i ∧ sk.done = false ∧ inr .u64 sk.v)
  case atStart => exact ⟨0, r, s, rfl, by omega, rfl, k, hR.out, hp, hd, hv⟩
  case round =>
    clear k rg st hp hd hv hR
    obtain ⟨i, rk, sk, hgk, hi, rfl, k, hR, hpos, hd, hv⟩ := hrel
    have hd5 : decide ((i : Int) < 5) = true := by simp; omega
    have hA := Do_any b g h sb P G rk sk wr k.rg k.st (by omega) hv hd
    have hdp := does_pos rk sk
    have hdv := does_v k.rg hv
    have hde := does_end rk sk
    have hR2 : R = (if (rk.does sk).2.done then rk.does sk else Rg.runF (2 - i) (rk.does sk).1 (rk.does sk).2) := by
      rw [hR, show 3 - i = (2 - i) + 1 by omega]; rfl
    obtain ⟨r1, s1, hrs⟩ : ∃ r1 s1, rk.does sk = (r1, s1) := ⟨_, _, rfl⟩
    rw [hrs] at hA hdp hdv hde hR2
    simp only at hA hdp hdv hde hR2
    clear hrs hR
    replace hA := Lib.hid hA
    replace hR2 := Lib.hid hR2
    replace hdp := Lib.hid hdp
    replace hde := Lib.hid hde
    replace hd := Lib.hid hd
    replace hpos := Lib.hid hpos
    replace hgk := Lib.hid hgk
    go_wp2_with fail
    refine hA.out.mono ?_
    rintro e w1 ⟨rfl, k1⟩
    clear hA
    cases hdn : s1.done with
    | true =>
      have hR3 := hR2.out
      rw [hdn, if_pos rfl] at hR3
      clear hR2
      subst hR3
      replace hdn := Lib.hid hdn
      go_wp2_with fail
      refine (End_any sb s1 w1 k1.st).mono ?_
      rintro e w2 ⟨rfl, rfl⟩
      go_wp2_with fail
      go_ret
      exact ⟨rfl, k.trans k1, hdn.out⟩
    | false =>
      have hR3 := hR2.out
      rw [hdn, if_neg (by simp)] at hR3
      replace hR3 := Lib.hid hR3
      have hi1 : i ≤ 1 := by
        rcases Nat.lt_or_ge i 2 with h | h
        · omega
        · have := hde.out (by have := hpos.out; omega); rw [this] at hdn; cases hdn
      replace hdn := Lib.hid hdn
      go_wp2_with fail
      go_roundg (3 - (i + 1))
      case measure => have := hgk.out; omega
      case rel => exact ⟨i + 1, r1, s1, rfl, by omega, by go_num, k.trans k1, by rw [hR3.out, show 3 - (i + 1) = 2 - i by omega], by rw [hdp.out, hpos.out], hdn.out, hdv⟩
end Go.Proofs.Ytpkcajnlcpmmcaa
