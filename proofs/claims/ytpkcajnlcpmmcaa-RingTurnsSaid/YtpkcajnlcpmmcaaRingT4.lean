/- The document's ring: Do, Begin, All, Copy, Value, Same. -/
import Derived.Test.YtpkcajnlcpmmcaaRingT3
namespace Go.Proofs.Ytpkcajnlcpmmcaa
set_option linter.unusedVariables false
set_option linter.unusedSimpArgs false
open Go.RowKit
theorem rDo_any (rb lb qb : Nat) (D0 D1 : Option Addr) (r : Rg) (M : List Int) (s : Stp) (w : World) (rf : RfAt w rb lb D0 D1 r M) (st : FStpAt w qb s) (hp : s.pos ≤ 2) (hd : s.done = false) (hn : 1 ≤ r.n ∧ r.n ≤ 256) (hh : inr .u64 r.had) (hg : inr .u64 r.got) (hv : inr .u64 s.v) :
    Calls Try.prog 19 #[.pointer (some ⟨rb, 0, none⟩), .pointer (some ⟨qb, 0, none⟩)] w fun e w' => e = .returned (.bool (r.does s).2.done) ∧ ∃ M', RF w rb lb qb D0 D1 (r.does s).1 M' (r.does s).2 w' := by
  obtain ⟨n, had, got, L⟩ := r
  obtain ⟨gt, pos, v, fin, done⟩ := s
  simp only at hp hd hn hh hg hv
  subst hd
  have hL : L = got :: had :: M := rf.eqL
  have hML : M.length = n := rf.len
  subst hL
  have h3 : pos = 0 ∨ pos = 1 ∨ pos = 2 := by omega
  have hgm : ∀ x : Int, inr .u64 x → ∃ j : Nat, x % (n : Int) = (j : Int) ∧ j < n := fun x hx => by
    have h1 := Int.emod_nonneg x (show (n : Int) ≠ 0 by omega)
    have h2 := Int.emod_lt_of_pos x (show (0 : Int) < n by omega)
    exact ⟨(x % n).toNat, by omega, by omega⟩
  cases gt
  · rcases h3 with rfl | rfl | rfl
    · have he : Rg.does ⟨n, had, got, got :: had :: M⟩ ⟨false, 0, v, fin, false⟩ = (⟨n, had, got, got :: had :: M⟩, if (IntKind.u64.wrap (had - got) == (n : Int)) then ⟨false, 1, v, 9, true⟩ else ⟨false, 1, v, fin, false⟩) := by
        simp only [Rg.does, Rg.puts, Stp.up, cel0, beq_iff_eq]
        by_cases hc : IntKind.u64.wrap (had - got) = (n : Int)
        · simp [hc]
        · simp [hc]
      rw [he]
      refine (rDo_p0 rf st hn _ rfl).mono fun e w' ⟨h1, h2⟩ => ⟨?_, M, h2⟩
      rw [h1]
      split <;> simp_all
    · obtain ⟨j, hj, hjn⟩ := hgm had hh
      have he : Rg.does ⟨n, had, got, got :: had :: M⟩ ⟨false, 1, v, fin, false⟩ = (⟨n, had, got, got :: had :: M.set j v⟩, ⟨false, 2, v, fin, false⟩) := by
        simp [Rg.does, Rg.puts, Stp.up, Rg.slot, hj, celSet2 _ _ _ _ _ (show j < M.length by omega)]
      rw [he]
      exact (rDo_p1 rf st hn hh hv j hj).mono fun e w' ⟨h1, h2⟩ => ⟨h1, _, h2⟩
    · have he : Rg.does ⟨n, had, got, got :: had :: M⟩ ⟨false, 2, v, fin, false⟩ = (⟨n, IntKind.u64.wrap (had + 1), got, got :: IntKind.u64.wrap (had + 1) :: M⟩, ⟨false, 3, v, 0, true⟩) := by
        simp [Rg.does, Rg.puts, Stp.up, celSet1]
      rw [he]
      exact (rDo_p2 rf st hn _ rfl).mono fun e w' ⟨h1, h2⟩ => ⟨h1, _, h2⟩
  · rcases h3 with rfl | rfl | rfl
    · have he : Rg.does ⟨n, had, got, got :: had :: M⟩ ⟨true, 0, v, fin, false⟩ = (⟨n, had, got, got :: had :: M⟩, if (had == got) then ⟨true, 1, v, 7, true⟩ else ⟨true, 1, v, fin, false⟩) := by
        simp only [Rg.does, Rg.gets, Stp.up, cel1, beq_iff_eq]
        by_cases hc : had = got
        · simp [hc]
        · simp [hc]
      rw [he]
      refine (rDo_g0 rf st hn _ rfl).mono fun e w' ⟨h1, h2⟩ => ⟨?_, M, h2⟩
      rw [h1]
      split <;> simp_all
    · obtain ⟨j, hj, hjn⟩ := hgm got hg
      have he : Rg.does ⟨n, had, got, got :: had :: M⟩ ⟨true, 1, v, fin, false⟩ = (⟨n, had, got, got :: had :: M⟩, ⟨true, 2, M.getD j 0, fin, false⟩) := by
        simp [Rg.does, Rg.gets, Stp.up, Rg.slot, hj, cel2 _ _ _ _ (show j < M.length by omega)]
      rw [he]
      exact (rDo_g1 rf st hn hg j hj _ rfl).mono fun e w' ⟨h1, h2⟩ => ⟨h1, _, h2⟩
    · have he : Rg.does ⟨n, had, got, got :: had :: M⟩ ⟨true, 2, v, fin, false⟩ = (⟨n, had, IntKind.u64.wrap (got + 1), IntKind.u64.wrap (got + 1) :: had :: M⟩, ⟨true, 3, v, 0, true⟩) := by
        simp [Rg.does, Rg.gets, Stp.up, celSet0]
      rw [he]
      exact (rDo_g2 rf st hn _ rfl).mono fun e w' ⟨h1, h2⟩ => ⟨h1, _, h2⟩
theorem rValue_any (qb : Nat) (s : Stp) (w : World) (st : FStpAt w qb s) (hf : s.done = false → s.fin ≠ 0) :
    Calls Try.prog 20 #[.pointer (some ⟨qb, 0, none⟩)] w fun e w' => e = .returned (.int .u64 s.val) ∧ w = w' := by
  obtain ⟨gt, pos, v, fin, done⟩ := s
  have e0 : w.cell? ⟨qb, 0, none⟩ = some (.int .i64 (kd gt)) := Blk.cell st 0
  have e2 : w.cell? ⟨qb, 2, none⟩ = some (.int .u64 v) := Blk.cell st 2
  have e3 : w.cell? ⟨qb, 3, none⟩ = some (.int .i64 fin) := Blk.cell st 3
  have e4 : w.cell? ⟨qb, 4, none⟩ = some (.bool done) := Blk.cell st 4
  simp only at hf
  clear st
  cases gt with
  | false =>
    rw [show Stp.val ⟨false, pos, v, fin, done⟩ = 0 by simp [Stp.val]]
    rw [show kd false = 0 from rfl] at e0
    go_enter Try.func20, Try.ntmps20
    go_wp2
    go_ret
    exact ⟨rfl, rfl⟩
  | true =>
    rw [show kd true = 1 from rfl] at e0
    cases done with
    | false =>
      rw [show Stp.val ⟨true, pos, v, fin, false⟩ = 0 by simp [Stp.val, hf rfl]]
      clear hf
      go_enter Try.func20, Try.ntmps20
      go_wp2
      go_ret
      exact ⟨rfl, rfl⟩
    | true =>
      clear hf
      by_cases hf : fin = 0
      · subst hf
        rw [show Stp.val ⟨true, pos, v, 0, true⟩ = v by simp [Stp.val]]
        go_enter Try.func20, Try.ntmps20
        go_wp2
        go_ret
        exact ⟨rfl, rfl⟩
      · rw [show Stp.val ⟨true, pos, v, fin, true⟩ = 0 by simp [Stp.val, hf]]
        go_enter Try.func20, Try.ntmps20
        go_wp2
        go_ret
        exact ⟨rfl, rfl⟩
set_option maxHeartbeats 1000000 in
theorem rSame_any (A1 A2 : Option Addr) (m c1 c2 B1 B2 : Nat) (l : List Int) (w : World) (r1 : Rd .u64 w B1 A1 m l) (r2 : Rd .u64 w B2 A2 m l) (hB1 : B1 ≤ w.heap.size) (hB2 : B2 ≤ w.heap.size) (hm : m ≤ 9223372036854775807) :
    Calls Try.prog 21 #[.slice A1 m c1, .slice A2 m c2] w fun e w' => e = .returned (.bool true) ∧ Below w.heap.size w w' := by
  go_enter Try.func21, Try.ntmps21
  go_wp2_with fail
  go_loopw [5] (fun ix wr => ∃ k : Nat, k ≤ m ∧ ix = .int .i64 k ∧ Below w.heap.size w wr) (fun ix _ => m - (intOf ix).toNat)
  case atStart => exact ⟨0, Nat.zero_le _, rfl, Below.refl _ _⟩
  case round =>
    obtain ⟨k, hk, rfl, bel⟩ := hrel
    by_cases hlt : k < m
    · have hd : decide (k < m) = true := by simpa using hlt
      obtain ⟨b1, o1, rfl, hb1, hc1, _⟩ := r1.at_ hlt
      obtain ⟨b2, o2, rfl, hb2, hc2, _⟩ := r2.at_ hlt
      generalize l.getD k 0 = x at hc1 hc2
      have z1 : ∀ t : Tw (fun W => Below w.heap.size w W), t.w.cell? ⟨b1, o1 + k, none⟩ = some (.int .u64 x) := fun t => (t.h.cell (p := ⟨b1, o1 + k, none⟩) (by simp only; omega)).trans hc1
      have z2 : ∀ t : Tw (fun W => Below w.heap.size w W), t.w.cell? ⟨b2, o2 + k, none⟩ = some (.int .u64 x) := fun t => (t.h.cell (p := ⟨b2, o2 + k, none⟩) (by simp only; omega)).trans hc2
      have : Nonempty (Tw (fun W => Below w.heap.size w W)) := ⟨⟨w, Below.refl _ _⟩⟩
      have hk0 : (0 : Int) ≤ k := by omega
      have hki : (k : Int) < m := by omega
      clear r1 r2 hc1 hc2
      go_upto_region 6 with fail
      refine region_tw (fun W => Below w.heap.size w W) (by kernel_rfl) (by kernel_rfl) bel.drew ?_
      unfold clsS
      repeat (first
        | go_big_quiet_skip
        | (go_big_quiet_want; go_big_quiet_op; go_big_quiet_on))
      refine wpQuiet_nil ?_
      intro tq
      go_wp2_with fail
      go_roundw
      case rel => exact ⟨k + 1, by omega, by go_num, tq.h⟩
      case measure => simp [intOf]; omega
    · have hd : decide (k < m) = false := by simpa using hlt
      go_wp2_with fail
      go_ret
      exact ⟨rfl, bel⟩
theorem rBegin_yes0 (v : Int) (rb lb : Nat) (D0 D1 : Option Addr) (r : Rg) (M : List Int) (w : World) (rf : RfAt w rb lb D0 D1 r M) (hD : D0 = none ∨ ∃ qb s, D0 = some ⟨qb, 0, none⟩ ∧ FStpAt w qb s ∧ s.done = true) :
    Calls Try.prog 18 #[.pointer (some ⟨rb, 0, none⟩), .int .i64 0, .int .u64 v] w fun e w' => ∃ nb, e = .returned (.pointer (some ⟨nb, 0, none⟩)) ∧ w.heap.size ≤ nb ∧ RfAt w' rb lb (some ⟨nb, 0, none⟩) D1 r M ∧ FStpAt w' nb ⟨false, 0, v, 11, false⟩ ∧ Upd (fun x => x = rb) w w' := by
  have e2 := rf.obj.cell 4
  have kn := Blk.new w 55 #[.int .i64 0, .int .i64 0, .int .u64 v, .int .i64 11, .bool false]
  have rf1 := rf.bel (bel_alloc w (.cells #[.int .i64 0, .int .i64 0, .int .u64 v, .int .i64 11, .bool false] 55))
  have hb1 : rb ≠ w.heap.size := by have := rf.obj.lt; omega
  have e2n := rf1.obj.cell 4
  have f2n := rf1.obj.frozen 4
  have up : Upd (fun x => x = rb) w ((w.alloc (.cells #[.int .i64 0, .int .i64 0, .int .u64 v, .int .i64 11, .bool false] 55)).setCell ⟨rb, 4, none⟩ (.pointer (some ⟨w.heap.size, 0, none⟩))) := Upd.setCell (S := fun x => x = rb) ((Upd.refl _ w).alloc _) (p := ⟨rb, 4, none⟩) (fun _ => rfl) _
  have rf2 : RfAt ((w.alloc (.cells #[.int .i64 0, .int .i64 0, .int .u64 v, .int .i64 11, .bool false] 55)).setCell ⟨rb, 4, none⟩ (.pointer (some ⟨w.heap.size, 0, none⟩))) rb lb (some ⟨w.heap.size, 0, none⟩) D1 r M :=
    ⟨rf1.obj.set_ 4 _, rf1.row.upd (Upd.one _ rb 4 _) (Ne.symm rf1.ne), rf.len, rf.rng, rf.eqL⟩
  have kn2 : FStpAt ((w.alloc (.cells #[.int .i64 0, .int .i64 0, .int .u64 v, .int .i64 11, .bool false] 55)).setCell ⟨rb, 4, none⟩ (.pointer (some ⟨w.heap.size, 0, none⟩))) w.heap.size ⟨false, 0, v, 11, false⟩ := kn.far (Ne.symm hb1) _
  rcases hD with rfl | ⟨qb, s, rfl, hs, hdn⟩
  · go_enter Try.func18, Try.ntmps18
    go_wp2_with fail
    go_ret
    exact ⟨_, rfl, Nat.le_refl _, rf2, kn2, up⟩
  · have e4 := Blk.cell hs 4
    rw [hdn] at e4
    clear hdn hs
    go_enter Try.func18, Try.ntmps18
    go_wp2_with fail
    go_ret
    exact ⟨_, rfl, Nat.le_refl _, rf2, kn2, up⟩
theorem rBegin_no0 (v : Int) (rb lb qb : Nat) (D0 D1 : Option Addr) (r : Rg) (M : List Int) (s : Stp) (w : World) (rf : RfAt w rb lb D0 D1 r M) (hD : D0 = some ⟨qb, 0, none⟩) (hs : FStpAt w qb s) (hdn : s.done = false) :
    Calls Try.prog 18 #[.pointer (some ⟨rb, 0, none⟩), .int .i64 0, .int .u64 v] w fun e w' => e = .returned (.pointer none) ∧ w = w' := by
  subst hD
  have e2 := rf.obj.cell 4
  have e4 := Blk.cell hs 4
  rw [hdn] at e4
  clear hdn hs rf
  go_enter Try.func18, Try.ntmps18
  go_wp2_with fail
  go_ret
  exact ⟨rfl, rfl⟩
theorem rBegin_yes1 (v : Int) (rb lb : Nat) (D0 D1 : Option Addr) (r : Rg) (M : List Int) (w : World) (rf : RfAt w rb lb D0 D1 r M) (hD : D1 = none ∨ ∃ qb s, D1 = some ⟨qb, 0, none⟩ ∧ FStpAt w qb s ∧ s.done = true) :
    Calls Try.prog 18 #[.pointer (some ⟨rb, 0, none⟩), .int .i64 1, .int .u64 v] w fun e w' => ∃ nb, e = .returned (.pointer (some ⟨nb, 0, none⟩)) ∧ w.heap.size ≤ nb ∧ RfAt w' rb lb D0 (some ⟨nb, 0, none⟩) r M ∧ FStpAt w' nb ⟨true, 0, v, 11, false⟩ ∧ Upd (fun x => x = rb) w w' := by
  have e2 := rf.obj.cell 5
  have kn := Blk.new w 55 #[.int .i64 1, .int .i64 0, .int .u64 v, .int .i64 11, .bool false]
  have rf1 := rf.bel (bel_alloc w (.cells #[.int .i64 1, .int .i64 0, .int .u64 v, .int .i64 11, .bool false] 55))
  have hb1 : rb ≠ w.heap.size := by have := rf.obj.lt; omega
  have e2n := rf1.obj.cell 5
  have f2n := rf1.obj.frozen 5
  have up : Upd (fun x => x = rb) w ((w.alloc (.cells #[.int .i64 1, .int .i64 0, .int .u64 v, .int .i64 11, .bool false] 55)).setCell ⟨rb, 5, none⟩ (.pointer (some ⟨w.heap.size, 0, none⟩))) := Upd.setCell (S := fun x => x = rb) ((Upd.refl _ w).alloc _) (p := ⟨rb, 5, none⟩) (fun _ => rfl) _
  have rf2 : RfAt ((w.alloc (.cells #[.int .i64 1, .int .i64 0, .int .u64 v, .int .i64 11, .bool false] 55)).setCell ⟨rb, 5, none⟩ (.pointer (some ⟨w.heap.size, 0, none⟩))) rb lb D0 (some ⟨w.heap.size, 0, none⟩) r M :=
    ⟨rf1.obj.set_ 5 _, rf1.row.upd (Upd.one _ rb 5 _) (Ne.symm rf1.ne), rf.len, rf.rng, rf.eqL⟩
  have kn2 : FStpAt ((w.alloc (.cells #[.int .i64 1, .int .i64 0, .int .u64 v, .int .i64 11, .bool false] 55)).setCell ⟨rb, 5, none⟩ (.pointer (some ⟨w.heap.size, 0, none⟩))) w.heap.size ⟨true, 0, v, 11, false⟩ := kn.far (Ne.symm hb1) _
  rcases hD with rfl | ⟨qb, s, rfl, hs, hdn⟩
  · go_enter Try.func18, Try.ntmps18
    go_wp2_with fail
    go_ret
    exact ⟨_, rfl, Nat.le_refl _, rf2, kn2, up⟩
  · have e4 := Blk.cell hs 4
    rw [hdn] at e4
    clear hdn hs
    go_enter Try.func18, Try.ntmps18
    go_wp2_with fail
    go_ret
    exact ⟨_, rfl, Nat.le_refl _, rf2, kn2, up⟩
theorem rBegin_no1 (v : Int) (rb lb qb : Nat) (D0 D1 : Option Addr) (r : Rg) (M : List Int) (s : Stp) (w : World) (rf : RfAt w rb lb D0 D1 r M) (hD : D1 = some ⟨qb, 0, none⟩) (hs : FStpAt w qb s) (hdn : s.done = false) :
    Calls Try.prog 18 #[.pointer (some ⟨rb, 0, none⟩), .int .i64 1, .int .u64 v] w fun e w' => e = .returned (.pointer none) ∧ w = w' := by
  subst hD
  have e2 := rf.obj.cell 5
  have e4 := Blk.cell hs 4
  rw [hdn] at e4
  clear hdn hs rf
  go_enter Try.func18, Try.ntmps18
  go_wp2_with fail
  go_ret
  exact ⟨rfl, rfl⟩
end Go.Proofs.Ytpkcajnlcpmmcaa
