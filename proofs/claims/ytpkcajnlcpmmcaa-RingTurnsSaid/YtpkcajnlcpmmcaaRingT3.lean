/- The document's ring: the walks of its functions. -/
import Derived.Test.YtpkcajnlcpmmcaaRingT2
namespace Go.Proofs.Ytpkcajnlcpmmcaa
set_option linter.unusedVariables false
set_option linter.unusedSimpArgs false
open Go.RowKit
def kd (b : Bool) : Int := if b then 1 else 0
/-- the document's step -/
def FStpAt (w : World) (b : Nat) (s : Stp) : Prop := Blk w b 55 #[.int .i64 (kd s.get), .int .i64 s.pos, .int .u64 s.v, .int .i64 s.fin, .bool s.done]
/-- the document's ring, the same as ours -/
structure RfAt (w : World) (rb lb : Nat) (D0 D1 : Option Addr) (r : Rg) (M : List Int) : Prop where
  obj : Blk w rb 50 #[.int .i64 r.n, .int .u64 r.got, .int .u64 r.had, .slice (some ⟨lb, 0, none⟩) r.n r.n, .pointer D0, .pointer D1]
  row : Blk w lb 23 (M.map (Value.int .u64)).toArray
  len : M.length = r.n
  rng : ∀ x, x ∈ M → inr .u64 x
  eqL : r.L = r.got :: r.had :: M
section
variable {w w' : World} {rb lb qb : Nat} {D0 D1 : Option Addr} {r : Rg} {M : List Int} {s : Stp}
theorem RfAt.upd {S : Nat → Prop} (k : RfAt w rb lb D0 D1 r M) (hu : Upd S w w') (h1 : ¬ S rb) (h2 : ¬ S lb) : RfAt w' rb lb D0 D1 r M := ⟨k.obj.upd hu h1, k.row.upd hu h2, k.len, k.rng, k.eqL⟩
theorem RfAt.bel (k : RfAt w rb lb D0 D1 r M) (hb : Below w.heap.size w w') : RfAt w' rb lb D0 D1 r M := ⟨k.obj.bel hb, k.row.bel hb, k.len, k.rng, k.eqL⟩
theorem RfAt.drew (k : RfAt w rb lb D0 D1 r M) : RfAt w.drew rb lb D0 D1 r M := ⟨k.obj.drew, k.row.drew, k.len, k.rng, k.eqL⟩
theorem RfAt.ne (k : RfAt w rb lb D0 D1 r M) : rb ≠ lb := k.obj.ne_ k.row (by decide)
theorem RfAt.nes (k : RfAt w rb lb D0 D1 r M) (ks : FStpAt w qb s) : rb ≠ qb ∧ lb ≠ qb := ⟨k.obj.ne_ ks (by decide), k.row.ne_ ks (by decide)⟩
theorem RfAt.rdr (k : RfAt w rb lb D0 D1 r M) : Rd .u64 w w.heap.size (some ⟨lb, 0, none⟩) r.n M := by
  refine ⟨k.len, k.rng, fun h0 => ⟨lb, 0, rfl, k.row.lt, fun j hj => ?_⟩⟩
  rw [Nat.zero_add, k.row.cell]
  simp [List.getD_eq_getElem?_getD, List.getElem?_eq_getElem (show j < M.length by rw [k.len]; exact hj)]
end
/-- ring and step of the document -/
structure RF (w0 : World) (rb lb qb : Nat) (D0 D1 : Option Addr) (r : Rg) (M : List Int) (s : Stp) (W : World) : Prop where
  rf : RfAt W rb lb D0 D1 r M
  st : FStpAt W qb s
  upd : Upd (fun x => x = rb ∨ x = lb ∨ x = qb) w0 W
section
variable {w0 W W' : World} {rb lb qb : Nat} {D0 D1 : Option Addr} {r : Rg} {M : List Int} {s s' : Stp}
theorem RF.drew (k : RF w0 rb lb qb D0 D1 r M s W) : RF w0 rb lb qb D0 D1 r M s W.drew := ⟨k.rf.drew, Blk.drew k.st, k.upd.drew⟩
theorem RF.fin (k : RF w0 rb lb qb D0 D1 r M s W) (st : FStpAt W' qb s') (up : Upd (fun x => x = qb) W W') : RF w0 rb lb qb D0 D1 r M s' W' := by
  obtain ⟨h1, h2⟩ := k.rf.nes k.st
  exact ⟨k.rf.upd up h1 h2, st, k.upd.trans (up.mono fun x _ e => .inr (.inr e))⟩
theorem RF.cell (k : RF w0 rb lb qb D0 D1 r M s W) (i : Nat) (v : Value) (h : #[Value.int .i64 (kd s'.get), .int .i64 s'.pos, .int .u64 s'.v, .int .i64 s'.fin, .bool s'.done] = #[Value.int .i64 (kd s.get), .int .i64 s.pos, .int .u64 s.v, .int .i64 s.fin, .bool s.done].setIfInBounds i v) :
    RF w0 rb lb qb D0 D1 r M s' (W.setCell ⟨qb, i, none⟩ v) :=
  k.fin (s' := s') (by have := Blk.set_ k.st i v; unfold FStpAt; rw [h]; exact this) (Upd.one W qb i v)
end
theorem RF.bel {w0 W W' : World} {rb lb qb : Nat} {D0 D1 : Option Addr} {r : Rg} {M : List Int} {s : Stp} (k : RF w0 rb lb qb D0 D1 r M s W) (hb : Below W.heap.size W W') : RF w0 rb lb qb D0 D1 r M s W' := ⟨k.rf.bel hb, Blk.bel k.st hb, k.upd.trans (Upd.of_below hb _)⟩
theorem end_any (e0 : Int) (b : Nat) (s : Stp) (w : World) (hs : FStpAt w b s) :
    Calls Try.prog 30 #[.pointer (some ⟨b, 0, none⟩), .int .i64 e0] w fun e w' => e = .returned (.tuple #[]) ∧ FStpAt w' b ⟨s.get, s.pos, s.v, e0, true⟩ ∧ Upd (fun x => x = b) w w' := by
  have e3 : w.cell? ⟨b, 3, none⟩ = some (.int .i64 s.fin) := Blk.cell hs 3
  have e4 : w.cell? ⟨b, 4, none⟩ = some (.bool s.done) := Blk.cell hs 4
  have f3 := Blk.frozen hs 3
  have f4 := Blk.frozen hs 4
  have up : Upd (fun x => x = b) w ((w.setCell ⟨b, 3, none⟩ (.int .i64 e0)).setCell ⟨b, 4, none⟩ (.bool true)) := (Upd.one w b 3 (.int .i64 e0)).setCell (p := ⟨b, 4, none⟩) (fun _ => rfl) (.bool true)
  have k2 : FStpAt ((w.setCell ⟨b, 3, none⟩ (.int .i64 e0)).setCell ⟨b, 4, none⟩ (.bool true)) b ⟨s.get, s.pos, s.v, e0, true⟩ := (Blk.set_ hs 3 (.int .i64 e0)).set_ 4 (.bool true)
  go_enter Try.func30, Try.ntmps30
  go_wp2_with fail
  go_end0
  exact ⟨rfl, k2, up⟩
set_option maxRecDepth 100000 in
theorem rDo_nil (rb : Nat) (w : World) : Calls Try.prog 19 #[.pointer (some ⟨rb, 0, none⟩), .pointer none] w fun e w' => e = .returned (.bool true) ∧ w = w' := by
  go_enter Try.func19, Try.ntmps19
  go_wp2
  go_ret
  exact ⟨rfl, rfl⟩
set_option maxRecDepth 100000 in
theorem rDo_done (rb qb : Nat) (s : Stp) (w : World) (st : FStpAt w qb s) (hd : s.done = true) :
    Calls Try.prog 19 #[.pointer (some ⟨rb, 0, none⟩), .pointer (some ⟨qb, 0, none⟩)] w fun e w' => e = .returned (.bool true) ∧ w = w' := by
  have e4 := Blk.cell st 4
  rw [hd] at e4
  clear hd st
  go_enter Try.func19, Try.ntmps19
  go_wp2
  go_ret
  exact ⟨rfl, rfl⟩
section
variable {rb lb qb n : Nat} {D0 D1 : Option Addr} {had got v fin : Int} {L M : List Int} {w : World}
set_option maxRecDepth 100000 in
set_option maxHeartbeats 1000000 in
theorem rDo_p0 (rf : RfAt w rb lb D0 D1 ⟨n, had, got, L⟩ M) (st : FStpAt w qb ⟨false, 0, v, fin, false⟩) (hn : 1 ≤ n ∧ n ≤ 256) (B : Bool) (hB : (IntKind.u64.wrap (had - got) == (n : Int)) = B) :
    Calls Try.prog 19 #[.pointer (some ⟨rb, 0, none⟩), .pointer (some ⟨qb, 0, none⟩)] w fun e w' => e = .returned (.bool B) ∧ RF w rb lb qb D0 D1 ⟨n, had, got, L⟩ M (if B then ⟨false, 1, v, 9, true⟩ else ⟨false, 1, v, fin, false⟩) w' := by
  have q0 : w.cell? ⟨qb, 0, none⟩ = some (.int .i64 0) := Blk.cell st 0
  have q1 := Blk.cell st 1
  have q4 := Blk.cell st 4
  have f1 := Blk.frozen st 1
  have r0 := rf.obj.cell 0
  have hun : IntKind.u64.wrap (n : Int) = n := by rw [IntKind.wrap_u64]; omega
  have k0 : RF w rb lb qb D0 D1 ⟨n, had, got, L⟩ M ⟨false, 0, v, fin, false⟩ w := ⟨rf, st, Upd.refl _ _⟩
  have k1 : RF w rb lb qb D0 D1 ⟨n, had, got, L⟩ M ⟨false, 1, v, fin, false⟩ (w.setCell ⟨qb, 1, none⟩ (.int .i64 1)) := k0.cell 1 _ rfl
  clear k0 st
  go_enter Try.func19, Try.ntmps19
  go_upto_region 8 with fail
  generalize w.setCell ⟨qb, 1, none⟩ (.int .i64 1) = W1 at *
  have z1 : ∀ t : Tw (fun W => Below W1.heap.size W1 W), t.w.cell? ⟨rb, 1, none⟩ = some (.int .u64 got) := fun t => k1.rf.obj.tw k1.rf.obj.lt t 1
  have z2 : ∀ t : Tw (fun W => Below W1.heap.size W1 W), t.w.cell? ⟨rb, 2, none⟩ = some (.int .u64 had) := fun t => k1.rf.obj.tw k1.rf.obj.lt t 2
  have : Nonempty (Tw (fun W => Below W1.heap.size W1 W)) := ⟨⟨W1, Below.refl _ _⟩⟩
  refine region_tw (fun w' => Below (W1).heap.size (W1) w') (by kernel_rfl) (by kernel_rfl) (Below.refl _ _).drew ?_
  unfold clsS
  repeat (first
    | go_big_quiet_skip
    | (go_big_quiet_want; go_big_quiet_op; first | go_big_quiet_on | go_big_quiet_call (
      (first 
      | fail))))
  refine wpQuiet_nil ?_
  intro tq
  replace k1 := k1.bel tq.h
  clear z1 z2 q0 q1 q4 f1 r0 this
  generalize tq.w = W2 at *
  cases B with
  | false =>
    have k2 := k1
    clear k1 rf
    have q4 := Blk.cell k2.st 4
    go_wp2_with fail
    go_ret
    exact ⟨rfl, k2⟩
  | true =>
    clear rf
    go_wp2_with fail
    refine (end_any 9 qb _ _ k1.st).mono ?_
    rintro e W3 ⟨rfl, st3, up3⟩
    have k2 := k1.fin st3 up3
    clear k1 st3 up3
    have q4 := Blk.cell k2.st 4
    go_wp2_with fail
    go_ret
    exact ⟨rfl, k2⟩
set_option maxRecDepth 100000 in
set_option maxHeartbeats 1000000 in
theorem rDo_g0 (rf : RfAt w rb lb D0 D1 ⟨n, had, got, L⟩ M) (st : FStpAt w qb ⟨true, 0, v, fin, false⟩) (hn : 1 ≤ n ∧ n ≤ 256) (B : Bool) (hB : (had == got) = B) :
    Calls Try.prog 19 #[.pointer (some ⟨rb, 0, none⟩), .pointer (some ⟨qb, 0, none⟩)] w fun e w' => e = .returned (.bool B) ∧ RF w rb lb qb D0 D1 ⟨n, had, got, L⟩ M (if B then ⟨true, 1, v, 7, true⟩ else ⟨true, 1, v, fin, false⟩) w' := by
  have q0 : w.cell? ⟨qb, 0, none⟩ = some (.int .i64 1) := Blk.cell st 0
  have q1 := Blk.cell st 1
  have q4 := Blk.cell st 4
  have f1 := Blk.frozen st 1
  have r0 := rf.obj.cell 0
  have hun : IntKind.u64.wrap (n : Int) = n := by rw [IntKind.wrap_u64]; omega
  have k0 : RF w rb lb qb D0 D1 ⟨n, had, got, L⟩ M ⟨true, 0, v, fin, false⟩ w := ⟨rf, st, Upd.refl _ _⟩
  have k1 : RF w rb lb qb D0 D1 ⟨n, had, got, L⟩ M ⟨true, 1, v, fin, false⟩ (w.setCell ⟨qb, 1, none⟩ (.int .i64 1)) := k0.cell 1 _ rfl
  clear k0 st
  go_enter Try.func19, Try.ntmps19
  go_upto_region 16 with fail
  generalize w.setCell ⟨qb, 1, none⟩ (.int .i64 1) = W1 at *
  have z1 : ∀ t : Tw (fun W => Below W1.heap.size W1 W), t.w.cell? ⟨rb, 1, none⟩ = some (.int .u64 got) := fun t => k1.rf.obj.tw k1.rf.obj.lt t 1
  have z2 : ∀ t : Tw (fun W => Below W1.heap.size W1 W), t.w.cell? ⟨rb, 2, none⟩ = some (.int .u64 had) := fun t => k1.rf.obj.tw k1.rf.obj.lt t 2
  have : Nonempty (Tw (fun W => Below W1.heap.size W1 W)) := ⟨⟨W1, Below.refl _ _⟩⟩
  refine region_tw (fun w' => Below (W1).heap.size (W1) w') (by kernel_rfl) (by kernel_rfl) (Below.refl _ _).drew ?_
  unfold clsS
  repeat (first
    | go_big_quiet_skip
    | (go_big_quiet_want; go_big_quiet_op; first | go_big_quiet_on | go_big_quiet_call (
      (first 
      | fail))))
  refine wpQuiet_nil ?_
  intro tq
  replace k1 := k1.bel tq.h
  clear z1 z2 q0 q1 q4 f1 r0 this
  generalize tq.w = W2 at *
  cases B with
  | false =>
    have k2 := k1
    clear k1 rf
    have q4 := Blk.cell k2.st 4
    go_wp2_with fail
    go_ret
    exact ⟨rfl, k2⟩
  | true =>
    clear rf
    go_wp2_with fail
    refine (end_any 7 qb _ _ k1.st).mono ?_
    rintro e W3 ⟨rfl, st3, up3⟩
    have k2 := k1.fin st3 up3
    clear k1 st3 up3
    have q4 := Blk.cell k2.st 4
    go_wp2_with fail
    go_ret
    exact ⟨rfl, k2⟩
theorem RF.mset {w0 W : World} {rb lb qb : Nat} {D0 D1 : Option Addr} {n : Nat} {had got : Int} {L M : List Int} {s : Stp} (k : RF w0 rb lb qb D0 D1 ⟨n, had, got, L⟩ M s W) (j : Nat) (v : Int) (hv : inr .u64 v) :
    RF w0 rb lb qb D0 D1 ⟨n, had, got, got :: had :: M.set j v⟩ (M.set j v) s (W.setCell ⟨lb, j, none⟩ (.int .u64 v)) := by
  have up := Upd.one W lb j (.int .u64 v)
  obtain ⟨h1, h2⟩ := k.rf.nes k.st
  refine ⟨⟨k.rf.obj.upd up k.rf.ne, ?_, by rw [List.length_set]; exact k.rf.len, fun x hx => ?_, rfl⟩, Blk.upd k.st up (Ne.symm h2), k.upd.trans (up.mono fun x _ e => .inr (.inl e))⟩
  · have := k.rf.row.set_ j (.int .u64 v)
    rw [List.map_set]; simpa using this
  · rcases List.mem_or_eq_of_mem_set hx with h | h
    · exact k.rf.rng x h
    · exact h ▸ hv
theorem RF.setHad {w0 W : World} {rb lb qb : Nat} {D0 D1 : Option Addr} {n : Nat} {had got : Int} {L M : List Int} {s : Stp} (k : RF w0 rb lb qb D0 D1 ⟨n, had, got, L⟩ M s W) (x : Int) :
    RF w0 rb lb qb D0 D1 ⟨n, x, got, got :: x :: M⟩ M s (W.setCell ⟨rb, 2, none⟩ (.int .u64 x)) := by
  have up := Upd.one W rb 2 (.int .u64 x)
  obtain ⟨h1, h2⟩ := k.rf.nes k.st
  exact ⟨⟨k.rf.obj.set_ 2 _, k.rf.row.upd up (Ne.symm k.rf.ne), k.rf.len, k.rf.rng, rfl⟩, Blk.upd k.st up (Ne.symm h1), k.upd.trans (up.mono fun x _ e => .inl e)⟩
theorem RF.setGot {w0 W : World} {rb lb qb : Nat} {D0 D1 : Option Addr} {n : Nat} {had got : Int} {L M : List Int} {s : Stp} (k : RF w0 rb lb qb D0 D1 ⟨n, had, got, L⟩ M s W) (x : Int) :
    RF w0 rb lb qb D0 D1 ⟨n, had, x, x :: had :: M⟩ M s (W.setCell ⟨rb, 1, none⟩ (.int .u64 x)) := by
  have up := Upd.one W rb 1 (.int .u64 x)
  obtain ⟨h1, h2⟩ := k.rf.nes k.st
  exact ⟨⟨k.rf.obj.set_ 1 _, k.rf.row.upd up (Ne.symm k.rf.ne), k.rf.len, k.rf.rng, rfl⟩, Blk.upd k.st up (Ne.symm h1), k.upd.trans (up.mono fun x _ e => .inl e)⟩
set_option maxRecDepth 100000 in
set_option maxHeartbeats 1000000 in
theorem rDo_p1 (rf : RfAt w rb lb D0 D1 ⟨n, had, got, L⟩ M) (st : FStpAt w qb ⟨false, 1, v, fin, false⟩) (hn : 1 ≤ n ∧ n ≤ 256) (hh : inr .u64 had) (hv : inr .u64 v) (j : Nat) (hj : had % (n : Int) = (j : Int)) :
    Calls Try.prog 19 #[.pointer (some ⟨rb, 0, none⟩), .pointer (some ⟨qb, 0, none⟩)] w fun e w' => e = .returned (.bool false) ∧ RF w rb lb qb D0 D1 ⟨n, had, got, got :: had :: M.set j v⟩ (M.set j v) ⟨false, 2, v, fin, false⟩ w' := by
  have hhb := inr_u64 hh
  have hjn : j < n := by have := Int.emod_lt_of_pos had (show (0 : Int) < n by omega); omega
  have hjt : had.tmod (n : Int) = (j : Int) := by rw [Int.tmod_eq_emod_of_nonneg hhb.1]; exact hj
  have hz : ((n : Int) == 0) = false := by simp; omega
  have hnz : (n : Int) ≠ 0 := by omega
  replace hj := Lib.hid hj
  have q0 : w.cell? ⟨qb, 0, none⟩ = some (.int .i64 0) := Blk.cell st 0
  have q1 := Blk.cell st 1
  have q4 := Blk.cell st 4
  have f1 := Blk.frozen st 1
  have r0 := rf.obj.cell 0
  have hun : IntKind.u64.wrap (n : Int) = n := by rw [IntKind.wrap_u64]; omega
  have k0 : RF w rb lb qb D0 D1 ⟨n, had, got, L⟩ M ⟨false, 1, v, fin, false⟩ w := ⟨rf, st, Upd.refl _ _⟩
  have k1 : RF w rb lb qb D0 D1 ⟨n, had, got, L⟩ M ⟨false, 2, v, fin, false⟩ (w.setCell ⟨qb, 1, none⟩ (.int .i64 2)) := k0.cell 1 _ rfl
  clear k0 st
  go_enter Try.func19, Try.ntmps19
  go_upto_region 11 with fail
  generalize w.setCell ⟨qb, 1, none⟩ (.int .i64 2) = W1 at *
  clear q0 q1 q4 f1 r0 rf
  have z2 : ∀ t : Tw (fun W => ∃ L M, RF w rb lb qb D0 D1 ⟨n, had, got, L⟩ M ⟨false, 2, v, fin, false⟩ W), t.w.cell? ⟨rb, 2, none⟩ = some (.int .u64 had) := fun t => by obtain ⟨_, _, h⟩ := t.h; exact h.rf.obj.cell 2
  have z3 : ∀ t : Tw (fun W => ∃ L M, RF w rb lb qb D0 D1 ⟨n, had, got, L⟩ M ⟨false, 2, v, fin, false⟩ W), t.w.cell? ⟨rb, 3, none⟩ = some (.slice (some ⟨lb, 0, none⟩) n n) := fun t => by obtain ⟨_, _, h⟩ := t.h; exact h.rf.obj.cell 3
  have z4 : ∀ t : Tw (fun W => ∃ L M, RF w rb lb qb D0 D1 ⟨n, had, got, L⟩ M ⟨false, 2, v, fin, false⟩ W), t.w.cell? ⟨qb, 2, none⟩ = some (.int .u64 v) := fun t => by obtain ⟨_, _, h⟩ := t.h; exact Blk.cell h.st 2
  have : Nonempty (Tw (fun W => ∃ L M, RF w rb lb qb D0 D1 ⟨n, had, got, L⟩ M ⟨false, 2, v, fin, false⟩ W)) := ⟨⟨_, _, _, k1⟩⟩
  have hj0 : (0 : Int) ≤ j := by omega
  have hji : (j : Int) < n := by omega
  refine wp_region_plan (fun W => ∃ L M, RF w rb lb qb D0 D1 ⟨n, had, got, L⟩ M ⟨false, 2, v, fin, false⟩ W) [(0, true), (1, true), (2, true), (3, true), (4, true), (5, true), (6, true), (7, true), (8, true), (9, true), (10, true), (11, true), (12, true), (13, true), (14, true), (15, false)] (by kernel_rfl) (by kernel_rfl) (by kernel_rfl) (by kernel_rfl) ⟨_, _, k1.drew⟩ ?_
  replace k1 := k1.drew
  generalize W1.drew = W2 at *
  refine wpPl_qs 15 _ _ _ (by kernel_rfl) (by kernel_rfl) (by simp) ?_
  unfold clsS
  simp only [List.take_succ_cons, List.take_zero, List.drop_succ_cons, List.drop_zero, List.filterMap_cons, List.filterMap_nil, List.getElem?_toArray, List.getElem?_cons_zero, List.getElem?_cons_succ]
  repeat (first
    | go_big_quiet_skip
    | (go_big_quiet_want; go_big_quiet_op; go_big_quiet_on)
    | (refine id (?_ : wpQuiet _ _ _ _ (_ :: _) _); first | go_big_quiet_skip | (go_big_quiet_want; go_big_quiet_op; go_big_quiet_on)))
  refine wpQuiet_nil ?_
  have l0 : W2.cell? ⟨lb, j, none⟩ = some (.int .u64 (M.getD j 0)) := by
    rw [k1.rf.row.cell]
    simp [List.getD_eq_getElem?_getD, List.getElem?_eq_getElem (show j < M.length by rw [k1.rf.len]; exact hjn)]
  have f0 := k1.rf.row.frozen j
  have k2 := k1.mset j v hv
  refine wpPl_e _ (by rfl) (by kernel_rfl) (fun K hK => ?_)
  go_simp
  refine hK _ _ ⟨_, _, k2⟩ ?_
  clear hK K l0 f0 z2 z3 z4 this k1
  unfold wpPl
  refine NoPanic.normal ?_
  generalize W2.setCell ⟨lb, j, none⟩ (.int .u64 v) = W3 at *
  have q4 := Blk.cell k2.st 4
  go_wp2_with fail
  go_ret
  exact ⟨rfl, k2⟩
/-- what a Get's second step reads -/
structure G1S (rb lb j n : Nat) (got x : Int) (W : World) : Prop where
  c1 : W.cell? ⟨rb, 1, none⟩ = some (.int .u64 got)
  c3 : W.cell? ⟨rb, 3, none⟩ = some (.slice (some ⟨lb, 0, none⟩) n n)
  cj : W.cell? ⟨lb, j, none⟩ = some (.int .u64 x)
set_option maxRecDepth 100000 in
set_option maxHeartbeats 1000000 in
theorem rDo_g1 (rf : RfAt w rb lb D0 D1 ⟨n, had, got, L⟩ M) (st : FStpAt w qb ⟨true, 1, v, fin, false⟩) (hn : 1 ≤ n ∧ n ≤ 256) (hh : inr .u64 got) (j : Nat) (hj : got % (n : Int) = (j : Int)) (x : Int) (hx : M.getD j 0 = x) :
    Calls Try.prog 19 #[.pointer (some ⟨rb, 0, none⟩), .pointer (some ⟨qb, 0, none⟩)] w fun e w' => e = .returned (.bool false) ∧ RF w rb lb qb D0 D1 ⟨n, had, got, L⟩ M ⟨true, 2, x, fin, false⟩ w' := by
  have hhb := inr_u64 hh
  have hjn : j < n := by have := Int.emod_lt_of_pos got (show (0 : Int) < n by omega); omega
  have hjt : got.tmod (n : Int) = (j : Int) := by rw [Int.tmod_eq_emod_of_nonneg hhb.1]; exact hj
  have hz : ((n : Int) == 0) = false := by simp; omega
  have hnz : (n : Int) ≠ 0 := by omega
  replace hj := Lib.hid hj
  replace hx := Lib.hid hx
  have q0 : w.cell? ⟨qb, 0, none⟩ = some (.int .i64 1) := Blk.cell st 0
  have q1 := Blk.cell st 1
  have q4 := Blk.cell st 4
  have f1 := Blk.frozen st 1
  have r0 := rf.obj.cell 0
  have hun : IntKind.u64.wrap (n : Int) = n := by rw [IntKind.wrap_u64]; omega
  have k0 : RF w rb lb qb D0 D1 ⟨n, had, got, L⟩ M ⟨true, 1, v, fin, false⟩ w := ⟨rf, st, Upd.refl _ _⟩
  have k1 : RF w rb lb qb D0 D1 ⟨n, had, got, L⟩ M ⟨true, 2, v, fin, false⟩ (w.setCell ⟨qb, 1, none⟩ (.int .i64 2)) := k0.cell 1 _ rfl
  clear k0 st
  go_enter Try.func19, Try.ntmps19
  go_upto_region 19 with fail
  generalize w.setCell ⟨qb, 1, none⟩ (.int .i64 2) = W1 at *
  clear q0 q1 q4 f1 r0 rf
  have hq := k1.rf.nes k1.st
  have z1 : ∀ t : Tw (G1S rb lb j n got (x)), t.w.cell? ⟨rb, 1, none⟩ = some (.int .u64 got) := fun t => t.h.c1
  have z3 : ∀ t : Tw (G1S rb lb j n got (x)), t.w.cell? ⟨rb, 3, none⟩ = some (.slice (some ⟨lb, 0, none⟩) n n) := fun t => t.h.c3
  have z4 : ∀ t : Tw (G1S rb lb j n got (x)), t.w.cell? ⟨lb, j, none⟩ = some (.int .u64 (x)) := fun t => t.h.cj
  have l0 : W1.drew.cell? ⟨lb, j, none⟩ = some (.int .u64 (x)) := by
    rw [k1.drew.rf.row.cell, ← hx.out]
    simp [List.getD_eq_getElem?_getD, List.getElem?_eq_getElem (show j < M.length by rw [k1.rf.len]; exact hjn)]
  have hS : G1S rb lb j n got (x) W1.drew := ⟨k1.drew.rf.obj.cell 1, k1.drew.rf.obj.cell 3, l0⟩
  have : Nonempty (Tw (G1S rb lb j n got (x))) := ⟨⟨_, hS⟩⟩
  have hj0 : (0 : Int) ≤ j := by omega
  have hji : (j : Int) < n := by omega
  refine wp_region_plan (G1S rb lb j n got (x)) [(0, true), (1, true), (2, true), (3, true), (4, true), (5, true), (6, true), (7, true), (8, true), (9, true), (10, true), (11, true), (12, true), (13, true), (14, true), (15, false)] (by kernel_rfl) (by kernel_rfl) (by kernel_rfl) (by kernel_rfl) hS ?_
  replace k1 := k1.drew
  generalize W1.drew = W2 at *
  refine wpPl_qs 15 _ _ _ (by kernel_rfl) (by kernel_rfl) (by simp) ?_
  unfold clsS
  simp only [List.take_succ_cons, List.take_zero, List.drop_succ_cons, List.drop_zero, List.filterMap_cons, List.filterMap_nil, List.getElem?_toArray, List.getElem?_cons_zero, List.getElem?_cons_succ]
  repeat (first
    | go_big_quiet_skip
    | (go_big_quiet_want; go_big_quiet_op; go_big_quiet_on)
    | (refine id (?_ : wpQuiet _ _ _ _ (_ :: _) _); first | go_big_quiet_skip | (go_big_quiet_want; go_big_quiet_op; go_big_quiet_on)))
  refine wpQuiet_nil ?_
  have i0 := Blk.cell k1.st 2
  have f0 := Blk.frozen k1.st 2
  have k2 : RF w rb lb qb D0 D1 ⟨n, had, got, L⟩ M ⟨true, 2, x, fin, false⟩ (W2.setCell ⟨qb, 2, none⟩ (.int .u64 (x))) := k1.cell 2 _ rfl
  have hS2 : G1S rb lb j n got (x) (W2.setCell ⟨qb, 2, none⟩ (.int .u64 (x))) := ⟨k2.rf.obj.cell 1, k2.rf.obj.cell 3, by
    rw [k2.rf.row.cell, ← hx.out]
    simp [List.getD_eq_getElem?_getD, List.getElem?_eq_getElem (show j < M.length by rw [k1.rf.len]; exact hjn)]⟩
  refine wpPl_e _ (by rfl) (by kernel_rfl) (fun K hK => ?_)
  go_simp
  refine hK _ _ hS2 ?_
  clear hK K l0 f0 i0 z1 z3 z4 this k1 hS hS2
  unfold wpPl
  refine NoPanic.normal ?_
  generalize W2.setCell ⟨qb, 2, none⟩ (.int .u64 (x)) = W3 at *
  have q4 := Blk.cell k2.st 4
  go_wp2_with fail
  go_ret
  exact ⟨rfl, k2⟩
set_option maxRecDepth 100000 in
set_option maxHeartbeats 1000000 in
theorem rDo_p2 (rf : RfAt w rb lb D0 D1 ⟨n, had, got, L⟩ M) (st : FStpAt w qb ⟨false, 2, v, fin, false⟩) (hn : 1 ≤ n ∧ n ≤ 256) (x : Int) (hx : IntKind.u64.wrap (had + 1) = x) :
    Calls Try.prog 19 #[.pointer (some ⟨rb, 0, none⟩), .pointer (some ⟨qb, 0, none⟩)] w fun e w' => e = .returned (.bool true) ∧ RF w rb lb qb D0 D1 ⟨n, x, got, got :: x :: M⟩ M ⟨false, 3, v, 0, true⟩ w' := by
  have q0 : w.cell? ⟨qb, 0, none⟩ = some (.int .i64 0) := Blk.cell st 0
  have q1 := Blk.cell st 1
  have q4 := Blk.cell st 4
  have f1 := Blk.frozen st 1
  have r0 := rf.obj.cell 0
  have hun : IntKind.u64.wrap (n : Int) = n := by rw [IntKind.wrap_u64]; omega
  have k0 : RF w rb lb qb D0 D1 ⟨n, had, got, L⟩ M ⟨false, 2, v, fin, false⟩ w := ⟨rf, st, Upd.refl _ _⟩
  have k1 : RF w rb lb qb D0 D1 ⟨n, had, got, L⟩ M ⟨false, 3, v, fin, false⟩ (w.setCell ⟨qb, 1, none⟩ (.int .i64 3)) := k0.cell 1 _ rfl
  clear k0 st
  go_enter Try.func19, Try.ntmps19
  go_upto_region 13 with fail
  generalize w.setCell ⟨qb, 1, none⟩ (.int .i64 3) = W1 at *
  clear q0 q1 q4 f1 r0 rf
  have c2 := k1.rf.obj.cell 2
  have f2 := k1.rf.obj.frozen 2
  have k2 := k1.setHad x
  clear k1
  go_upto_region 14 with fail
  generalize W1.setCell ⟨rb, 2, none⟩ (.int .u64 x) = W2 at *
  clear c2 f2
  go_wp2_with fail
  refine (end_any 0 qb _ _ k2.st).mono ?_
  rintro e W3 ⟨rfl, st3, up3⟩
  replace k2 := k2.fin st3 up3
  clear st3 up3
  have q4 := Blk.cell k2.st 4
  go_wp2_with fail
  go_ret
  exact ⟨rfl, k2⟩
set_option maxRecDepth 100000 in
set_option maxHeartbeats 1000000 in
theorem rDo_g2 (rf : RfAt w rb lb D0 D1 ⟨n, had, got, L⟩ M) (st : FStpAt w qb ⟨true, 2, v, fin, false⟩) (hn : 1 ≤ n ∧ n ≤ 256) (x : Int) (hx : IntKind.u64.wrap (got + 1) = x) :
    Calls Try.prog 19 #[.pointer (some ⟨rb, 0, none⟩), .pointer (some ⟨qb, 0, none⟩)] w fun e w' => e = .returned (.bool true) ∧ RF w rb lb qb D0 D1 ⟨n, had, x, x :: had :: M⟩ M ⟨true, 3, v, 0, true⟩ w' := by
  have q0 : w.cell? ⟨qb, 0, none⟩ = some (.int .i64 1) := Blk.cell st 0
  have q1 := Blk.cell st 1
  have q4 := Blk.cell st 4
  have f1 := Blk.frozen st 1
  have r0 := rf.obj.cell 0
  have hun : IntKind.u64.wrap (n : Int) = n := by rw [IntKind.wrap_u64]; omega
  have k0 : RF w rb lb qb D0 D1 ⟨n, had, got, L⟩ M ⟨true, 2, v, fin, false⟩ w := ⟨rf, st, Upd.refl _ _⟩
  have k1 : RF w rb lb qb D0 D1 ⟨n, had, got, L⟩ M ⟨true, 3, v, fin, false⟩ (w.setCell ⟨qb, 1, none⟩ (.int .i64 3)) := k0.cell 1 _ rfl
  clear k0 st
  go_enter Try.func19, Try.ntmps19
  go_upto_region 5 with fail
  generalize w.setCell ⟨qb, 1, none⟩ (.int .i64 3) = W1 at *
  clear q0 q1 q4 f1 r0 rf
  have c2 := k1.rf.obj.cell 1
  have f2 := k1.rf.obj.frozen 1
  have k2 := k1.setGot x
  clear k1
  go_upto_region 6 with fail
  generalize W1.setCell ⟨rb, 1, none⟩ (.int .u64 x) = W2 at *
  clear c2 f2
  go_wp2_with fail
  refine (end_any 0 qb _ _ k2.st).mono ?_
  rintro e W3 ⟨rfl, st3, up3⟩
  replace k2 := k2.fin st3 up3
  clear st3 up3
  have q4 := Blk.cell k2.st 4
  go_wp2_with fail
  go_ret
  exact ⟨rfl, k2⟩
end
end Go.Proofs.Ytpkcajnlcpmmcaa
