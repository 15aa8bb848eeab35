/- The document's epochs in memory; its Do, Begin, Unpin, Waiting; package epoch of none. -/
import Derived.Test.YtfcldnojmmhekaaEpTurnsA
import Derived.Test.YtfcldnojmmhekaaEpTurnsB
import Derived.RegionTactic
namespace Go.Proofs.Ytfcldnojmmhekaa
set_option linter.unusedVariables false
set_option linter.unusedSimpArgs false
open Go.RowKit
theorem known_nil (x : Int) (w : World) : Calls Try.prog 35 #[.pointer none, .int .i64 x] w fun e w' => e = .returned (.bool false) ∧ w = w' := by
  go_enter Try.func35, Try.ntmps35
  go_wp2
  go_ret
  exact ⟨rfl, rfl⟩
theorem enone_any (w : World) : Calls Try.prog 21 #[] w fun e w' => e = .returned (.tuple #[.pointer none, .pointer none]) ∧ w = w' := by
  go_enter Try.func21, Try.ntmps21
  go_wp2
  go_ret2
  exact ⟨rfl, rfl⟩
theorem EpUnpin_nil (x : Int) (w : World) : Calls Try.prog 19 #[.pointer none, .int .i64 x] w fun e w' => e = .returned (.tuple #[]) ∧ w = w' := by
  go_enter Try.func19, Try.ntmps19
  go_wp2_with (go_at_call 35; refine (known_nil _ _).mono ?_; rintro e w' ⟨rfl, rfl⟩)
  go_end0
  exact ⟨rfl, rfl⟩
theorem EpNow_nil (w : World) : Calls Try.prog 13 #[.pointer none] w fun e w' => e = .returned (.int .i64 0) ∧ w = w' := by
  go_enter Try.func13, Try.ntmps13
  go_wp2_with (go_at_call 35; refine (known_nil _ _).mono ?_; rintro e w' ⟨rfl, rfl⟩)
  go_ret
  exact ⟨rfl, rfl⟩
theorem EpPinned_nil (x : Int) (w : World) : Calls Try.prog 18 #[.pointer none, .int .i64 x] w fun e w' => e = .returned (.int .i64 (-1)) ∧ w = w' := by
  go_enter Try.func18, Try.ntmps18
  go_wp2_with (go_at_call 35; refine (known_nil _ _).mono ?_; rintro e w' ⟨rfl, rfl⟩)
  go_ret
  exact ⟨rfl, rfl⟩
theorem EpGive_nil (x v : Int) (w : World) : Calls Try.prog 14 #[.pointer none, .int .i64 x, .int .u64 v] w fun e w' => e = .returned (.int .i64 1) ∧ w = w' := by
  go_enter Try.func14, Try.ntmps14
  go_wp2_with (go_at_call 35; refine (known_nil _ _).mono ?_; rintro e w' ⟨rfl, rfl⟩)
  go_ret
  exact ⟨rfl, rfl⟩
set_option maxRecDepth 100000 in
theorem EpTake_nil (x : Int) (w : World) : Calls Try.prog 16 #[.pointer none, .int .i64 x] w fun e w' => e = .returned (.slice none 0 0) ∧ w = w' := by
  go_enter Try.func16, Try.ntmps16
  go_wp2_with (go_at_call 35; refine (known_nil _ _).mono ?_; rintro e w' ⟨rfl, rfl⟩)
  go_ret
  exact ⟨rfl, rfl⟩
theorem EpWaiting_nil (x : Int) (w : World) : Calls Try.prog 15 #[.pointer none, .int .i64 x] w fun e w' => e = .returned (.int .i64 0) ∧ w = w' := by
  go_enter Try.func15, Try.ntmps15
  go_wp2_with (go_at_call 35; refine (known_nil _ _).mono ?_; rintro e w' ⟨rfl, rfl⟩)
  go_ret
  exact ⟨rfl, rfl⟩
theorem EpGiven_nil (x : Int) (w : World) : Calls Try.prog 20 #[.pointer none, .int .i64 x] w fun e w' => e = .returned (.slice none 0 0) ∧ w = w' := by
  go_enter Try.func20, Try.ntmps20
  go_wp2_with (go_at_call 35; refine (known_nil _ _).mono ?_; rintro e w' ⟨rfl, rfl⟩)
  go_ret
  exact ⟨rfl, rfl⟩
theorem EpDo_nil (w : World) : Calls Try.prog 11 #[.pointer none, .pointer none] w fun e w' => e = .returned (.bool true) ∧ w = w' := by
  go_enter Try.func11, Try.ntmps11
  go_wp2_with (go_at_call 35; refine (known_nil _ _).mono ?_; rintro e w' ⟨rfl, rfl⟩)
  go_ret
  exact ⟨rfl, rfl⟩
theorem EpWon_nil (w : World) : Calls Try.prog 12 #[.pointer none] w fun e w' => e = .returned (.bool false) ∧ w = w' := by
  go_enter Try.func12, Try.ntmps12
  go_wp2_with (go_at_call 35; refine (known_nil _ _).mono ?_; rintro e w' ⟨rfl, rfl⟩)
  go_ret
  exact ⟨rfl, rfl⟩
/-- a step of the document's -/
structure Rs where
  on : Bool
  adv : Bool
  pos : Nat
  seen : Int
def Rs.cs (x : Rs) : List Value := [.bool x.on, .bool x.adv, .int .i64 x.pos, .int .i64 x.seen]
theorem rs_len (x : Rs) : x.cs.length = 4 := rfl
def Th.csr (x : Th) : List Value := [.int .u64 x.what, .int .i64 x.when]
theorem csr_len (x : Th) : x.csr.length = 2 := rfl
/-- the document's epochs -/
structure RE (base eb pb stb gb n E : Nat) (pin : List Nat) (rs : List Rs) (hs : List Value) (G : List (List Th)) (w : World) : Prop where
  obj : Blk w eb 59 #[.int .i64 E, .slice (some ⟨pb, 0, none⟩) n n, .slice (some ⟨stb, 0, none⟩) n n, .slice (some ⟨gb, 0, none⟩) n n]
  pins : Blk w pb 3 (pin.map fun (x : Nat) => Value.int .i64 (x : Int)).toArray
  sts : Blk w stb 76 (rs.flatMap Rs.cs).toArray
  gv : GvT Th.csr 2 80 78 w base gb hs G
  lp : pin.length = n
  lr : rs.length = n
  lg : G.length = n
/-- the blocks of it that Do may turn -/
def ReS (eb pb stb : Nat) (x : Nat) : Prop := x = eb ∨ x = pb ∨ x = stb
section
variable {base eb pb stb gb n E k : Nat} {pin : List Nat} {rs : List Rs} {hs : List Value} {G : List (List Th)} {w w' : World} {r : Rs}
theorem RE.bel (q : RE base eb pb stb gb n E pin rs hs G w) (hb : Below w.heap.size w w') : RE base eb pb stb gb n E pin rs hs G w' := ⟨q.obj.bel hb, q.pins.bel hb, q.sts.bel hb, q.gv.bel hb, q.lp, q.lr, q.lg⟩
theorem RE.drew (q : RE base eb pb stb gb n E pin rs hs G w) : RE base eb pb stb gb n E pin rs hs G w.drew := q.bel (Below.refl _ _).drew
/-- blocks of other types turn -/
theorem RE.other {S : Nat → Prop} (q : RE base eb pb stb gb n E pin rs hs G w) (hu : Upd S w w') (hS : ∀ x, S x → ∃ t ds, Blk w x t ds ∧ t ≠ 59 ∧ t ≠ 3 ∧ t ≠ 76 ∧ t ≠ 78 ∧ t ≠ 80) : RE base eb pb stb gb n E pin rs hs G w' := by
  have nn : ∀ {x : Nat} {t : TypeId} {cs : Array Value}, Blk w x t cs → (∀ t', (t' ≠ 59 ∧ t' ≠ 3 ∧ t' ≠ 76 ∧ t' ≠ 78 ∧ t' ≠ 80) → t' ≠ t) → ¬ S x := fun hx ht hs => by
    obtain ⟨t', ds, hb, h1⟩ := hS _ hs
    exact hb.ne_ hx (ht _ h1) rfl
  exact ⟨q.obj.upd hu (nn q.obj fun _ h => h.1), q.pins.upd hu (nn q.pins fun _ h => h.2.1), q.sts.upd hu (nn q.sts fun _ h => h.2.2.1), q.gv.other hu (fun x hx => by obtain ⟨t, ds, hb, h⟩ := hS x hx; exact ⟨t, ds, hb, h.2.2.2.1, h.2.2.2.2⟩), q.lp, q.lr, q.lg⟩
theorem RE.stc (q : RE base eb pb stb gb n E pin rs hs G w) (hk : rs[k]? = some r) : w.cell? ⟨stb, k * 4, none⟩ = some (.bool r.on) ∧ w.cell? ⟨stb, k * 4 + 1, none⟩ = some (.bool r.adv) ∧ w.cell? ⟨stb, k * 4 + 2, none⟩ = some (.int .i64 r.pos) ∧ w.cell? ⟨stb, k * 4 + 3, none⟩ = some (.int .i64 r.seen) := by
  have f := fun f hf => flat_at rs_len rs k f r hk hf
  rw [q.sts.cell, q.sts.cell, q.sts.cell, q.sts.cell]
  simp only [List.getElem?_toArray]
  exact ⟨f 0 (by omega), f 1 (by omega), f 2 (by omega), f 3 (by omega)⟩
theorem RE.pinc (q : RE base eb pb stb gb n E pin rs hs G w) {j p : Nat} (hp : pin[j]? = some p) : w.cell? ⟨pb, j, none⟩ = some (.int .i64 (p : Int)) := by
  rw [q.pins.cell]; simp [hp]
theorem RE.st (q : RE base eb pb stb gb n E pin rs hs G w) (hk : rs[k]? = some r) (f : Nat) (hf : f < 4) (u : Value) (r' : Rs) (hr : r'.cs = r.cs.set f u) :
    RE base eb pb stb gb n E pin (rs.set k r') hs G (w.setCell ⟨stb, k * 4 + f, none⟩ u) ∧ Upd (ReS eb pb stb) w (w.setCell ⟨stb, k * 4 + f, none⟩ u) := by
  have up := Upd.one w stb (k * 4 + f) u
  refine ⟨⟨q.obj.upd up (q.obj.ne_ q.sts (by decide)), q.pins.upd up (q.pins.ne_ q.sts (by decide)), ?_, q.gv.other up (fun x hx => by subst hx; exact ⟨_, _, q.sts, by decide, by decide⟩), q.lp, by simp [q.lr], q.lg⟩, up.mono fun x _ e => .inr (.inr e)⟩
  have := q.sts.set_ (k * 4 + f) u
  rw [flat_set rs_len rs k f r r' u hk hf hr]
  simpa using this
theorem RE.pn (q : RE base eb pb stb gb n E pin rs hs G w) (j p : Nat) : RE base eb pb stb gb n E (pin.set j p) rs hs G (w.setCell ⟨pb, j, none⟩ (.int .i64 (p : Int))) ∧ Upd (ReS eb pb stb) w (w.setCell ⟨pb, j, none⟩ (.int .i64 (p : Int))) := by
  have up := Upd.one w pb j (.int .i64 (p : Int))
  refine ⟨⟨q.obj.upd up (q.obj.ne_ q.pins (by decide)), ?_, q.sts.upd up (q.sts.ne_ q.pins (by decide)), q.gv.other up (fun x hx => by subst hx; exact ⟨_, _, q.pins, by decide, by decide⟩), by simp [q.lp], q.lr, q.lg⟩, up.mono fun x _ e => .inr (.inl e)⟩
  have := q.pins.set_ j (.int .i64 (p : Int))
  rw [List.map_set]
  simpa using this
theorem RE.now (q : RE base eb pb stb gb n E pin rs hs G w) (E' : Nat) : RE base eb pb stb gb n E' pin rs hs G (w.setCell ⟨eb, 0, none⟩ (.int .i64 (E' : Int))) ∧ Upd (ReS eb pb stb) w (w.setCell ⟨eb, 0, none⟩ (.int .i64 (E' : Int))) := by
  have up := Upd.one w eb 0 (.int .i64 (E' : Int))
  exact ⟨⟨q.obj.set_ 0 _, q.pins.upd up (q.pins.ne_ q.obj (by decide)), q.sts.upd up (q.sts.ne_ q.obj (by decide)), q.gv.other up (fun x hx => by subst hx; exact ⟨_, _, q.obj, by decide, by decide⟩), q.lp, q.lr, q.lg⟩, up.mono fun x _ e => .inl e⟩
end
section
variable {base eb pb stb gb n E k seen pos : Nat} {pin : List Nat} {rs : List Rs} {hs : List Value} {G : List (List Th)} {w : World}
/-- two stores into a step: what it saw, the place -/
theorem RE.two (q : RE base eb pb stb gb n E pin rs hs G w) {a : Bool} {p0 : Nat} {s0 : Int} (hk : rs[k]? = some ⟨true, a, p0, s0⟩) (s1 : Int) (p1 : Nat) :
    RE base eb pb stb gb n E pin (rs.set k ⟨true, a, p1, s1⟩) hs G ((w.setCell ⟨stb, k * 4 + 3, none⟩ (.int .i64 s1)).setCell ⟨stb, k * 4 + 2, none⟩ (.int .i64 p1)) ∧ Upd (ReS eb pb stb) w ((w.setCell ⟨stb, k * 4 + 3, none⟩ (.int .i64 s1)).setCell ⟨stb, k * 4 + 2, none⟩ (.int .i64 p1)) := by
  obtain ⟨q1, u1⟩ := q.st hk 3 (by omega) (.int .i64 s1) ⟨true, a, p0, s1⟩ rfl
  obtain ⟨q2, u2⟩ := q1.st (k := k) (r := ⟨true, a, p0, s1⟩) (List.getElem?_set_self (List.getElem?_eq_some_iff.1 hk).1) 2 (by omega) (.int .i64 p1) ⟨true, a, p1, s1⟩ rfl
  rw [List.set_set] at q2
  exact ⟨q2, u1.trans u2⟩
set_option maxRecDepth 100000 in
set_option maxHeartbeats 1000000 in
theorem rdo_a0 (q : RE base eb pb stb gb n E pin rs hs G w) (hk : rs[k]? = some ⟨true, true, 0, (seen : Int)⟩) :
    Calls Try.prog 25 #[.pointer (some ⟨eb, 0, none⟩), .int .i64 k] w fun e w' => e = .returned (.tuple #[.bool false, .bool false, .bool false]) ∧ RE base eb pb stb gb n E pin (rs.set k ⟨true, true, 1, (E : Int)⟩) hs G w' ∧ Upd (ReS eb pb stb) w w' := by
  obtain ⟨q2, u2⟩ := q.two hk (E : Int) 1
  obtain ⟨c0, c1, c2, c3⟩ := q.stc hk
  simp only at c0 c1 c2 c3
  have kl : k < rs.length := (List.getElem?_eq_some_iff.1 hk).1
  have hkn : (k : Int) < n := by have := q.lr; omega
  have hk0 : (0 : Int) ≤ k := by omega
  have e0 := q.obj.cell 0
  have e1 := q.obj.cell 1
  have e2 := q.obj.cell 2
  have f0 := q.sts.frozen (k * 4)
  have f2 := q.sts.frozen (k * 4 + 2)
  have f3 := q.sts.frozen (k * 4 + 3)
  go_enter Try.func25, Try.ntmps25
  clear q
  go_wp2_with fail
  exact bodyPost_ret (v := .tuple #[.bool false, .bool false, .bool false]) (by simp [results, Try.results25, go_sem]) rfl ⟨rfl, q2, u2⟩
set_option maxRecDepth 100000 in
set_option maxHeartbeats 1000000 in
theorem rdo_p0 (q : RE base eb pb stb gb n E pin rs hs G w) (hk : rs[k]? = some ⟨true, false, 0, (seen : Int)⟩) :
    Calls Try.prog 25 #[.pointer (some ⟨eb, 0, none⟩), .int .i64 k] w fun e w' => e = .returned (.tuple #[.bool false, .bool false, .bool false]) ∧ RE base eb pb stb gb n E pin (rs.set k ⟨true, false, 1, (E : Int)⟩) hs G w' ∧ Upd (ReS eb pb stb) w w' := by
  obtain ⟨q2, u2⟩ := q.two hk (E : Int) 1
  obtain ⟨c0, c1, c2, c3⟩ := q.stc hk
  simp only at c0 c1 c2 c3
  have kl : k < rs.length := (List.getElem?_eq_some_iff.1 hk).1
  have hkn : (k : Int) < n := by have := q.lr; omega
  have hk0 : (0 : Int) ≤ k := by omega
  have e0 := q.obj.cell 0
  have e1 := q.obj.cell 1
  have e2 := q.obj.cell 2
  have f0 := q.sts.frozen (k * 4)
  have f2 := q.sts.frozen (k * 4 + 2)
  have f3 := q.sts.frozen (k * 4 + 3)
  go_enter Try.func25, Try.ntmps25
  clear q
  go_wp2_with fail
  exact bodyPost_ret (v := .tuple #[.bool false, .bool false, .bool false]) (by simp [results, Try.results25, go_sem]) rfl ⟨rfl, q2, u2⟩
set_option maxRecDepth 100000 in
set_option maxHeartbeats 1000000 in
theorem rdo_a1 (q : RE base eb pb stb gb n E pin rs hs G w) (hk : rs[k]? = some ⟨true, true, pos, (seen : Int)⟩) (j x : Nat) (hp : pos = j + 1) (hj : j < n) (hx : pin[j]? = some x) (hps : pos ≤ 1000) (hss : seen ≤ 1000) (B : Bool) (hB : B = decide (x ≠ 0 ∧ x ≠ seen + 1)) :
    Calls Try.prog 25 #[.pointer (some ⟨eb, 0, none⟩), .int .i64 k] w fun e w' => e = .returned (.tuple #[.bool B, .bool false, .bool false]) ∧ RE base eb pb stb gb n E pin (rs.set k ⟨!B, true, pos + 1, (seen : Int)⟩) hs G w' ∧ Upd (ReS eb pb stb) w w' := by
  have hpw : IntKind.i64.wrap ((pos : Int) - 1) = (j : Int) := by rw [show (pos : Int) - 1 = (j : Int) by omega]; exact IntWalk.i64_in _ (by omega)
  have hpw2 : IntKind.i64.wrap ((pos : Int) + 1) = ((pos + 1 : Nat) : Int) := by rw [show (pos : Int) + 1 = ((pos + 1 : Nat) : Int) by omega]; exact IntWalk.i64_in _ (by omega)
  have hsw : IntKind.i64.wrap ((seen : Int) + 1) = ((seen + 1 : Nat) : Int) := by rw [show (seen : Int) + 1 = ((seen + 1 : Nat) : Int) by omega]; exact IntWalk.i64_in _ (by omega)
  have hle : decide (pos ≤ n) = true := by simp; omega
  have hj0 : (0 : Int) ≤ j := by omega
  have hjn : (j : Int) < n := by omega
  obtain ⟨p1, hp1⟩ : ∃ p1, p1 = pos + 1 := ⟨_, rfl⟩
  obtain ⟨s1, hs1⟩ : ∃ s1, s1 = seen + 1 := ⟨_, rfl⟩
  rw [← hp1] at hpw2 ⊢
  rw [← hs1] at hsw
  have hp0 : ((pos : Int) == 0) = false := by simp; omega
  replace hp := Lib.hid hp
  replace hp1 := Lib.hid hp1
  replace hs1 := Lib.hid hs1
  obtain ⟨c0, c1, c2, c3⟩ := q.stc hk
  simp only at c0 c1 c2 c3
  have kl : k < rs.length := (List.getElem?_eq_some_iff.1 hk).1
  have hkn : (k : Int) < n := by have := q.lr; omega
  have hk0 : (0 : Int) ≤ k := by omega
  have e0 := q.obj.cell 0
  have e1 := q.obj.cell 1
  have e2 := q.obj.cell 2
  have f0 := q.sts.frozen (k * 4)
  have f2 := q.sts.frozen (k * 4 + 2)
  have f3 := q.sts.frozen (k * 4 + 3)
  go_enter Try.func25, Try.ntmps25
  go_upto_region 23 with fail
  clear c0 c1 c2 c3 e0 e1 e2 f0 f2 f3
  have z2 : ∀ t : Tw (fun W' => Below w.heap.size w W'), t.w.cell? ⟨stb, k * 4 + 2, none⟩ = some (.int .i64 (pos : Int)) := fun t => ((q.bel t.h).stc hk).2.2.1
  have z1 : ∀ t : Tw (fun W' => Below w.heap.size w W'), t.w.cell? ⟨eb, 1, none⟩ = some (.slice (some ⟨pb, 0, none⟩) n n) := fun t => (q.bel t.h).obj.cell 1
  have : Nonempty (Tw (fun W' => Below w.heap.size w W')) := ⟨⟨w, Below.refl _ _⟩⟩
  refine region_tw (fun w' => Below (w).heap.size (w) w') (by kernel_rfl) (by kernel_rfl) (Below.refl _ _).drew ?_
  unfold clsS
  repeat (first
    | go_big_quiet_skip
    | (go_big_quiet_want; go_big_quiet_op; first | go_big_quiet_on | go_big_quiet_call (
      (first 
      | fail))))
  refine wpQuiet_nil ?_
  intro tq
  have u1 : Upd (ReS eb pb stb) w tq.w := Upd.of_below tq.h _
  replace q := q.bel tq.h
  generalize hW : tq.w = W1 at *
  clear hW
  clear z2 z1 this
  go_upto_region 24 with fail
  have z2 : ∀ t : Tw (fun W' => Below W1.heap.size W1 W'), t.w.cell? ⟨stb, k * 4 + 2, none⟩ = some (.int .i64 (pos : Int)) := fun t => ((q.bel t.h).stc hk).2.2.1
  have z1 : ∀ t : Tw (fun W' => Below W1.heap.size W1 W'), t.w.cell? ⟨eb, 1, none⟩ = some (.slice (some ⟨pb, 0, none⟩) n n) := fun t => (q.bel t.h).obj.cell 1
  have z3 : ∀ t : Tw (fun W' => Below W1.heap.size W1 W'), t.w.cell? ⟨pb, j, none⟩ = some (.int .i64 (x : Int)) := fun t => (q.bel t.h).pinc hx
  have : Nonempty (Tw (fun W' => Below W1.heap.size W1 W')) := ⟨⟨W1, Below.refl _ _⟩⟩
  refine region_tw (fun w' => Below (W1).heap.size (W1) w') (by kernel_rfl) (by kernel_rfl) (Below.refl _ _).drew ?_
  unfold clsS
  repeat (first
    | go_big_quiet_skip
    | (go_big_quiet_want; go_big_quiet_op; first | go_big_quiet_on | go_big_quiet_call (
      (first 
      | fail))))
  refine wpQuiet_nil ?_
  intro tq
  replace u1 := u1.trans (Upd.of_below tq.h (ReS eb pb stb))
  replace q := q.bel tq.h
  generalize hW : tq.w = W2 at *
  clear hW
  clear z2 z1 z3 this
  have c2 := (q.stc hk).2.2.1
  simp only at c2
  have f2 := q.sts.frozen (k * 4 + 2)
  obtain ⟨q3, u3⟩ := q.st hk 2 (by omega) (.int .i64 (p1 : Int)) ⟨true, true, p1, (seen : Int)⟩ rfl
  replace u3 := u1.trans u3
  go_upto_region 26 with fail
  generalize W2.setCell ⟨stb, k * 4 + 2, none⟩ (.int .i64 (p1 : Int)) = W3 at *
  clear c2 f2 q u1
  have hk3 : (rs.set k ⟨true, true, p1, (seen : Int)⟩)[k]? = some ⟨true, true, p1, (seen : Int)⟩ := List.getElem?_set_self kl
  obtain ⟨c0, -, -, c3⟩ := q3.stc hk3
  simp only at c0 c3
  have f0 := q3.sts.frozen (k * 4)
  by_cases hx0 : x = 0
  · have hB2 : B = false := by rw [hB]; simp [hx0]
    clear hB
    subst hB2 hx0
    clear c0 f0 hk3
    go_wp2_with fail
    exact bodyPost_ret (v := .tuple #[.bool false, .bool false, .bool false]) (by simp [results, Try.results25, go_sem]) rfl ⟨rfl, q3, u3⟩
  · have hx0b : ((x : Int) == 0) = false := by simp; omega
    have hx0c : ((x : Int) != 0) = true := by simp; omega
    have hx0d : (x != 0) = true := by simp; omega
    have hx0e : ¬ (x : Int) = 0 := by omega
    by_cases hx1 : x = s1
    · have hB2 : B = false := by rw [hB]; simp [hx1, hs1.out]
      clear hB
      subst hB2
      have hx1b : (x != s1) = false := by simp [hx1]
      have hx1c : ((x : Int) != (seen : Int) + 1) = false := by have := hs1.out; simp; omega
      have hx1d : (x != seen + 1) = false := by have := hs1.out; simp; omega
      clear c0 f0 hk3 hx1 hx0
      go_wp2_with fail
      exact bodyPost_ret (v := .tuple #[.bool false, .bool false, .bool false]) (by simp [results, Try.results25, go_sem]) rfl ⟨rfl, q3, u3⟩
    · have hB2 : B = true := by rw [hB, ← hs1.out]; simp [hx0, hx1]
      clear hB
      subst hB2
      have hx1b : (x != s1) = true := by simp; exact hx1
      have hx1c : ((x : Int) != (seen : Int) + 1) = true := by have := hs1.out; simp; omega
      have hx1d : (x != seen + 1) = true := by have := hs1.out; simp; omega
      obtain ⟨q4, u4⟩ := q3.st hk3 0 (by omega) (.bool false) ⟨false, true, p1, (seen : Int)⟩ rfl
      rw [List.set_set] at q4
      replace u4 := u3.trans u4
      rw [Nat.add_zero] at q4 u4
      clear hk3 hx1 hx0 q3 u3
      go_wp2_with fail
      exact bodyPost_ret (v := .tuple #[.bool true, .bool false, .bool false]) (by simp [results, Try.results25, go_sem]) rfl ⟨rfl, q4, u4⟩
set_option maxRecDepth 100000 in
set_option maxHeartbeats 1000000 in
theorem rdo_a2 (q : RE base eb pb stb gb n E pin rs hs G w) (hk : rs[k]? = some ⟨true, true, pos, (seen : Int)⟩) (hp : pos = n + 1) (hE : E ≤ 1000) (B : Bool) (hB : B = decide (E = seen)) :
    Calls Try.prog 25 #[.pointer (some ⟨eb, 0, none⟩), .int .i64 k] w fun e w' => e = .returned (.tuple #[.bool true, .bool B, .bool false]) ∧ RE base eb pb stb gb n (if B then E + 1 else E) pin (rs.set k ⟨false, true, pos, (seen : Int)⟩) hs G w' ∧ Upd (ReS eb pb stb) w w' := by
  have hle : decide (pos ≤ n) = false := by simp; omega
  have hp0 : ((pos : Int) == 0) = false := by simp; omega
  have hEw : IntKind.i64.wrap ((E : Int) + 1) = ((E + 1 : Nat) : Int) := by rw [show (E : Int) + 1 = ((E + 1 : Nat) : Int) by omega]; exact IntWalk.i64_in _ (by omega)
  obtain ⟨E1, hE1⟩ : ∃ E1, E1 = E + 1 := ⟨_, rfl⟩
  rw [← hE1] at hEw ⊢
  replace hE1 := Lib.hid hE1
  replace hp := Lib.hid hp
  obtain ⟨c0, c1, c2, c3⟩ := q.stc hk
  simp only at c0 c1 c2 c3
  have kl : k < rs.length := (List.getElem?_eq_some_iff.1 hk).1
  have hkn : (k : Int) < n := by have := q.lr; omega
  have hk0 : (0 : Int) ≤ k := by omega
  have e0 := q.obj.cell 0
  have e1 := q.obj.cell 1
  have e2 := q.obj.cell 2
  have f0 := q.sts.frozen (k * 4)
  have f2 := q.sts.frozen (k * 4 + 2)
  have f3 := q.sts.frozen (k * 4 + 3)
  go_enter Try.func25, Try.ntmps25
  go_upto_region 23 with fail
  clear c0 c1 c2 c3 e0 e1 e2 f0 f2 f3
  have z2 : ∀ t : Tw (fun W' => Below w.heap.size w W'), t.w.cell? ⟨stb, k * 4 + 2, none⟩ = some (.int .i64 (pos : Int)) := fun t => ((q.bel t.h).stc hk).2.2.1
  have z1 : ∀ t : Tw (fun W' => Below w.heap.size w W'), t.w.cell? ⟨eb, 1, none⟩ = some (.slice (some ⟨pb, 0, none⟩) n n) := fun t => (q.bel t.h).obj.cell 1
  have : Nonempty (Tw (fun W' => Below w.heap.size w W')) := ⟨⟨w, Below.refl _ _⟩⟩
  refine region_tw (fun w' => Below (w).heap.size (w) w') (by kernel_rfl) (by kernel_rfl) (Below.refl _ _).drew ?_
  unfold clsS
  repeat (first
    | go_big_quiet_skip
    | (go_big_quiet_want; go_big_quiet_op; first | go_big_quiet_on | go_big_quiet_call (
      (first 
      | fail))))
  refine wpQuiet_nil ?_
  intro tq
  have u1 : Upd (ReS eb pb stb) w tq.w := Upd.of_below tq.h _
  replace q := q.bel tq.h
  generalize hW : tq.w = W1 at *
  clear hW
  clear z2 z1 this
  have c0 := (q.stc hk).1
  simp only at c0
  have f0 := q.sts.frozen (k * 4)
  obtain ⟨q2, u2⟩ := q.st hk 0 (by omega) (.bool false) ⟨false, true, pos, (seen : Int)⟩ rfl
  rw [Nat.add_zero] at q2 u2
  replace u2 := u1.trans u2
  go_upto_region 17 with fail
  generalize W1.setCell ⟨stb, k * 4, none⟩ (.bool false) = W2 at *
  clear c0 f0 q u1
  replace hk : (rs.set k ⟨false, true, pos, (seen : Int)⟩)[k]? = some ⟨false, true, pos, (seen : Int)⟩ := List.getElem?_set_self kl
  have q := q2
  clear q2
  have z0 : ∀ t : Tw (fun W' => Below W2.heap.size W2 W'), t.w.cell? ⟨eb, 0, none⟩ = some (.int .i64 (E : Int)) := fun t => (q.bel t.h).obj.cell 0
  have z3 : ∀ t : Tw (fun W' => Below W2.heap.size W2 W'), t.w.cell? ⟨stb, k * 4 + 3, none⟩ = some (.int .i64 (seen : Int)) := fun t => ((q.bel t.h).stc hk).2.2.2
  have : Nonempty (Tw (fun W' => Below W2.heap.size W2 W')) := ⟨⟨W2, Below.refl _ _⟩⟩
  refine region_tw (fun w' => Below (W2).heap.size (W2) w') (by kernel_rfl) (by kernel_rfl) (Below.refl _ _).drew ?_
  unfold clsS
  repeat (first
    | go_big_quiet_skip
    | (go_big_quiet_want; go_big_quiet_op; first | go_big_quiet_on | go_big_quiet_call (
      (first 
      | fail))))
  refine wpQuiet_nil ?_
  intro tq
  replace u2 := u2.trans (Upd.of_below tq.h (ReS eb pb stb))
  replace q := q.bel tq.h
  generalize hW : tq.w = W3 at *
  clear hW
  clear z0 z3 this
  by_cases hes : E = seen
  · have hB2 : B = true := by rw [hB]; simp [hes]
    clear hB
    subst hB2
    have heb : (E == seen) = true := by simp [hes]
    have e0 := q.obj.cell 0
    have f0 := q.obj.frozen 0
    obtain ⟨q4, u4⟩ := q.now E1
    replace u4 := u2.trans u4
    clear q u2 hes
    go_wp2_with fail
    exact bodyPost_ret (v := .tuple #[.bool true, .bool true, .bool false]) (by simp [results, Try.results25, go_sem]) rfl ⟨rfl, q4, u4⟩
  · have hB2 : B = false := by rw [hB]; simp [hes]
    clear hB
    subst hB2
    have heb : (E == seen) = false := by simp; exact hes
    clear hes
    go_wp2_with fail
    exact bodyPost_ret (v := .tuple #[.bool true, .bool false, .bool false]) (by simp [results, Try.results25, go_sem]) rfl ⟨rfl, q, u2⟩
set_option maxRecDepth 100000 in
set_option maxHeartbeats 1000000 in
theorem rdo_p2 (q : RE base eb pb stb gb n E pin rs hs G w) (hk : rs[k]? = some ⟨true, false, 2, (seen : Int)⟩) (B : Bool) (hB : B = decide (E = seen)) :
    Calls Try.prog 25 #[.pointer (some ⟨eb, 0, none⟩), .int .i64 k] w fun e w' => e = .returned (.tuple #[.bool B, .bool false, .bool B]) ∧ RE base eb pb stb gb n E pin (rs.set k (if B then ⟨false, false, 2, (seen : Int)⟩ else ⟨true, false, 0, (seen : Int)⟩)) hs G w' ∧ Upd (ReS eb pb stb) w w' := by
  obtain ⟨c0, c1, c2, c3⟩ := q.stc hk
  simp only at c0 c1 c2 c3
  have kl : k < rs.length := (List.getElem?_eq_some_iff.1 hk).1
  have hkn : (k : Int) < n := by have := q.lr; omega
  have hk0 : (0 : Int) ≤ k := by omega
  have e0 := q.obj.cell 0
  have e1 := q.obj.cell 1
  have e2 := q.obj.cell 2
  have f0 := q.sts.frozen (k * 4)
  have f2 := q.sts.frozen (k * 4 + 2)
  have f3 := q.sts.frozen (k * 4 + 3)
  go_enter Try.func25, Try.ntmps25
  go_upto_region 11 with fail
  clear c0 c1 c2 c3 e0 e1 e2 f0 f2 f3
  have z0 : ∀ t : Tw (fun W' => Below w.heap.size w W'), t.w.cell? ⟨eb, 0, none⟩ = some (.int .i64 (E : Int)) := fun t => (q.bel t.h).obj.cell 0
  have z3 : ∀ t : Tw (fun W' => Below w.heap.size w W'), t.w.cell? ⟨stb, k * 4 + 3, none⟩ = some (.int .i64 (seen : Int)) := fun t => ((q.bel t.h).stc hk).2.2.2
  have : Nonempty (Tw (fun W' => Below w.heap.size w W')) := ⟨⟨w, Below.refl _ _⟩⟩
  refine region_tw (fun w' => Below (w).heap.size (w) w') (by kernel_rfl) (by kernel_rfl) (Below.refl _ _).drew ?_
  unfold clsS
  repeat (first
    | go_big_quiet_skip
    | (go_big_quiet_want; go_big_quiet_op; first | go_big_quiet_on | go_big_quiet_call (
      (first 
      | fail))))
  refine wpQuiet_nil ?_
  intro tq
  have u1 : Upd (ReS eb pb stb) w tq.w := Upd.of_below tq.h _
  replace q := q.bel tq.h
  generalize hW : tq.w = W1 at *
  clear hW
  clear z0 z3 this
  obtain ⟨c0, -, c2, -⟩ := q.stc hk
  simp only at c0 c2
  have f0 := q.sts.frozen (k * 4)
  have f2 := q.sts.frozen (k * 4 + 2)
  by_cases hes : E = seen
  · have hB2 : B = true := by rw [hB]; simp [hes]
    clear hB
    subst hB2
    have heb : (E == seen) = true := by simp [hes]
    obtain ⟨q4, u4⟩ := q.st hk 0 (by omega) (.bool false) ⟨false, false, 2, (seen : Int)⟩ rfl
    rw [Nat.add_zero] at q4 u4
    replace u4 := u1.trans u4
    clear q u1 hes
    go_wp2_with fail
    exact bodyPost_ret (v := .tuple #[.bool true, .bool false, .bool true]) (by simp [results, Try.results25, go_sem]) rfl ⟨rfl, q4, u4⟩
  · have hB2 : B = false := by rw [hB]; simp [hes]
    clear hB
    subst hB2
    have heb : (E == seen) = false := by simp; exact hes
    obtain ⟨q4, u4⟩ := q.st hk 2 (by omega) (.int .i64 0) ⟨true, false, 0, (seen : Int)⟩ rfl
    replace u4 := u1.trans u4
    clear q u1 hes
    go_wp2_with fail
    exact bodyPost_ret (v := .tuple #[.bool false, .bool false, .bool false]) (by simp [results, Try.results25, go_sem]) rfl ⟨rfl, q4, u4⟩
/-- what a Pin's second step reads -/
structure P1S (eb pb stb k n seen : Nat) (W : World) : Prop where
  c1 : W.cell? ⟨eb, 1, none⟩ = some (.slice (some ⟨pb, 0, none⟩) n n)
  c3 : W.cell? ⟨stb, k * 4 + 3, none⟩ = some (.int .i64 (seen : Int))
set_option maxRecDepth 100000 in
set_option maxHeartbeats 1000000 in
theorem rdo_p1 (q : RE base eb pb stb gb n E pin rs hs G w) (hk : rs[k]? = some ⟨true, false, 1, (seen : Int)⟩) (hss : seen ≤ 1000) :
    Calls Try.prog 25 #[.pointer (some ⟨eb, 0, none⟩), .int .i64 k] w fun e w' => e = .returned (.tuple #[.bool false, .bool false, .bool false]) ∧ RE base eb pb stb gb n E (pin.set k (seen + 1)) (rs.set k ⟨true, false, 2, (seen : Int)⟩) hs G w' ∧ Upd (ReS eb pb stb) w w' := by
  have hsw : IntKind.i64.wrap ((seen : Int) + 1) = ((seen + 1 : Nat) : Int) := by rw [show (seen : Int) + 1 = ((seen + 1 : Nat) : Int) by omega]; exact IntWalk.i64_in _ (by omega)
  have kp : k < pin.length := by rw [q.lp, ← q.lr]; exact (List.getElem?_eq_some_iff.1 hk).1
  obtain ⟨x, hx⟩ : ∃ x, pin[k]? = some x := ⟨_, List.getElem?_eq_getElem kp⟩
  obtain ⟨c0, c1, c2, c3⟩ := q.stc hk
  simp only at c0 c1 c2 c3
  have kl : k < rs.length := (List.getElem?_eq_some_iff.1 hk).1
  have hkn : (k : Int) < n := by have := q.lr; omega
  have hk0 : (0 : Int) ≤ k := by omega
  have e0 := q.obj.cell 0
  have e1 := q.obj.cell 1
  have e2 := q.obj.cell 2
  have f0 := q.sts.frozen (k * 4)
  have f2 := q.sts.frozen (k * 4 + 2)
  have f3 := q.sts.frozen (k * 4 + 3)
  go_enter Try.func25, Try.ntmps25
  go_upto_region 9 with fail
  clear c0 c1 c2 c3 e0 e1 e2 f0 f2 f3
  have z1 : ∀ t : Tw (P1S eb pb stb k n seen), t.w.cell? ⟨eb, 1, none⟩ = some (.slice (some ⟨pb, 0, none⟩) n n) := fun t => t.h.c1
  have z3 : ∀ t : Tw (P1S eb pb stb k n seen), t.w.cell? ⟨stb, k * 4 + 3, none⟩ = some (.int .i64 (seen : Int)) := fun t => t.h.c3
  have hS : P1S eb pb stb k n seen w.drew := ⟨q.drew.obj.cell 1, (q.drew.stc hk).2.2.2⟩
  have : Nonempty (Tw (P1S eb pb stb k n seen)) := ⟨⟨_, hS⟩⟩
  refine wp_region_plan (P1S eb pb stb k n seen) [(0, true), (1, true), (2, true), (3, true), (4, true), (5, true), (6, true), (7, true), (8, true), (9, true), (10, true), (11, true), (12, false), (13, true), (14, true), (15, false)] (by kernel_rfl) (by kernel_rfl) (by kernel_rfl) (by kernel_rfl) hS ?_
  have u1 : Upd (ReS eb pb stb) w w.drew := (Upd.refl _ _).drew
  replace q := q.drew
  generalize w.drew = W1 at *
  refine wpPl_qs 12 _ _ _ (by kernel_rfl) (by kernel_rfl) (by simp) ?_
  unfold clsS
  simp only [List.take_succ_cons, List.take_zero, List.drop_succ_cons, List.drop_zero, List.filterMap_cons, List.filterMap_nil, List.getElem?_toArray, List.getElem?_cons_zero, List.getElem?_cons_succ]
  repeat (first
    | go_big_quiet_skip
    | (go_big_quiet_want; go_big_quiet_op; go_big_quiet_on)
    | (refine id (?_ : wpQuiet _ _ _ _ (_ :: _) _); first | go_big_quiet_skip | (go_big_quiet_want; go_big_quiet_op; go_big_quiet_on)))
  refine wpQuiet_nil ?_
  have i0 := q.pinc hx
  have f0 := q.pins.frozen k
  have q2 : RE base eb pb stb gb n E (pin.set k (seen + 1)) rs hs G (W1.setCell ⟨pb, k, none⟩ (.int .i64 ((seen : Int) + 1))) := (q.pn k (seen + 1)).1
  have u2 : Upd (ReS eb pb stb) w (W1.setCell ⟨pb, k, none⟩ (.int .i64 ((seen : Int) + 1))) := u1.trans (q.pn k (seen + 1)).2
  refine wpPl_e _ (by rfl) (by kernel_rfl) (fun K hK => ?_)
  go_simp
  refine hK _ _ ⟨q2.obj.cell 1, (q2.stc hk).2.2.2⟩ ?_
  clear hK K i0 f0 q u1 hS
  generalize W1.setCell ⟨pb, k, none⟩ (.int .i64 ((seen : Int) + 1)) = W2 at *
  refine wpPl_qs 2 _ _ _ (by kernel_rfl) (by kernel_rfl) (by simp) ?_
  unfold clsS
  simp only [List.take_succ_cons, List.take_zero, List.drop_succ_cons, List.drop_zero, List.filterMap_cons, List.filterMap_nil, List.getElem?_toArray, List.getElem?_cons_zero, List.getElem?_cons_succ]
  repeat (first
    | go_big_quiet_skip
    | (go_big_quiet_want; go_big_quiet_op; go_big_quiet_on)
    | (refine id (?_ : wpQuiet _ _ _ _ (_ :: _) _); first | go_big_quiet_skip | (go_big_quiet_want; go_big_quiet_op; go_big_quiet_on)))
  refine wpQuiet_nil ?_
  have i0 := (q2.stc hk).2.2.1
  simp only at i0
  have f0 := q2.sts.frozen (k * 4 + 2)
  obtain ⟨q3, u3⟩ := q2.st hk 2 (by omega) (.int .i64 2) ⟨true, false, 2, (seen : Int)⟩ rfl
  replace u3 := u2.trans u3
  refine wpPl_e _ (by rfl) (by kernel_rfl) (fun K hK => ?_)
  go_simp
  refine hK _ _ ⟨q3.obj.cell 1, (q3.stc (List.getElem?_set_self kl)).2.2.2⟩ ?_
  clear hK K i0 f0 q2 u2 z1 z3 this
  unfold wpPl
  refine NoPanic.normal ?_
  generalize W2.setCell ⟨stb, k * 4 + 2, none⟩ (.int .i64 2) = W3 at *
  clear hx
  go_wp2_with fail
  exact bodyPost_ret (v := .tuple #[.bool false, .bool false, .bool false]) (by simp [results, Try.results25, go_sem]) rfl ⟨rfl, q3, u3⟩
end
end Go.Proofs.Ytfcldnojmmhekaa
