import Derived.Test.YtlhfbmoodehoiaaCells
import Derived.Test.YtlhfbmoodehoiaaPlan
import Derived.Deep.DeepCutAuto
import Derived.Test.YtlhfbmoodehoiaaMid
import Derived.Test.YtlhfbmoodehoiaaRowT2
namespace Go.Proofs.Ytlhfbmoodehoiaa
set_option linter.unusedVariables false
set_option linter.unusedSimpArgs false
open Go.RowKit
/- Steps of epochs, plain. -/
structure Es where
  worker : Int
  adv : Bool
  pos : Nat
  seen : Int
  done : Bool
  won : Bool
def Es.advs (s : Es) (n : Nat) (L : List Int) : Es × List Int :=
  if s.pos = 0 then (⟨s.worker, s.adv, 1, celAt L 0, s.done, s.won⟩, L)
  else if s.pos ≤ n then (⟨s.worker, s.adv, s.pos + 1, s.seen, decide (celAt L s.pos ≠ 0 ∧ celAt L s.pos ≠ IntKind.u64.wrap (s.seen + 1)), s.won⟩, L)
  else if celAt L 0 = s.seen then (⟨s.worker, s.adv, s.pos + 1, s.seen, true, true⟩, celSet L 0 (IntKind.u64.wrap (s.seen + 1)))
  else (⟨s.worker, s.adv, s.pos + 1, s.seen, true, false⟩, L)
def Es.pins (s : Es) (L : List Int) : Es × List Int :=
  if s.pos = 0 then (⟨s.worker, s.adv, 1, celAt L 0, s.done, s.won⟩, L)
  else if s.pos = 1 then (⟨s.worker, s.adv, 2, s.seen, s.done, s.won⟩, celSet L (1 + s.worker) (IntKind.u64.wrap (s.seen + 1)))
  else (⟨s.worker, s.adv, 0, s.seen, decide (celAt L 0 = s.seen), s.won⟩, L)
def Es.does (s : Es) (n : Nat) (L : List Int) : Es × List Int := if s.adv then s.advs n L else s.pins L
/- The walks of package epoch: the steps. -/
/-- a step in memory -/
def EsAt (w : World) (b : Nat) (s : Es) : Prop := Blk w b 65 #[.int .i64 s.worker, .bool s.adv, .int .i64 s.pos, .int .u64 s.seen, .bool s.done, .bool s.won]
/-- epochs in memory: their cells at g, h; the row of what was given up at gr -/
structure EpAt (w : World) (b g h gr n : Nat) (L : List Int) : Prop where
  obj : Blk w b 62 #[.pointer (some ⟨g, 0, none⟩), .slice (some ⟨gr, 0, none⟩) n n]
  cel : Cel w g h L
  len : L.length = n + 1
  n1 : 1 ≤ n
  n2 : n ≤ 64
theorem EpAt.upd {S : Nat → Prop} {w w' : World} {b g h gr n : Nat} {L : List Int} (k : EpAt w b g h gr n L) (hu : Upd S w w') (h1 : ¬ S b) (h2 : ¬ S g) (h3 : ¬ S h) : EpAt w' b g h gr n L :=
  ⟨k.obj.upd hu h1, k.cel.upd hu h2 h3, k.len, k.n1, k.n2⟩
theorem EpAt.bel {w w' : World} {b g h gr n : Nat} {L : List Int} (k : EpAt w b g h gr n L) (hb : Below w.heap.size w w') : EpAt w' b g h gr n L := ⟨k.obj.bel hb, k.cel.bel hb, k.len, k.n1, k.n2⟩
theorem EpAt.drew {w : World} {b g h gr n : Nat} {L : List Int} (k : EpAt w b g h gr n L) : EpAt w.drew b g h gr n L := ⟨k.obj, k.cel.drew, k.len, k.n1, k.n2⟩
theorem EpAt.ne {w : World} {b g h gr n : Nat} {L : List Int} (k : EpAt w b g h gr n L) : g ≠ b ∧ h ≠ b ∧ g ≠ h := by
  obtain ⟨_, _, _, ho⟩ := k.cel.obj
  exact ⟨ho.ne_ k.obj (by decide), k.cel.row.ne_ k.obj (by decide), k.cel.ne⟩
theorem EpAt.nes {w : World} {b g h gr n sb : Nat} {L : List Int} {s : Es} (k : EpAt w b g h gr n L) (ks : EsAt w sb s) : b ≠ sb ∧ g ≠ sb ∧ h ≠ sb := by
  obtain ⟨_, _, _, ho⟩ := k.cel.obj
  exact ⟨k.obj.ne_ ks (by decide), ho.ne_ ks (by decide), k.cel.row.ne_ ks (by decide)⟩
/-- the worlds in which epochs and step lie -/
structure ES (w0 : World) (b g h gr n sb : Nat) (s : Es) (L : List Int) (W : World) : Prop where
  ep : EpAt W b g h gr n L
  st : EsAt W sb s
  upd : Upd (fun x => x = h ∨ x = sb) w0 W
theorem ES.drew {w0 W : World} {b g h gr n sb : Nat} {s : Es} {L : List Int} (k : ES w0 b g h gr n sb s L W) : ES w0 b g h gr n sb s L W.drew := ⟨k.ep.drew, Blk.drew k.st, k.upd.drew⟩
theorem ES.fin {w0 W W' : World} {b g h gr n sb : Nat} {s s' : Es} {L : List Int} (k : ES w0 b g h gr n sb s L W) (st : EsAt W' sb s') (up : Upd (fun x => x = sb) W W') : ES w0 b g h gr n sb s' L W' := by
  obtain ⟨hbs, hgs, hhs⟩ := k.ep.nes k.st
  exact ⟨k.ep.upd up hbs hgs hhs, st, k.upd.trans (up.mono fun x _ e => .inr e)⟩
theorem ES.store {w0 W W' : World} {b g h gr n sb : Nat} {s : Es} {L L' : List Int} (k : ES w0 b g h gr n sb s L W) (hc : Cel W' g h L') (hL : L'.length = L.length) (up : Upd (fun x => x = h) W W') : ES w0 b g h gr n sb s L' W' := by
  obtain ⟨hbs, hgs, hhs⟩ := k.ep.nes k.st
  obtain ⟨hgb, hhb, hgh⟩ := k.ep.ne
  exact ⟨⟨k.ep.obj.upd up (Ne.symm hhb), hc, by rw [hL]; exact k.ep.len, k.ep.n1, k.ep.n2⟩, Blk.upd (S := (· = h)) k.st up (Ne.symm hhs), k.upd.trans (up.mono fun x _ e => .inl e)⟩
/-- a field of the step is stored -/
theorem ES.fld {w0 W : World} {b g h gr n sb : Nat} {s s' : Es} {L : List Int} (k : ES w0 b g h gr n sb s L W) (i : Nat) (u : Value) (hs : (#[.int .i64 s.worker, .bool s.adv, .int .i64 s.pos, .int .u64 s.seen, .bool s.done, .bool s.won]).setIfInBounds i u = #[.int .i64 s'.worker, .bool s'.adv, .int .i64 s'.pos, .int .u64 s'.seen, .bool s'.done, .bool s'.won]) : ES w0 b g h gr n sb s' L (W.setCell ⟨sb, i, none⟩ u) :=
  k.fin (by unfold EsAt; rw [← hs]; exact Blk.set_ k.st i u) (Upd.one W sb i u)
theorem celR {w : World} {g h : Nat} {l : List Int} (hc : Cel w g h l) (i : Int) : inr .u64 (celAt l i) := by
  unfold celAt
  split
  · rename_i h; exact u64_inr (hc.at_ (k := i.toNat) (by omega)).2.2
  · exact u64_inr (by omega)
def ESx (w0 : World) (b g h gr n sb : Nat) (s : Es) (W : World) : Prop := ∃ (L2 : List Int) (wn : Bool), ES w0 b g h gr n sb ⟨s.worker, s.adv, s.pos, s.seen, s.done, wn⟩ L2 W
set_option maxHeartbeats 4000000 in
theorem advance_any (b g h gr n sb : Nat) (s : Es) (L : List Int) (w : World) (ep : EpAt w b g h gr n L) (st : EsAt w sb s) (hp : s.pos ≤ 1000) :
    Calls Try.prog 16 #[.pointer (some ⟨b, 0, none⟩), .pointer (some ⟨sb, 0, none⟩)] w fun e w' => e = .returned (.tuple #[]) ∧ ES w b g h gr n sb (s.advs n L).1 (s.advs n L).2 w' := by
  have k : ES w b g h gr n sb s L w := ⟨ep, st, Upd.refl _ _⟩
  have n2 := ep.n2
  have hl : L.length ≤ 65536 := by rw [ep.len]; omega
  have p2 := Blk.cell st 2
  have f2 := Blk.frozen st 2
  have f3 := Blk.frozen st 3
  have p3 := Blk.cell st 3
  have b0 := ep.obj.cell 0
  have hwp : wrap64 ((s.pos : Int) + 1) = (s.pos : Int) + 1 := IntWalk.wrap64_in _ (by omega)
  obtain ⟨hbs, hgs, hhs⟩ := ep.nes st
  by_cases h0 : s.pos = 0
  · rw [show s.advs n L = (⟨s.worker, s.adv, 1, celAt L 0, s.done, s.won⟩, L) by unfold Es.advs; rw [if_pos h0]]
    have k1 := k.fld (s' := ⟨s.worker, s.adv, s.pos, celAt L 0, s.done, s.won⟩) 3 (.int .u64 (celAt L 0)) rfl
    have k2 := k1.fld (s' := ⟨s.worker, s.adv, 1, celAt L 0, s.done, s.won⟩) 2 (.int .i64 1) (by simp)
    have x2 := Blk.cell k1.st 2
    have g2 := Blk.frozen k1.st 2
    simp only [h0] at p2 x2
    clear hwp
    replace h0 := Lib.hid h0
    go_enter Try.func16, Try.ntmps16
    go_wp2_with fail
    refine (Load_any 0 g h L _ ep.cel hl).mono ?_
    rintro e w1 ⟨rfl, rfl⟩
    go_wp2_with fail
    go_end0
    exact ⟨rfl, k2⟩
  · have hn0 : ((s.pos : Int) == 0) = false := by simp; omega
    have z0 : ∀ t : Tw (ES w b g h gr n sb s L), t.w.cell? ⟨b, 0, none⟩ = some (.pointer (some ⟨g, 0, none⟩)) := fun t => t.h.ep.obj.cell 0
    have z1 : ∀ t : Tw (ES w b g h gr n sb s L), t.w.cell? ⟨b, 1, none⟩ = some (.slice (some ⟨gr, 0, none⟩) n n) := fun t => t.h.ep.obj.cell 1
    have y0 : ∀ t : Tw (ES w b g h gr n sb s L), t.w.cell? ⟨sb, 0, none⟩ = some (.int .i64 s.worker) := fun t => Blk.cell t.h.st 0
    have y2 : ∀ t : Tw (ES w b g h gr n sb s L), t.w.cell? ⟨sb, 2, none⟩ = some (.int .i64 s.pos) := fun t => Blk.cell t.h.st 2
    have y3 : ∀ t : Tw (ES w b g h gr n sb s L), t.w.cell? ⟨sb, 3, none⟩ = some (.int .u64 s.seen) := fun t => Blk.cell t.h.st 3
    have : Nonempty (Tw (ES w b g h gr n sb s L)) := ⟨⟨w, k⟩⟩
    have hLd : ∀ (t : Tw (ES w b g h gr n sb s L)) (i : Int), Calls Try.prog 8 #[.pointer (some ⟨g, 0, none⟩), .int .i64 i] t.w fun e w' => e = .returned (.int .u64 (celAt L i)) ∧ t.w = w' := fun t i => Load_any i g h L t.w t.h.ep.cel hl
    replace hLd := Lib.hid hLd
    by_cases hle : s.pos ≤ n
    · have hdl : decide ((s.pos : Int) ≤ (n : Int)) = true := by simp; omega
      have hdl2 : decide (s.pos ≤ n) = true := by simpa using hle
      obtain ⟨p, hpp⟩ : ∃ p, p = celAt L s.pos := ⟨_, rfl⟩
      obtain ⟨D, hD⟩ : ∃ D, D = decide (p ≠ 0 ∧ p ≠ IntKind.u64.wrap (s.seen + 1)) := ⟨_, rfl⟩
      rw [show s.advs n L = (⟨s.worker, s.adv, s.pos + 1, s.seen, D, s.won⟩, L) by unfold Es.advs; rw [if_neg h0, if_pos hle, hD, hpp]]
      replace hpp := Lib.hid hpp
      replace hD := Lib.hid hD
      go_enter Try.func16, Try.ntmps16
      go_wp2_with fail
      refine region_tw (ES w b g h gr n sb s L) (by kernel_rfl) (by kernel_rfl) (k).drew ?_
      unfold clsS
      repeat (first
        | go_big_quiet_skip
        | (go_big_quiet_want; go_big_quiet_op; first | go_big_quiet_on | go_big_quiet_call (
          (go_at_call 8; exact q_tw_same (hLd.out _ _)))))
      refine wpQuiet_nil ?_
      intro tq
      have k1 := tq.h
      generalize tq.w = W1 at *
      clear tq
      go_wp2_with fail
      refine region_tw (ES w b g h gr n sb s L) (by kernel_rfl) (by kernel_rfl) (k1).drew ?_
      unfold clsS
      repeat (first
        | go_big_quiet_skip
        | (go_big_quiet_want; go_big_quiet_op; first | go_big_quiet_on | go_big_quiet_call (
          (go_at_call 8; exact q_tw_same (hLd.out _ _)))))
      refine wpQuiet_nil ?_
      intro tq
      have k2 := tq.h
      rw [← hpp.out]
      generalize tq.w = W2 at *
      clear z0 z1 y0 y2 y3 this hLd tq k1
      have q2 := Blk.cell k2.st 2
      have q3 := Blk.cell k2.st 3
      have q4 := Blk.cell k2.st 4
      have r4 := Blk.frozen k2.st 4
      have k3 := k2.fld (s' := ⟨s.worker, s.adv, s.pos, s.seen, D, s.won⟩) 4 (.bool D) rfl
      have k4 := k3.fld (s' := ⟨s.worker, s.adv, s.pos + 1, s.seen, D, s.won⟩) 2 (.int .i64 ((s.pos : Int) + 1)) (by simp)
      have x2 := Blk.cell k3.st 2
      have g2 := Blk.frozen k3.st 2
      clear p2 p3 f2 f3 b0
      by_cases hz : p = 0
      · have hDf : D = false := by rw [hD.out]; simp [hz]
        subst hDf hz
        go_wp2_with fail
        go_end0
        exact ⟨rfl, k4⟩
      · by_cases hq : p = IntKind.u64.wrap (s.seen + 1)
        · have hDf : D = false := by rw [hD.out]; simp [hq]
          have hz1 : (p != 0) = true := by simpa using hz
          have hq1 : (p != IntKind.u64.wrap (s.seen + 1)) = false := by simpa using hq
          subst hDf
          clear hz hq
          go_wp2_with fail
          go_end0
          exact ⟨rfl, k4⟩
        · have hDf : D = true := by rw [hD.out]; simp [hq, hz]
          have hz1 : (p != 0) = true := by simpa using hz
          have hq1 : (p != IntKind.u64.wrap (s.seen + 1)) = true := by simpa using hq
          subst hDf
          clear hz hq
          go_wp2_with fail
          go_end0
          exact ⟨rfl, k4⟩
    · have hdl : decide ((s.pos : Int) ≤ (n : Int)) = false := by simp; omega
      have hdl2 : decide (s.pos ≤ n) = false := by simp; omega
      have hc0 : 0 ≤ (0 : Int) ∧ (0 : Int) < L.length := ⟨by omega, by have := ep.len; omega⟩
      obtain ⟨D, hD⟩ : ∃ D, D = decide (celAt L 0 = s.seen) := ⟨_, rfl⟩
      obtain ⟨L', hL'⟩ : ∃ L', L' = (if 0 ≤ (0 : Int) ∧ (0 : Int) < L.length ∧ celAt L 0 = s.seen then celSet L 0 (IntKind.u64.wrap (s.seen + 1)) else L) := ⟨_, rfl⟩
      have hLl : L'.length = L.length := by rw [hL']; split; exact celSet_length _ _ _; rfl
      rw [show s.advs n L = (⟨s.worker, s.adv, s.pos + 1, s.seen, true, D⟩, L') by
        unfold Es.advs
        rw [if_neg h0, if_neg hle]
        by_cases hq : celAt L 0 = s.seen
        · rw [if_pos hq, hD, hL', if_pos ⟨hc0.1, hc0.2, hq⟩, decide_eq_true hq]
        · rw [if_neg hq, hD, hL', if_neg (fun hh => hq hh.2.2), decide_eq_false hq]]
      have hDC : decide (0 ≤ (0 : Int) ∧ (0 : Int) < L.length ∧ celAt L 0 = s.seen) = D := by
        rw [hD]; congr 1; apply propext; exact ⟨fun h => h.2.2, fun h => ⟨hc0.1, hc0.2, h⟩⟩
      have hwi : inr .u64 (IntKind.u64.wrap (s.seen + 1)) := by rw [IntKind.wrap_u64]; exact u64_inr (by omega)
      replace hD := Lib.hid hD
      replace hL' := Lib.hid hL'
      replace hDC := Lib.hid hDC
      clear hc0
      go_enter Try.func16, Try.ntmps16
      go_wp2_with fail
      refine region_tw (ES w b g h gr n sb s L) (by kernel_rfl) (by kernel_rfl) (k).drew ?_
      unfold clsS
      repeat (first
        | go_big_quiet_skip
        | (go_big_quiet_want; go_big_quiet_op; first | go_big_quiet_on | go_big_quiet_call (
          (go_at_call 8; exact q_tw_same (hLd.out _ _)))))
      refine wpQuiet_nil ?_
      intro tq
      have k1 := tq.h
      generalize tq.w = W1 at *
      clear tq
      go_wp2_with fail
      clear z0 z1 y0 y2 y3 this hLd
      have z0 : ∀ t : Tw (ESx w b g h gr n sb s), t.w.cell? ⟨b, 0, none⟩ = some (.pointer (some ⟨g, 0, none⟩)) := fun t => by obtain ⟨L2, wn, hx⟩ := t.h; exact hx.ep.obj.cell 0
      have y3 : ∀ t : Tw (ESx w b g h gr n sb s), t.w.cell? ⟨sb, 3, none⟩ = some (.int .u64 s.seen) := fun t => by obtain ⟨L2, wn, hx⟩ := t.h; exact Blk.cell hx.st 3
      have : Nonempty (Tw (ESx w b g h gr n sb s)) := ⟨⟨_, _, s.won, k1⟩⟩
      refine wp_region_plan (ESx w b g h gr n sb s) [(0, true), (1, true), (2, true), (3, true), (4, true), (5, true), (6, true), (7, true), (8, true), (9, true), (10, true), (11, true), (12, true), (13, true), (14, false), (15, true), (16, true), (17, false)] (by kernel_rfl) (by kernel_rfl) (by kernel_rfl) (by kernel_rfl) ⟨_, s.won, k1.drew⟩ ?_
      refine wpPl_qs 14 _ _ _ (by kernel_rfl) (by kernel_rfl) (by simp) ?_
      unfold clsS
      simp only [List.take_succ_cons, List.take_zero, List.drop_succ_cons, List.drop_zero, List.filterMap_cons, List.filterMap_nil, List.getElem?_toArray, List.getElem?_cons_zero, List.getElem?_cons_succ]
      repeat (first
        | go_big_quiet_skip
        | (go_big_quiet_want; go_big_quiet_op; go_big_quiet_on)
        | (refine id (?_ : wpQuiet _ _ _ _ (_ :: _) _); first | go_big_quiet_skip | (go_big_quiet_want; go_big_quiet_op; go_big_quiet_on)))
      refine wpQuiet_nil ?_
      refine wpPl_e _ (by rfl) (by kernel_rfl) (fun K hK => ?_)
      go_simp
      refine (Cas_any 0 s.seen (IntKind.u64.wrap (s.seen + 1)) g h L _ k1.drew.ep.cel hl hwi).mono ?_
      rintro e w2 ⟨rfl, hc2, up2⟩
      rw [hDC.out]
      rw [← hL'.out] at hc2
      have k2 := k1.drew.store hc2 hLl up2
      refine hK _ _ ⟨_, s.won, k2⟩ ?_
      clear hK K
      refine wpPl_qs 2 _ _ _ (by kernel_rfl) (by kernel_rfl) (by simp) ?_
      unfold clsS
      simp only [List.take_succ_cons, List.take_zero, List.drop_succ_cons, List.drop_zero, List.filterMap_cons, List.filterMap_nil, List.getElem?_toArray, List.getElem?_cons_zero, List.getElem?_cons_succ]
      repeat (first
        | go_big_quiet_skip
        | (go_big_quiet_want; go_big_quiet_op; go_big_quiet_on)
        | (refine id (?_ : wpQuiet _ _ _ _ (_ :: _) _); first | go_big_quiet_skip | (go_big_quiet_want; go_big_quiet_op; go_big_quiet_on)))
      refine wpQuiet_nil ?_
      have q5 := Blk.cell k2.st 5
      have r5 := Blk.frozen k2.st 5
      have k3 := k2.fld (s' := ⟨s.worker, s.adv, s.pos, s.seen, s.done, D⟩) 5 (.bool D) rfl
      refine wpPl_e _ (by rfl) (by kernel_rfl) (fun K hK => ?_)
      go_simp
      refine hK _ _ ⟨_, D, k3⟩ ?_
      clear hK K
      unfold wpPl
      refine NoPanic.normal ?_
      clear z0 y3 this p2 p3 f2 f3 b0 q5 r5
      generalize w2.setCell ⟨sb, 5, none⟩ (.bool D) = W3 at *
      have q4 := Blk.cell k3.st 4
      have r4 := Blk.frozen k3.st 4
      have k4 := k3.fld (s' := ⟨s.worker, s.adv, s.pos, s.seen, true, D⟩) 4 (.bool true) rfl
      have q2 := Blk.cell k4.st 2
      have r2 := Blk.frozen k4.st 2
      have k5 := k4.fld (s' := ⟨s.worker, s.adv, s.pos + 1, s.seen, true, D⟩) 2 (.int .i64 ((s.pos : Int) + 1)) (by simp)
      go_wp2_with fail
      go_end0
      exact ⟨rfl, k5⟩
/- The walks of package epoch: a Pin's step; Do. -/
def ESy (w0 : World) (b g h gr n sb : Nat) (s : Es) (W : World) : Prop := ∃ (L2 : List Int) (dn : Bool), ES w0 b g h gr n sb ⟨s.worker, s.adv, s.pos, s.seen, dn, s.won⟩ L2 W
set_option maxHeartbeats 1000000 in
theorem pin_any (b g h gr n sb : Nat) (s : Es) (L : List Int) (w : World) (ep : EpAt w b g h gr n L) (st : EsAt w sb s) (hp : s.pos ≤ 2) (hw : 0 ≤ s.worker ∧ s.worker < n) :
    Calls Try.prog 17 #[.pointer (some ⟨b, 0, none⟩), .pointer (some ⟨sb, 0, none⟩)] w fun e w' => e = .returned (.tuple #[]) ∧ ES w b g h gr n sb (s.pins L).1 (s.pins L).2 w' := by
  have k : ES w b g h gr n sb s L w := ⟨ep, st, Upd.refl _ _⟩
  have n2 := ep.n2
  have hl : L.length ≤ 65536 := by rw [ep.len]; omega
  have p2 := Blk.cell st 2
  have f3 := Blk.frozen st 3
  have p3 := Blk.cell st 3
  have b0 := ep.obj.cell 0
  obtain ⟨hbs, hgs, hhs⟩ := ep.nes st
  have h3 : s.pos = 0 ∨ s.pos = 1 ∨ s.pos = 2 := by omega
  rcases h3 with h0 | h0 | h0
  · rw [show s.pins L = (⟨s.worker, s.adv, 1, celAt L 0, s.done, s.won⟩, L) by unfold Es.pins; rw [if_pos h0]]
    have k1 := k.fld (s' := ⟨s.worker, s.adv, s.pos, celAt L 0, s.done, s.won⟩) 3 (.int .u64 (celAt L 0)) rfl
    have k2 := k1.fld (s' := ⟨s.worker, s.adv, 1, celAt L 0, s.done, s.won⟩) 2 (.int .i64 1) (by simp)
    have x2 := Blk.cell k1.st 2
    have g2 := Blk.frozen k1.st 2
    simp only [h0] at p2 x2
    replace h0 := Lib.hid h0
    go_enter Try.func17, Try.ntmps17
    go_wp2_with fail
    refine (Load_any 0 g h L _ ep.cel hl).mono ?_
    rintro e w1 ⟨rfl, rfl⟩
    go_wp2_with fail
    go_end0
    exact ⟨rfl, k2⟩
  · rw [show s.pins L = (⟨s.worker, s.adv, 2, s.seen, s.done, s.won⟩, celSet L (1 + s.worker) (IntKind.u64.wrap (s.seen + 1))) by unfold Es.pins; rw [if_neg (by omega), if_pos h0]]
    have hwi : inr .u64 (IntKind.u64.wrap (s.seen + 1)) := by rw [IntKind.wrap_u64]; exact u64_inr (by omega)
    have hww : wrap64 (1 + s.worker) = 1 + s.worker := IntWalk.wrap64_in _ (by omega)
    have z0 : ∀ t : Tw (ESy w b g h gr n sb s), t.w.cell? ⟨b, 0, none⟩ = some (.pointer (some ⟨g, 0, none⟩)) := fun t => by obtain ⟨L2, wn, hx⟩ := t.h; exact hx.ep.obj.cell 0
    have y0 : ∀ t : Tw (ESy w b g h gr n sb s), t.w.cell? ⟨sb, 0, none⟩ = some (.int .i64 s.worker) := fun t => by obtain ⟨L2, wn, hx⟩ := t.h; exact Blk.cell hx.st 0
    have y3 : ∀ t : Tw (ESy w b g h gr n sb s), t.w.cell? ⟨sb, 3, none⟩ = some (.int .u64 s.seen) := fun t => by obtain ⟨L2, wn, hx⟩ := t.h; exact Blk.cell hx.st 3
    have : Nonempty (Tw (ESy w b g h gr n sb s)) := ⟨⟨_, _, s.done, k⟩⟩
    rw [h0] at p2
    have h1 := h0
    replace h0 := Lib.hid h0
    clear h1
    go_enter Try.func17, Try.ntmps17
    go_wp2_with fail
    refine wp_region_plan (ESy w b g h gr n sb s) [(0, true), (1, true), (2, true), (3, true), (4, true), (5, true), (6, true), (7, true), (8, true), (9, true), (10, true), (11, true), (12, true), (13, true), (14, false)] (by kernel_rfl) (by kernel_rfl) (by kernel_rfl) (by kernel_rfl) ⟨_, s.done, k.drew⟩ ?_
    refine wpPl_qs 14 _ _ _ (by kernel_rfl) (by kernel_rfl) (by simp) ?_
    unfold clsS
    simp only [List.take_succ_cons, List.take_zero, List.drop_succ_cons, List.drop_zero, List.filterMap_cons, List.filterMap_nil, List.getElem?_toArray, List.getElem?_cons_zero, List.getElem?_cons_succ]
    repeat (first
      | go_big_quiet_skip
      | (go_big_quiet_want; go_big_quiet_op; go_big_quiet_on)
      | (refine id (?_ : wpQuiet _ _ _ _ (_ :: _) _); first | go_big_quiet_skip | (go_big_quiet_want; go_big_quiet_op; go_big_quiet_on)))
    refine wpQuiet_nil ?_
    refine wpPl_e _ (by rfl) (by kernel_rfl) (fun K hK => ?_)
    go_simp
    refine (Store_any (1 + s.worker) (IntKind.u64.wrap (s.seen + 1)) g h L _ k.drew.ep.cel hl hwi).mono ?_
    rintro e w2 ⟨rfl, hc2, up2⟩
    have k2 := k.drew.store hc2 (celSet_length _ _ _) up2
    refine hK _ _ ⟨_, s.done, k2⟩ ?_
    clear hK K
    unfold wpPl
    refine NoPanic.normal ?_
    clear z0 y0 y3 this p2 p3 f3 b0
    have q2 := Blk.cell k2.st 2
    have r2 := Blk.frozen k2.st 2
    rw [h0.out] at q2
    have k3 := k2.fld (s' := ⟨s.worker, s.adv, 2, s.seen, s.done, s.won⟩) 2 (.int .i64 2) (by simp)
    go_wp2_with fail
    go_end0
    exact ⟨rfl, k3⟩
  · obtain ⟨D, hD⟩ : ∃ D, D = decide (celAt L 0 = s.seen) := ⟨_, rfl⟩
    have hDb : (celAt L 0 == s.seen) = D := by rw [hD]; rfl
    rw [show s.pins L = (⟨s.worker, s.adv, 0, s.seen, D, s.won⟩, L) by unfold Es.pins; rw [if_neg (by omega), if_neg (by omega), hD]]
    replace hD := Lib.hid hD
    have z0 : ∀ t : Tw (ESy w b g h gr n sb s), t.w.cell? ⟨b, 0, none⟩ = some (.pointer (some ⟨g, 0, none⟩)) := fun t => by obtain ⟨L2, wn, hx⟩ := t.h; exact hx.ep.obj.cell 0
    have y0 : ∀ t : Tw (ESy w b g h gr n sb s), t.w.cell? ⟨sb, 0, none⟩ = some (.int .i64 s.worker) := fun t => by obtain ⟨L2, wn, hx⟩ := t.h; exact Blk.cell hx.st 0
    have y3 : ∀ t : Tw (ESy w b g h gr n sb s), t.w.cell? ⟨sb, 3, none⟩ = some (.int .u64 s.seen) := fun t => by obtain ⟨L2, wn, hx⟩ := t.h; exact Blk.cell hx.st 3
    have : Nonempty (Tw (ESy w b g h gr n sb s)) := ⟨⟨_, _, s.done, k⟩⟩
    rw [h0] at p2
    replace h0 := Lib.hid h0
    obtain ⟨c0, hc0⟩ : ∃ c0, c0 = celAt L 0 := ⟨_, rfl⟩
    rw [← hc0] at hDb
    replace hc0 := Lib.hid hc0
    go_enter Try.func17, Try.ntmps17
    go_wp2_with fail
    refine wp_region_plan (ESy w b g h gr n sb s) [(0, true), (1, true), (2, true), (3, true), (4, true), (6, true), (7, true), (8, true), (9, true), (5, false), (10, true), (11, true), (12, true), (13, false)] (by kernel_rfl) (by kernel_rfl) (by kernel_rfl) (by kernel_rfl) ⟨_, s.done, k.drew⟩ ?_
    refine wpPl_qs 9 _ _ _ (by kernel_rfl) (by kernel_rfl) (by simp) ?_
    unfold clsS
    simp only [List.take_succ_cons, List.take_zero, List.drop_succ_cons, List.drop_zero, List.filterMap_cons, List.filterMap_nil, List.getElem?_toArray, List.getElem?_cons_zero, List.getElem?_cons_succ]
    repeat (first
      | go_big_quiet_skip
      | (go_big_quiet_want; go_big_quiet_op; go_big_quiet_on)
      | (refine id (?_ : wpQuiet _ _ _ _ (_ :: _) _); first | go_big_quiet_skip | (go_big_quiet_want; go_big_quiet_op; go_big_quiet_on)))
    refine wpQuiet_nil ?_
    refine wpPl_e _ (by rfl) (by kernel_rfl) (fun K hK => ?_)
    go_simp
    refine (Load_any 0 g h L _ k.drew.ep.cel hl).mono ?_
    rw [← hc0.out]
    rintro e w2 ⟨rfl, rfl⟩
    refine hK _ _ ⟨_, s.done, k.drew⟩ ?_
    clear hK K
    refine wpPl_qs 3 _ _ _ (by kernel_rfl) (by kernel_rfl) (by simp) ?_
    unfold clsS
    simp only [List.take_succ_cons, List.take_zero, List.drop_succ_cons, List.drop_zero, List.filterMap_cons, List.filterMap_nil, List.getElem?_toArray, List.getElem?_cons_zero, List.getElem?_cons_succ]
    repeat (first
      | go_big_quiet_skip
      | (go_big_quiet_want; go_big_quiet_op; go_big_quiet_on)
      | (refine id (?_ : wpQuiet _ _ _ _ (_ :: _) _); first | go_big_quiet_skip | (go_big_quiet_want; go_big_quiet_op; go_big_quiet_on)))
    refine wpQuiet_nil ?_
    have q4 := Blk.cell k.drew.st 4
    have r4 := Blk.frozen k.drew.st 4
    have k3 := (k.fld (s' := ⟨s.worker, s.adv, s.pos, s.seen, D, s.won⟩) 4 (.bool D) rfl).drew
    refine wpPl_e _ (by rfl) (by kernel_rfl) (fun K hK => ?_)
    go_simp
    refine hK _ _ ⟨_, D, k3⟩ ?_
    clear hK K
    unfold wpPl
    refine NoPanic.normal ?_
    clear z0 y0 y3 this p2 p3 f3 b0 q4 r4
    generalize (w.setCell ⟨sb, 4, none⟩ (.bool D)).drew = W3 at *
    have q2 := Blk.cell k3.st 2
    have r2 := Blk.frozen k3.st 2
    have st4 : Blk ((W3.setCell ⟨sb, 2, none⟩ (.int .i64 (-1))).setCell ⟨sb, 2, none⟩ (.int .i64 0)) sb 65 _ := (Blk.set_ k3.st 2 (.int .i64 (-1))).set_ 2 (.int .i64 0)
    have x2 : (W3.setCell ⟨sb, 2, none⟩ (.int .i64 (-1))).cell? ⟨sb, 2, none⟩ = some (.int .i64 (-1)) := (Blk.set_ k3.st 2 (.int .i64 (-1))).cell 2
    have g2 := (Blk.set_ k3.st 2 (.int .i64 (-1))).frozen 2
    have up4 : Upd (fun x => x = sb) W3 ((W3.setCell ⟨sb, 2, none⟩ (.int .i64 (-1))).setCell ⟨sb, 2, none⟩ (.int .i64 0)) := (Upd.one W3 sb 2 _).setCell (p := ⟨sb, 2, none⟩) (fun _ => rfl) _
    have k4 := k3.fin (s' := ⟨s.worker, s.adv, 0, s.seen, D, s.won⟩) (by unfold EsAt; simpa using st4) up4
    go_wp2_with fail
    go_end0
    exact ⟨rfl, k4⟩
/- The walks of package epoch: Do, Advance, Won, Now. -/
theorem EpDo_done (b sb : Nat) (s : Es) (w : World) (st : EsAt w sb s) (hd : s.done = true) :
    Calls Try.prog 7 #[.pointer (some ⟨b, 0, none⟩), .pointer (some ⟨sb, 0, none⟩)] w fun e w' => e = .returned (.bool true) ∧ w = w' := by
  have e4 := Blk.cell st 4
  rw [hd] at e4
  clear hd st
  go_enter Try.func7, Try.ntmps7
  go_wp2
  go_ret
  exact ⟨rfl, rfl⟩
set_option maxHeartbeats 1000000 in
theorem EpDo_any (b g h gr n sb : Nat) (s : Es) (L : List Int) (w : World) (ep : EpAt w b g h gr n L) (st : EsAt w sb s) (hp : s.pos ≤ 1000) (hp2 : s.adv = false → s.pos ≤ 2 ∧ 0 ≤ s.worker ∧ s.worker < n) (hd : s.done = false) :
    Calls Try.prog 7 #[.pointer (some ⟨b, 0, none⟩), .pointer (some ⟨sb, 0, none⟩)] w fun e w' => e = .returned (.bool (s.does n L).1.done) ∧ ES w b g h gr n sb (s.does n L).1 (s.does n L).2 w' := by
  have e4 := Blk.cell st 4
  have e1 := Blk.cell st 1
  rw [hd] at e4
  replace hd := Lib.hid hd
  cases ha : s.adv with
  | true =>
    rw [ha] at e1
    rw [show s.does n L = s.advs n L by unfold Es.does; rw [if_pos ha]]
    have hA := advance_any b g h gr n sb s L w ep st hp
    obtain ⟨s1, L1, hr⟩ : ∃ s1 L1, s.advs n L = (s1, L1) := ⟨_, _, rfl⟩
    rw [hr] at hA ⊢
    simp only at hA ⊢
    clear hr hp2
    replace hA := Lib.hid hA
    replace ha := Lib.hid ha
    go_enter Try.func7, Try.ntmps7
    go_wp2_with fail
    refine hA.out.mono ?_
    rintro e w1 ⟨rfl, k1⟩
    have x4 := Blk.cell k1.st 4
    clear e4 e1 hA
    go_wp2_with fail
    go_ret
    exact ⟨rfl, k1⟩
  | false =>
    rw [ha] at e1
    rw [show s.does n L = s.pins L by unfold Es.does; rw [if_neg (by simp [ha])]]
    obtain ⟨q1, q2⟩ := hp2 ha
    have hA := pin_any b g h gr n sb s L w ep st q1 q2
    obtain ⟨s1, L1, hr⟩ : ∃ s1 L1, s.pins L = (s1, L1) := ⟨_, _, rfl⟩
    rw [hr] at hA ⊢
    simp only at hA ⊢
    clear hr hp2 q1 q2
    replace hA := Lib.hid hA
    replace ha := Lib.hid ha
    go_enter Try.func7, Try.ntmps7
    go_wp2_with fail
    refine hA.out.mono ?_
    rintro e w1 ⟨rfl, k1⟩
    have x4 := Blk.cell k1.st 4
    clear e4 e1 hA
    go_wp2_with fail
    go_ret
    exact ⟨rfl, k1⟩
theorem EpAdvance_any (b : Nat) (w : World) :
    Calls Try.prog 12 #[.pointer (some ⟨b, 0, none⟩)] w fun e w' => ∃ nb, e = .returned (.pointer (some ⟨nb, 0, none⟩)) ∧ w.heap.size ≤ nb ∧ EsAt w' nb ⟨0, true, 0, 0, false, false⟩ ∧ Below w.heap.size w w' := by
  go_enter Try.func12, Try.ntmps12
  go_wp2_with fail
  go_ret
  exact ⟨_, rfl, Nat.le_refl _, Blk.new _ _ _, bel_alloc _ _⟩
/- The walks of package epoch: known, Now, Pin. -/
theorem known_yes (x : Int) (b g h gr n : Nat) (L : List Int) (w : World) (ep : EpAt w b g h gr n L) (hx : 0 ≤ x ∧ x < n) :
    Calls Try.prog 15 #[.pointer (some ⟨b, 0, none⟩), .int .i64 x] w fun e w' => e = .returned (.bool true) ∧ w = w' := by
  have e1 := ep.obj.cell 1
  have h1 : decide (0 ≤ x) = true := by simpa using hx.1
  have h2 : decide (x < (n : Int)) = true := by simpa using hx.2
  obtain ⟨hx1, hx2⟩ := hx
  clear ep
  go_enter Try.func15, Try.ntmps15
  go_wp2
  go_ret
  exact ⟨rfl, rfl⟩
theorem EpPin_any (x : Int) (b g h gr n : Nat) (L : List Int) (w : World) (ep : EpAt w b g h gr n L) (hx : 0 ≤ x ∧ x < n) :
    Calls Try.prog 6 #[.pointer (some ⟨b, 0, none⟩), .int .i64 x] w fun e w' => ∃ nb, e = .returned (.pointer (some ⟨nb, 0, none⟩)) ∧ w.heap.size ≤ nb ∧ EsAt w' nb ⟨x, false, 0, 0, false, false⟩ ∧ Below w.heap.size w w' := by
  go_enter Try.func6, Try.ntmps6
  go_wp2_with fail
  refine (known_yes x b g h gr n L w ep hx).mono ?_
  rintro e w1 ⟨rfl, rfl⟩
  go_wp2_with fail
  go_ret
  exact ⟨_, rfl, Nat.le_refl _, Blk.new _ _ _, bel_alloc _ _⟩
/- The walks of package epoch: Pinned, Unpin. -/
theorem EpUnpin_any (x : Int) (b g h gr n : Nat) (L : List Int) (w : World) (ep : EpAt w b g h gr n L) (hx : 0 ≤ x ∧ x < n) :
    Calls Try.prog 11 #[.pointer (some ⟨b, 0, none⟩), .int .i64 x] w fun e w' => e = .returned (.tuple #[]) ∧ EpAt w' b g h gr n (celSet L (1 + x) 0) ∧ Upd (fun y => y = h) w w' := by
  have e0 := ep.obj.cell 0
  have n2 := ep.n2
  have hl : L.length ≤ 65536 := by rw [ep.len]; omega
  have hc := ep.cel
  have hw2 : wrap64 (1 + x) = 1 + x := IntWalk.wrap64_in _ (by omega)
  have hz : inr .u64 (0 : Int) := u64_inr (by omega)
  obtain ⟨hgb, hhb, hgh⟩ := ep.ne
  go_enter Try.func11, Try.ntmps11
  go_wp2_with fail
  refine (known_yes x b g h gr n L w ep hx).mono ?_
  rintro e w1 ⟨rfl, rfl⟩
  go_wp2_with fail
  refine (Store_any (1 + x) 0 g h L _ hc hl hz).mono ?_
  rintro e w1 ⟨rfl, hc1, up1⟩
  go_wp2_with fail
  go_end0
  exact ⟨rfl, ⟨ep.obj.upd up1 (Ne.symm hhb), hc1, by rw [celSet_length]; exact ep.len, ep.n1, ep.n2⟩, up1⟩
/- A region that draws its order, by a plan whose last operation, which waits for all the others, may leave the class. -/
section
variable {P : Program} {ops : Array Oper} {Q : Exit → Act → World → Prop} {S : World → Prop} {n : Nat}
def wpAnyL (P : Program) (ops : Array Oper) (Q : Exit → Act → World → Prop) (S : World → Prop) (n : Nat) : Nat → Array Bool → Act → World → Prop
  | 0, listed, a, w => Region.ready .any ops listed = [] ∧ Q .normal a w
  | fuel + 1, listed, a, w =>
    (Region.ready .any ops listed = [] → Q .normal a w) ∧
    ∀ i ∈ Region.ready .any ops listed, wpOp P ops Q i (fun a' w' => (i = n ∨ S w') ∧ wpAnyL P ops Q S n fuel (listed.setIfInBounds i true) a' w') a w
theorem wpAny_of_L : ∀ (fuel : Nat) (listed : Array Bool) (a : Act) (w : World), wpAnyL P ops Q S n fuel listed a w → wpAny P .any ops Q fuel listed a w
  | 0, _, _, _, h => h
  | fuel + 1, _, _, _, h => ⟨h.1, fun i hi => wpOp_mono (fun a' w' h' => wpAny_of_L fuel _ a' w' h'.2) (h.2 i hi)⟩
theorem last_last {listed : Array Bool} (hcl : Closed ops listed) (hs : Region.sinkB .any ops n = true) {i : Nat} (hin : i < n) (hi : i ∈ Region.ready .any ops listed) : n ∉ Region.ready .any ops listed := by
  intro hn
  obtain ⟨hu, on, hon, hall⟩ := mem_ready.1 hn
  have h1 := hcl.set hon ⟨hu, hall⟩
  have hsz : n < listed.size := by rw [hcl.size]; exact (Array.getElem?_eq_some_iff.1 hon).1
  have h2 := h1.down hs (by simp [hsz]) _ i rfl hin
  rw [getD_set_ne false (by omega), getD_both_ (mem_ready.1 hi).1] at h2
  cases h2
theorem wpAnyL_first {i : Nat} {oi : Oper} {v : Value} (hi : ops[i]? = some oi) (hin : i < n) (hs : Region.sinkB .any ops n = true) (hsel : ∀ (j : Nat) (o : Oper) cs b, ops[j]? = some o → o.op ≠ .select cs b)
    (hQ : ∀ c a w, Q (.panic c) (a.put oi.dst v) w → Q (.panic c) a w) :
    ∀ (fuel : Nat) (listed : Array Bool) (a : Act) (w : World), Closed ops listed →
      (∀ j oj, ops[j]? = some oj → j ≠ i → listed.getD j true = false → (∀ e ∈ oj.after, Region.binds .any e = true → e.on ≠ i) → oi.apart ops oj = true) →
      i ∈ Region.ready .any ops listed → YieldsIf P ops S oi v a → S w →
      wpAnyL P ops Q S n fuel (listed.setIfInBounds i true) (a.put oi.dst v) w → wpAnyL P ops Q S n (fuel + 1) listed a w := by
  intro fuel
  induction fuel with
  | zero =>
    intro listed a w _ _ hr hy hS H
    refine ⟨fun h => (by rw [h] at hr; cases hr), fun j hj => ?_⟩
    by_cases hji : j = i
    · subst hji; exact hy.wpOp hi hS ⟨.inr hS, H⟩
    · have := ready_mono hj hji
      rw [H.1] at this
      cases this
  | succ fuel ih =>
    intro listed a w hcl hfree hr hy hS H
    refine ⟨fun h => (by rw [h] at hr; cases hr), fun j hj => ?_⟩
    by_cases hji : j = i
    · subst hji; exact hy.wpOp hi hS ⟨.inr hS, H⟩
    · have hjn : j ≠ n := fun e => last_last hcl hs hin hr (e ▸ hj)
      have h1 := H.2 j (ready_mono hj hji)
      obtain ⟨hjun, oj, hoj, hall⟩ := mem_ready.1 hj
      have hnot : ∀ e ∈ oj.after, Region.binds .any e = true → e.on ≠ i := fun e he hb heq => by
        have h1 := hall e he hb
        have h0 := (mem_ready.1 hr).1
        rw [heq] at h1
        rcases Nat.lt_or_ge i listed.size with h' | h'
        · simp [h'] at h0 h1; rw [h0] at h1; cases h1
        · simp [Array.getElem?_eq_none h'] at h1
      have h2 := wpOp_putIf hoj (hfree j oj hoj hji hjun hnot) (fun cs b => hsel i oi cs b hi) (fun cs b => hsel j oj cs b hoj) hQ hy h1
      have hfree' : ∀ k ok, ops[k]? = some ok → k ≠ i → (listed.setIfInBounds j true).getD k true = false →
          (∀ e ∈ ok.after, Region.binds .any e = true → e.on ≠ i) → oi.apart ops ok = true := fun k ok hk hki hun hno => by
        refine hfree k ok hk hki ?_ hno
        by_cases hjk : j = k
        · subst hjk; exact hjun
        · rw [getD_set_ne true hjk] at hun; exact hun
      refine wpOp_mono (fun a' w' h3 => ?_) h2
      have hS' : S w' := h3.2.1.resolve_left hjn
      refine ⟨.inr hS', ih (listed.setIfInBounds j true) a' w' (hcl.set hoj ⟨hjun, hall⟩) hfree' (ready_mono hr (Ne.symm hji)) h3.1 hS' ?_⟩
      rw [Array.setIfInBounds_comm _ _ hji]
      exact h3.2.2
/-- the last operation, and what follows -/
def lastQ (P : Program) (ops : Array Oper) (Q : Exit → Act → World → Prop) (n : Nat) : Exit → Act → World → Prop
  | .normal, a, w => ∀ o, ops[n]? = some o → ∀ K : Act → World → Prop, (∀ a' w', Q .normal a' w' → K a' w') → Region.wanted o (yielded ops a.tmps) = true ∧ o.wp P a w K (NoPanic Q)
  | e, a, w => Q e a w
theorem lastQ_do {a : Act} {w : World} (o : Oper) (ho : ops[n]? = some o) (hw : Region.wanted o (yielded ops a.tmps) = true)
    (h : ∀ K : Act → World → Prop, (∀ a' w', Q .normal a' w' → K a' w') → o.wp P a w K (NoPanic Q)) : lastQ P ops Q n .normal a w :=
  fun o' ho' K hK => by
    obtain rfl : o = o' := Option.some.inj (ho.symm.trans ho')
    exact ⟨hw, h K hK⟩
theorem letsOut_last (h : LetsOut (NoPanic (lastQ P ops Q n))) : LetsOut (NoPanic Q) := h
theorem wp_other {o : Oper} {a : Act} {w : World} {K : Act → World → Prop} (h : o.wp P a w K (NoPanic (lastQ P ops Q n))) : o.wp P a w K (NoPanic Q) := by
  unfold Oper.wp at *
  generalize (execOp a.eval o).run P w = r at *
  cases r with
  | ok m w' =>
    cases m <;> simp only [Oper.upon] at h ⊢
    all_goals
      first
        | exact h
        | exact Calls.mono h (fun e w'' he => by cases e <;> first | exact he | exact letsOut_last he)
  | halt x w' => cases x <;> simp only [Oper.upon] at h ⊢ <;> exact h
theorem wpAnyL_of_plan (hs : Region.noSelect ops = true) (hk : Region.sinkB .any ops n = true) : ∀ (l : List (Nat × Bool)) (listed : Array Bool) (a : Act) (w : World), Closed ops listed → (∀ x ∈ l, x.1 < n) → S w → planB ops (l ++ [(n, false)]) listed = true →
    wpPl P ops (NoPanic (lastQ P ops Q n)) S l a w → ∀ fuel, l.length + 1 ≤ fuel → wpAnyL P ops (NoPanic Q) S n fuel listed a w
  | l, listed, a, w, hcl, hl, hS, hB, h, 0, hf => by simp at hf
  | [], listed, a, w, hcl, hl, hS, hB, h, fuel + 1, hf => by
    simp only [List.nil_append, planB, Bool.and_eq_true, decide_eq_true_eq] at hB
    refine ⟨fun h0 => (by rw [hB.1] at h0; cases h0), fun i hi => ?_⟩
    obtain rfl : i = n := by rw [hB.1] at hi; simpa using hi
    obtain ⟨_, o, ho, _⟩ := mem_ready.1 hi
    have h' : lastQ P ops Q i .normal a w := h
    obtain ⟨hw, hx⟩ := h' o ho (fun a' w' => (i = i ∨ S w') ∧ wpAnyL P ops (NoPanic Q) S i fuel (listed.setIfInBounds i true) a' w') (fun a' w' hq => ⟨.inl rfl, by
      have hr : Region.ready .any ops (listed.setIfInBounds i true) = [] := by simpa [planB] using hB.2
      cases fuel with
      | zero => exact ⟨hr, hq⟩
      | succ f => exact ⟨fun _ => hq, by rw [hr]; simp⟩⟩)
    unfold wpOp
    rw [ho]
    show (if Region.wanted o (yielded ops a.tmps) = true then _ else _)
    rw [if_pos hw]
    exact .inl hx
  | (i, true) :: r, listed, a, w, hcl, hl, hS, hB, h, fuel + 1, hf => by
    simp only [List.cons_append, planB, Bool.and_eq_true] at hB
    obtain ⟨⟨⟨h1, h2⟩, h3⟩, h4⟩ := hB
    cases ho : ops[i]? with
    | none => rw [ho] at h1; cases h1
    | some o =>
      rw [ho] at h1
      obtain ⟨v, hy, hr⟩ := h o ho
      have hri : i ∈ Region.ready .any ops listed := by simpa using h2
      obtain ⟨hu, o2, ho2, hall⟩ := mem_ready.1 hri
      refine wpAnyL_first ho (hl _ (List.mem_cons_self ..)) hk (Region.noSelect_spec hs) (fun c a w hq => absurd hq (fun h => h)) fuel listed a w hcl (Region.free_spec ho h3) hri (v := v) ?_ hS
        (wpAnyL_of_plan hs hk r _ _ w (hcl.set ho2 ⟨hu, hall⟩) (fun x hx => hl x (List.mem_cons_of_mem _ hx)) hS h4 hr fuel (by simpa using hf))
      rcases hy with ⟨hw, hy⟩ | hy
      · refine .inl ⟨hw, fun w' hS' => ?_⟩
        have h5 := hy w' hS'
        unfold Oper.quietAt at h5
        cases hr : (execOp a.eval o).run P w' with
        | ok nx w2 =>
          obtain ⟨u, rfl⟩ := isV_spec h1 hr
          rw [hr] at h5
          simp only [Oper.quietUpon] at h5
          rw [h5.1, h5.2]
        | halt x w2 => rw [hr] at h5; simp only [Oper.quietUpon] at h5
      · exact .inr hy
  | (i, false) :: r, listed, a, w, hcl, hl, hS, hB, h, fuel + 1, hf => by
    simp only [List.cons_append, planB, Bool.and_eq_true, decide_eq_true_eq] at hB
    refine ⟨fun h0 => (by rw [hB.1] at h0; cases h0), fun j hj => ?_⟩
    obtain rfl : j = i := by rw [hB.1] at hj; simpa using hj
    obtain ⟨hu, o, ho, hall⟩ := mem_ready.1 hj
    obtain ⟨hw, hx⟩ := h o ho (fun a' w' => (j = n ∨ S w') ∧ wpAnyL P ops (NoPanic Q) S n fuel (listed.setIfInBounds j true) a' w')
      (fun a' w' hS' hr => ⟨.inr hS', wpAnyL_of_plan hs hk r _ a' w' (hcl.set ho ⟨hu, hall⟩) (fun x hx => hl x (List.mem_cons_of_mem _ hx)) hS' hB.2 hr fuel (by simpa using hf)⟩)
    unfold wpOp
    simp only [ho]
    rw [if_pos hw]
    exact .inl (wp_other hx)
theorem wp_region_planL {id : Nat} {a : Act} {w : World} {l : List Oper} (S : World → Prop) (pl : List (Nat × Bool)) (n : Nat) (hm : P.follows .mixedOrders = true) (hs : Region.noSelect l.toArray = true) (hk : Region.sinkB .any l.toArray n = true) (hn : (pl.all fun x => decide (x.1 < n)) = true)
    (hB : planB l.toArray (pl ++ [(n, false)]) (Array.replicate l.length false) = true) (hl : pl.length + 1 = l.length) (hS : S w.drew)
    (h : wpPl P l.toArray (NoPanic (lastQ P l.toArray Q n)) S pl a w.drew) : (Code.region id l.toArray true).wp P Q a w := by
  refine wp_region_noPanic (wp_region_any hm (wpAny_of_L (S := S) (n := n) _ _ _ _ ?_))
  have := wpAnyL_of_plan (P := P) (Q := Q) (S := S) hs hk pl (Array.replicate l.length false) a w.drew ⟨by simp, fun j oj _ hl => by rw [getD_replicate_false] at hl; cases hl⟩ (fun x hx => by simpa using List.all_eq_true.1 hn x hx) hS hB h l.length (by omega)
  simpa using this
end
/- Epochs: what was given up, in memory; New. -/
/-- a thing that was given up -/
structure Th where
  what : Int
  when : Int
def Th.cs (x : Th) : List Value := [.int .u64 x.what, .int .u64 x.when]
theorem Th.cs_len : ∀ x : Th, x.cs.length = 2 := fun _ => rfl
theorem Th.cs_one : ∀ x : Th, ∀ u ∈ x.cs, u.oneCell' = true := by
  intro x u hu
  simp only [Th.cs, List.mem_cons, List.not_mem_nil, or_false] at hu
  rcases hu with rfl | rfl <;> rfl
theorem info_thing : (Try.prog.info? 73).map (fun i => (i.zero, i.size, i.bytes)) = some (some (.agg #[.int .u64 0, .int .u64 0]), 2, 16) := by kernel_rfl
theorem info_things : (Try.prog.info? 71).map (fun i => (i.zero, i.size, i.bytes)) = some (some (.slice none 0 0), 1, 24) := by kernel_rfl
theorem info_u64e : (Try.prog.info? 23).map (fun i => (i.zero, i.size, i.bytes)) = some (some (.int .u64 0), 1, 8) := by kernel_rfl
/-- what the workers gave up, in memory: the headers' block, and each row -/
structure GvAt (w : World) (base gr : Nat) (hs : List Value) (G : List (List Th)) : Prop where
  blk : Blk w gr 71 hs.toArray
  len : hs.length = G.length
  own : ∀ (k : Nat) v l, hs[k]? = some v → G[k]? = some l → OwnT Th.cs 2 73 w base v l
  far : ∀ (i j : Nat) v u, i ≠ j → hs[i]? = some v → hs[j]? = some u → Far v u
/-- the blocks that may turn -/
def GvS (gr : Nat) (hs : List Value) (x : Nat) : Prop := x = gr ∨ ∃ v ∈ hs, v.ownBlock = some x
section
variable {w w' : World} {base gr : Nat} {hs : List Value} {G : List (List Th)}
theorem OwnT.blk_ {α : Type} {cs : α → List Value} {sz : Nat} {e : TypeId} {v : Value} {l : List α} (h : OwnT cs sz e w base v l) {x : Nat} (hx : v.ownBlock = some x) : ∃ cur, Blk w x e cur := by
  rcases h.row.2 with ⟨rfl, h1⟩ | ⟨g, cap, cur, rfl, hg, hh, _⟩
  · simp [Value.ownBlock] at hx
  · simp only [Value.ownBlock, Option.some.injEq] at hx
    subst hx
    exact ⟨cur, hh⟩
theorem GvAt.at_ (k : GvAt w base gr hs G) {i : Nat} (hi : i < G.length) : ∃ v l, hs[i]? = some v ∧ G[i]? = some l ∧ OwnT Th.cs 2 73 w base v l := by
  have h1 : i < hs.length := by rw [k.len]; exact hi
  exact ⟨_, _, List.getElem?_eq_getElem h1, List.getElem?_eq_getElem hi, k.own i _ _ (List.getElem?_eq_getElem h1) (List.getElem?_eq_getElem hi)⟩
theorem GvAt.ty (k : GvAt w base gr hs G) {x : Nat} (hx : GvS gr hs x) : ∃ t cs, Blk w x t cs ∧ (t = 71 ∨ t = 73) := by
  rcases hx with rfl | ⟨v, hv, hx⟩
  · exact ⟨_, _, k.blk, .inl rfl⟩
  · obtain ⟨i, hi, he⟩ := List.getElem_of_mem hv
    have h2 : i < G.length := by rw [← k.len]; exact hi
    obtain ⟨cur, hb⟩ := (k.own i v _ (by rw [List.getElem?_eq_getElem hi, he]) (List.getElem?_eq_getElem h2)).blk_ hx
    exact ⟨_, _, hb, .inr rfl⟩
theorem GvAt.notS (k : GvAt w base gr hs G) {x : Nat} {t : TypeId} {cs : Array Value} (b : Blk w x t cs) (h1 : t ≠ 71) (h2 : t ≠ 73) : ¬ GvS gr hs x := fun hx => by
  obtain ⟨t', cs', b', ht⟩ := k.ty hx
  have : t = t' := Classical.byContradiction fun hne => b.ne_ b' hne rfl
  rcases ht with ht | ht
  · exact h1 (this.trans ht)
  · exact h2 (this.trans ht)
theorem GvAt.lt (k : GvAt w base gr hs G) {x : Nat} (hg : base ≤ gr) (hx : GvS gr hs x) : base ≤ x := by
  rcases hx with rfl | ⟨v, hv, hx⟩
  · exact hg
  · obtain ⟨i, hi, he⟩ := List.getElem_of_mem hv
    have h2 : i < G.length := by rw [← k.len]; exact hi
    exact ((k.own i v _ (by rw [List.getElem?_eq_getElem hi, he]) (List.getElem?_eq_getElem h2)).lt x hx).1
theorem GvAt.upd {S : Nat → Prop} (k : GvAt w base gr hs G) (hu : Upd S w w') (hS : ∀ x, S x → ¬ GvS gr hs x) : GvAt w' base gr hs G :=
  ⟨k.blk.upd hu (fun h => hS _ h (.inl rfl)), k.len, fun i v l hv hl => (k.own i v l hv hl).upd hu (fun x hx h => hS x h (.inr ⟨v, List.mem_of_getElem? hv, hx⟩)), k.far⟩
theorem GvAt.bel (k : GvAt w base gr hs G) (hb : Below w.heap.size w w') : GvAt w' base gr hs G :=
  ⟨k.blk.bel hb, k.len, fun i v l hv hl => (k.own i v l hv hl).below hb, k.far⟩
theorem GvAt.drew (k : GvAt w base gr hs G) : GvAt w.drew base gr hs G := ⟨k.blk.drew, k.len, fun i v l hv hl => (k.own i v l hv hl).drew, k.far⟩
/-- a row takes the place of one -/
theorem GvAt.put (k : GvAt w base gr hs G) {i : Nat} {v v' : Value} {l' : List Th} (hv : hs[i]? = some v) {w1 : World} (hb : Blk w1 gr 71 hs.toArray) (hu : Upd (fun x => v.ownBlock = some x) w w1)
    (ho : OwnT Th.cs 2 73 w1 base v' l') (hnew : v'.ownBlock = v.ownBlock ∨ ∀ x, v'.ownBlock = some x → w.heap.size ≤ x) :
    GvAt (w1.setCell ⟨gr, i, none⟩ v') base gr (hs.set i v') (G.set i l') ∧ Upd (GvS gr hs) w (w1.setCell ⟨gr, i, none⟩ v') := by
  have hgr := k.blk.lt
  have hfar : ∀ (j : Nat) u, j ≠ i → hs[j]? = some u → Far v' u := fun j u hj hu => by
    rcases hnew with hn | hn
    · intro x hx
      exact k.far i j v u (Ne.symm hj) hv hu x (hn ▸ hx)
    · intro x hx hux
      have h1 := hn x hx
      have hjl : j < G.length := by rw [← k.len]; exact (List.getElem?_eq_some_iff.1 hu).1
      have := (k.own j u _ hu (List.getElem?_eq_getElem hjl)).lt x hux
      omega
  have hrow : ∀ (u : Value) (l : List Th), OwnT Th.cs 2 73 w1 base u l → OwnT Th.cs 2 73 (w1.setCell ⟨gr, i, none⟩ v') base u l := fun u l h =>
    h.upd (Upd.one w1 gr i v') (fun x hx he => by
      obtain ⟨cur, hc⟩ := h.blk_ hx
      exact hb.ne_ hc (by decide) he.symm)
  refine ⟨⟨?_, by simp [k.len], ?_, ?_⟩, ?_⟩
  · have := hb.set_ i v'
    simpa using this
  · intro j u l hj hl
    by_cases hji : j = i
    · subst hji
      have hjl : j < hs.length := (List.getElem?_eq_some_iff.1 hv).1
      rw [List.getElem?_set_self hjl] at hj
      rw [List.getElem?_set_self (by rw [← k.len]; exact hjl)] at hl
      simp only [Option.some.injEq] at hj hl
      subst hj; subst hl
      exact hrow _ _ ho
    · rw [List.getElem?_set_ne (Ne.symm hji)] at hj hl
      exact hrow _ _ ((k.own j u l hj hl).upd hu (fun x hx he => k.far i j v u (Ne.symm hji) hv hj x he hx))
  · intro a b u x hab ha hb'
    by_cases hai : a = i
    · subst hai
      rw [List.getElem?_set_self (List.getElem?_eq_some_iff.1 hv).1] at ha
      rw [List.getElem?_set_ne hab] at hb'
      simp only [Option.some.injEq] at ha
      subst ha
      exact hfar b x (Ne.symm hab) hb'
    · rw [List.getElem?_set_ne (Ne.symm hai)] at ha
      by_cases hbi : b = i
      · subst hbi
        rw [List.getElem?_set_self (List.getElem?_eq_some_iff.1 hv).1] at hb'
        simp only [Option.some.injEq] at hb'
        subst hb'
        exact (hfar a u hai ha).symm
      · rw [List.getElem?_set_ne (Ne.symm hbi)] at hb'
        exact k.far a b u x hab ha hb'
  · refine (hu.mono fun x _ hx => .inr ⟨v, List.mem_of_getElem? hv, hx⟩).setCell (p := ⟨gr, i, none⟩) (fun _ => .inl rfl) v'
end
theorem EpNew_yes (n : Nat) (w : World) (h1 : 1 ≤ n) (h2 : n ≤ 64) :
    Calls Try.prog 5 #[.int .i64 n] w fun e w' => ∃ b g h gr, e = .returned (.tuple #[.pointer (some ⟨b, 0, none⟩), .int .i64 0]) ∧ Below w.heap.size w w' ∧ w.heap.size ≤ b ∧ w.heap.size ≤ h ∧ w.heap.size ≤ gr ∧
      EpAt w' b g h gr n (List.replicate (n + 1) 0) ∧ GvAt w' w.heap.size gr (List.replicate n (.slice none 0 0)) (List.replicate n []) := by
  obtain ⟨i0, hi, hz0, hz1, hz2⟩ := info_parts info_things
  have hmk := fun W => make_one (P := Try.prog) 60 71 i0 _ Try.underlying60 hi hz0 hz1 rfl .i64 .i64 n (by rw [hz2]; omega) (by omega) W
  have hd : decide ((n : Int) < 1) = false := by simp; omega
  have hd2 : decide (64 < (n : Int)) = false := by simp; omega
  have hd3 : decide (64 < n) = false := by simp; omega
  have hw : wrap64 ((n : Int) + 1) = ((n + 1 : Nat) : Int) := by rw [IntWalk.wrap64_in _ (by omega)]; omega
  clear hz0 hz1 hz2
  go_enter Try.func5, Try.ntmps5
  go_wp2_with fail
  refine (CellsNew_yes (n + 1) _ (by omega) (by omega)).mono ?_
  rintro e w1 ⟨g, h, rfl, bel, hg, hh, cel, hg2, hh2⟩
  clear hw
  go_wp2_with fail
  go_ret2
  have bl := Blk.new w1 71 (Array.replicate n (.slice none 0 0))
  have hsz := bel.size
  refine ⟨w1.heap.size + 1, g, h, w1.heap.size, rfl, ?_, by omega, hh, by omega, ⟨?_, (cel.alloc _).alloc _, by simp, h1, h2⟩, ⟨?_, by simp, ?_, ?_⟩⟩
  · exact (bel.alloc hsz _).alloc (by simp; omega) _
  · have := Blk.new (w1.alloc (.cells (Array.replicate n (.slice none 0 0)) 71)) 62 #[.pointer (some ⟨g, 0, none⟩), .slice (some ⟨w1.heap.size, 0, none⟩) n n]
    simpa using this
  · rw [List.toArray_replicate]; exact bl.alloc _
  · intro k v l hv hl
    obtain rfl : v = .slice none 0 0 := (List.mem_replicate.1 (List.mem_of_getElem? hv)).2
    obtain rfl : l = [] := (List.mem_replicate.1 (List.mem_of_getElem? hl)).2
    exact OwnT.nil _ _ _ _ _
  · intro i j v u _ hv hu
    obtain rfl : v = .slice none 0 0 := (List.mem_replicate.1 (List.mem_of_getElem? hv)).2
    exact Far.nil _
theorem EpNew_no (n : Int) (w : World) (h : n < 1 ∨ 64 < n) :
    Calls Try.prog 5 #[.int .i64 n] w fun e w' => e = .returned (.tuple #[.pointer none, .int .i64 1]) ∧ w = w' := by
  rcases h with h | h
  · have hd : decide (n < 1) = true := by simpa using h
    go_enter Try.func5, Try.ntmps5
    go_wp2
    go_ret2
    exact ⟨rfl, rfl⟩
  · have hd : decide (n < 1) = false := by simp; omega
    have hd2 : decide (64 < n) = true := by simpa using h
    go_enter Try.func5, Try.ntmps5
    go_wp2
    go_ret2
    exact ⟨rfl, rfl⟩
/- Epochs: Give, Waiting. -/
/-- epochs whole -/
structure EG (base b g h gr n : Nat) (L : List Int) (hs : List Value) (G : List (List Th)) (W : World) : Prop where
  ep : EpAt W b g h gr n L
  gv : GvAt W base gr hs G
  len : G.length = n
section
variable {base b g h gr n : Nat} {L : List Int} {hs : List Value} {G : List (List Th)} {W W' : World}
theorem EG.drew (k : EG base b g h gr n L hs G W) : EG base b g h gr n L hs G W.drew := ⟨k.ep.drew, k.gv.drew, k.len⟩
theorem EG.bel (k : EG base b g h gr n L hs G W) (hb : Below W.heap.size W W') : EG base b g h gr n L hs G W' := ⟨k.ep.bel hb, k.gv.bel hb, k.len⟩
theorem EG.notB (k : EG base b g h gr n L hs G W) : ¬ GvS gr hs b := k.gv.notS k.ep.obj (by decide) (by decide)
theorem EG.notG (k : EG base b g h gr n L hs G W) : ¬ GvS gr hs g := by
  obtain ⟨_, _, _, ho⟩ := k.ep.cel.obj
  exact k.gv.notS ho (by decide) (by decide)
theorem EG.notH (k : EG base b g h gr n L hs G W) : ¬ GvS gr hs h := k.gv.notS k.ep.cel.row (by decide) (by decide)
end
/-- the worlds of a Give ahead of its last store -/
def GiveW (b g h gr n : Nat) (L : List Int) (hs : List Value) (W : World) : Prop := EpAt W b g h gr n L ∧ Blk W gr 71 hs.toArray
set_option maxHeartbeats 1000000 in
theorem EpGive_any (base b g h gr n k : Nat) (what : Int) (L : List Int) (hs : List Value) (G : List (List Th)) (l : List Th) (w : World) (eg : EG base b g h gr n L hs G w) (hk : k < n) (hl : G[k]? = some l) (hll : l.length ≤ 100000) (hb : base ≤ w.heap.size) :
    Calls Try.prog 10 #[.pointer (some ⟨b, 0, none⟩), .int .i64 k, .int .u64 what] w fun e w' => ∃ hs', e = .returned (.int .i64 0) ∧ EG base b g h gr n L hs' (G.set k (l ++ [⟨what, celAt L 0⟩])) w' ∧ Upd (GvS gr hs) w w' := by
  obtain ⟨i0, hi, hz0, hz1, hz2⟩ := info_parts info_thing
  have n2 := eg.ep.n2
  have hL : L.length ≤ 65536 := by rw [eg.ep.len]; omega
  obtain ⟨hv, l2, hhv, hl2, own⟩ := eg.gv.at_ (i := k) (by rw [eg.len]; exact hk)
  obtain rfl : l2 = l := by rw [hl] at hl2; exact (Option.some.inj hl2).symm
  have e0 := eg.ep.obj.cell 0
  have hd1 : decide ((k : Int) < 0) = false := by simp
  have hk0 : (0 : Int) ≤ k := by omega
  have hkn : (k : Int) < n := by omega
  obtain ⟨c0, hc0⟩ : ∃ c0, c0 = celAt L 0 := ⟨_, rfl⟩
  rw [← hc0]
  replace hc0 := Lib.hid hc0
  have hz : w.heap.size = w.heap.size := rfl
  go_enter Try.func10, Try.ntmps10
  go_wp2_with fail
  refine (known_yes k b g h gr n L w eg.ep ⟨hk0, hkn⟩).mono ?_
  rintro e w1 ⟨rfl, rfl⟩
  go_wp2_with fail
  have z0 : ∀ t : Tw (GiveW b g h gr n L hs), t.w.cell? ⟨b, 0, none⟩ = some (.pointer (some ⟨g, 0, none⟩)) := fun t => t.h.1.obj.cell 0
  have z1 : ∀ t : Tw (GiveW b g h gr n L hs), t.w.cell? ⟨b, 1, none⟩ = some (.slice (some ⟨gr, 0, none⟩) n n) := fun t => t.h.1.obj.cell 1
  have z2 : ∀ t : Tw (GiveW b g h gr n L hs), t.w.cell? ⟨gr, k, none⟩ = some hv := fun t => by
    rw [t.h.2.cell]; simpa using hhv
  have : Nonempty (Tw (GiveW b g h gr n L hs)) := ⟨⟨w, eg.ep, eg.gv.blk⟩⟩
  refine wp_region_planL (GiveW b g h gr n L hs) [(0, true), (1, true), (2, true), (3, true), (4, true), (5, true), (6, true), (7, true), (8, true), (9, true), (10, true), (11, true), (12, true), (13, true), (14, true), (15, true), (16, true), (17, false), (18, true), (19, false), (20, false), (21, true)] 22 (by kernel_rfl) (by kernel_rfl) (by kernel_rfl) (by kernel_rfl) (by kernel_rfl) (by kernel_rfl) ⟨eg.ep.drew, eg.gv.blk.drew⟩ ?_
  refine wpPl_qs 17 _ _ _ (by kernel_rfl) (by kernel_rfl) (by simp) ?_
  unfold clsS
  simp only [List.take_succ_cons, List.take_zero, List.drop_succ_cons, List.drop_zero, List.filterMap_cons, List.filterMap_nil, List.getElem?_toArray, List.getElem?_cons_zero, List.getElem?_cons_succ]
  repeat (first
    | go_big_quiet_skip
    | (go_big_quiet_want; go_big_quiet_op; go_big_quiet_on)
    | (refine id (?_ : wpQuiet _ _ _ _ (_ :: _) _); first | go_big_quiet_skip | (go_big_quiet_want; go_big_quiet_op; go_big_quiet_on)))
  refine wpQuiet_nil ?_
  refine wpPl_e _ (by rfl) (by kernel_rfl) (fun K hK => ?_)
  go_simp
  refine (Load_any 0 g h L _ eg.ep.drew.cel hL).mono ?_
  rw [← hc0.out]
  rintro e w2 ⟨rfl, rfl⟩
  refine hK _ _ ⟨eg.ep.drew, eg.gv.blk.drew⟩ ?_
  clear hK K
  refine wpPl_qs 1 _ _ _ (by kernel_rfl) (by kernel_rfl) (by simp) ?_
  unfold clsS
  simp only [List.take_succ_cons, List.take_zero, List.drop_succ_cons, List.drop_zero, List.filterMap_cons, List.filterMap_nil, List.getElem?_toArray, List.getElem?_cons_zero, List.getElem?_cons_succ]
  repeat (first
    | go_big_quiet_skip
    | (go_big_quiet_want; go_big_quiet_op; go_big_quiet_on)
    | (refine id (?_ : wpQuiet _ _ _ _ (_ :: _) _); first | go_big_quiet_skip | (go_big_quiet_want; go_big_quiet_op; go_big_quiet_on)))
  refine wpQuiet_nil ?_
  have hx := RdT.new (cs := Th.cs) (sz := 2) Th.cs_len w 73 [⟨what, c0⟩] #[.int .u64 what, .int .u64 c0] rfl 1 rfl
  have hx : RdT Th.cs 2 (w.alloc (.cells #[.int .u64 what, .int .u64 c0] 73)).drew (w.heap.size + 1) (some ⟨w.heap.size, 0, none⟩) 1 [⟨what, c0⟩] := hx.keep (fun p hp => rfl)
  have eg2 : EG base b g h gr n L hs G (w.alloc (.cells #[.int .u64 what, .int .u64 c0] 73)).drew := (eg.bel (bel_alloc _ _)).drew
  have own2 : OwnT Th.cs 2 73 (w.alloc (.cells #[.int .u64 what, .int .u64 c0] 73)).drew base hv l2 := (own.alloc _).drew
  have hsz2 : base ≤ (w.alloc (.cells #[.int .u64 what, .int .u64 c0] 73)).drew.heap.size := by simp; omega
  have bel2 : Below w.heap.size w (w.alloc (.cells #[.int .u64 what, .int .u64 c0] 73)).drew := (bel_alloc _ _).drew
  refine wpPl_e _ (by rfl) (by kernel_rfl) (fun K hK => ?_)
  go_simp
  refine hK _ _ ⟨eg2.ep, eg2.gv.blk⟩ ?_
  clear hK K
  generalize (w.alloc (.cells #[.int .u64 what, .int .u64 c0] 73)).drew = W2 at *
  refine wpPl_e _ (by rfl) (by kernel_rfl) (fun K hK => ?_)
  refine wp_appT Th.cs_len Th.cs_one (by decide) _ (.tmp 22) (.tmp 30) 71 rfl base 73 i0 (.agg #[.int .u64 0, .int .u64 0]) 16 Try.underlying71 hi hz0 hz1 hz2 rfl hv rfl l2 own2 _ _ 1 1 rfl [⟨what, c0⟩] hx (by omega) (by decide) hsz2 ?_
  intro v1 w1 own1 hg1 hb1
  obtain ⟨A1, c1, rfl, _, _⟩ := own1.form rfl
  obtain ⟨m1, hm1⟩ : ∃ m1, m1 = (l2 ++ [Th.mk what c0]).length := ⟨_, rfl⟩
  rw [← hm1] at own1 hb1 ⊢
  replace hm1 := Lib.hid hm1
  go_simp
  have up1 : Upd (fun x => hv.ownBlock = some x) W2 w1 := Upd.of_grown hg1 (fun g h => h)
  have hnS : ∀ x, hv.ownBlock = some x → GvS gr hs x := fun x hx => .inr ⟨hv, List.mem_of_getElem? hhv, hx⟩
  have ep1 := eg2.ep.upd up1 (fun h => eg2.notB (hnS _ h)) (fun h => eg2.notG (hnS _ h)) (fun h => eg2.notH (hnS _ h))
  have hngr : ¬ hv.ownBlock = some gr := fun h => by
    obtain ⟨cur, hc⟩ := own2.blk_ h
    exact eg2.gv.blk.ne_ hc (by decide) rfl
  have bk1 := eg2.gv.blk.upd up1 hngr
  refine hK _ _ ⟨ep1, bk1⟩ ?_
  clear hK K
  refine wpPl_qs 1 _ _ _ (by kernel_rfl) (by kernel_rfl) (by simp) ?_
  unfold clsS
  simp only [List.take_succ_cons, List.take_zero, List.drop_succ_cons, List.drop_zero, List.filterMap_cons, List.filterMap_nil, List.getElem?_toArray, List.getElem?_cons_zero, List.getElem?_cons_succ]
  repeat (first
    | go_big_quiet_skip
    | (go_big_quiet_want; go_big_quiet_op; go_big_quiet_on)
    | (refine id (?_ : wpQuiet _ _ _ _ (_ :: _) _); first | go_big_quiet_skip | (go_big_quiet_want; go_big_quiet_op; go_big_quiet_on)))
  refine wpQuiet_nil ?_
  unfold wpPl
  refine NoPanic.normal ?_
  obtain ⟨gv3, up3⟩ := eg2.gv.put hhv bk1 up1 own1 (hb1.imp id (fun h x hx => by rw [h] at hx; simp at hx; omega))
  have c5 := bk1.cell k
  have c6 := bk1.frozen k
  have hhv2 : hs.toArray[k]? = some hv := by simpa using hhv
  rw [hhv2] at c5
  refine lastQ_do _ (by rfl) (by kernel_rfl) (fun K hK => ?_)
  go_simp
  refine hK _ _ ?_
  clear hK K
  have ep4 : EpAt (w1.setCell ⟨gr, k, none⟩ (.slice A1 m1 c1)) b g h gr n L := ep1.upd (Upd.one w1 gr k (.slice A1 m1 c1)) (fun e => eg2.notB (.inl e)) (fun e => eg2.notG (.inl e)) (fun e => eg2.notH (.inl e))
  have up4 : Upd (GvS gr hs) w (w1.setCell ⟨gr, k, none⟩ (.slice A1 m1 c1)) := (Upd.of_below bel2 _).trans up3
  have ln4 : (G.set k (l2 ++ [⟨what, c0⟩])).length = n := by rw [List.length_set]; exact eg.len
  clear z0 z1 z2 this hx eg2 own2 bel2 own1 hg1 hb1 up1 ep1 bk1 c5 c6 up3 e0 own
  generalize w1.setCell ⟨gr, k, none⟩ (.slice A1 m1 c1) = W5 at *
  go_wp2_with fail
  go_ret
  exact ⟨_, rfl, ⟨ep4, gv3, ln4⟩, up4⟩
/- Epochs: Waiting, Given. -/
/- Epochs: Take. -/
def Th.ripe (now : Int) (x : Th) : Bool := decide (x.when + 2 ≤ now)
def takes (now : Int) (l : List Th) : List Int := (l.filter (Th.ripe now)).map Th.what
def leaves (now : Int) (l : List Th) : List Th := l.filter (fun x => !x.ripe now)
theorem takes_snoc (now : Int) (l : List Th) (x : Th) : takes now (l ++ [x]) = if x.when + 2 ≤ now then takes now l ++ [x.what] else takes now l := by
  unfold takes
  rw [List.filter_append]
  by_cases h : x.when + 2 ≤ now <;> simp [List.filter_cons, Th.ripe, h]
theorem leaves_snoc (now : Int) (l : List Th) (x : Th) : leaves now (l ++ [x]) = if x.when + 2 ≤ now then leaves now l else leaves now l ++ [x] := by
  unfold leaves
  rw [List.filter_append]
  by_cases h : x.when + 2 ≤ now <;> simp [List.filter_cons, Th.ripe, h]
theorem takes_len (now : Int) (l : List Th) : (takes now l).length ≤ l.length := by unfold takes; rw [List.length_map]; exact List.length_filter_le _ _
theorem leaves_len (now : Int) (l : List Th) : (leaves now l).length ≤ l.length := by unfold leaves; exact List.length_filter_le _ _
theorem Own.blk_ {k : IntKind} {e : TypeId} {w : World} {base : Nat} {v : Value} {l : List Int} (h : Own k e w base v l) {x : Nat} (hx : v.ownBlock = some x) : ∃ cur, Blk w x e cur := by
  rcases h.row.2 with ⟨rfl, h1⟩ | ⟨g, cap, cur, rfl, hg, hh, _⟩
  · simp [Value.ownBlock] at hx
  · simp only [Value.ownBlock, Option.some.injEq] at hx
    subst hx
    exact ⟨cur, hh⟩
theorem Own.upd {k : IntKind} {e : TypeId} {w w' : World} {base : Nat} {v : Value} {l : List Int} {S : Nat → Prop} (h : Own k e w base v l) (hu : Upd S w w') (hS : ∀ g, v.ownBlock = some g → ¬ S g) : Own k e w' base v l := by
  refine ⟨⟨h.row.1, ?_⟩, h.rng⟩
  rcases h.row.2 with hn | ⟨g, cap, cur, rfl, hb, hgg, rest⟩
  · exact .inl hn
  · refine .inr ⟨g, cap, cur, rfl, hb, ?_, rest⟩
    rw [hu.block g (Array.getElem?_eq_some_iff.1 hgg).1 (hS g rfl)]
    exact hgg
set_option maxRecDepth 100000 in
set_option maxHeartbeats 1000000 in
theorem EpTake_any (base b g h gr n k : Nat) (L : List Int) (hs : List Value) (G : List (List Th)) (l : List Th) (w : World) (eg : EG base b g h gr n L hs G w) (hk : k < n) (hl : G[k]? = some l) (hll : l.length ≤ 100000) (hb : base ≤ w.heap.size)
    (hwr : ∀ x ∈ l, inr .u64 x.what) (hwn : ∀ x ∈ l, 0 ≤ x.when ∧ x.when ≤ 1000000) :
    Calls Try.prog 13 #[.pointer (some ⟨b, 0, none⟩), .int .i64 k] w fun e w' => ∃ v hs', e = .returned v ∧ Own .u64 23 w' w.heap.size v (takes (celAt L 0) l) ∧ EG base b g h gr n L hs' (G.set k (leaves (celAt L 0) l)) w' ∧ Upd (GvS gr hs) w w' := by
  obtain ⟨i0, hi, hz0, hz1, hz2⟩ := info_parts info_u64e
  obtain ⟨j0, hj, hy0, hy1, hy2⟩ := info_parts info_thing
  have n2 := eg.ep.n2
  have hL : L.length ≤ 65536 := by rw [eg.ep.len]; omega
  obtain ⟨hv, l2, hhv, hl2, own⟩ := eg.gv.at_ (i := k) (by rw [eg.len]; exact hk)
  obtain rfl : l2 = l := by rw [hl] at hl2; exact (Option.some.inj hl2).symm
  obtain ⟨A1, c1, rfl, hc1, hc2⟩ := own.form rfl
  have rd := own.rd Th.cs_len rfl rfl
  have e0 := eg.ep.obj.cell 0
  have e1 := eg.ep.obj.cell 1
  have e2 := eg.gv.blk.cell k
  rw [show hs.toArray[k]? = _ by simpa using hhv] at e2
  have hk0 : (0 : Int) ≤ k := by omega
  have hkn : (k : Int) < n := by omega
  obtain ⟨m, hm⟩ : ∃ m, m = l2.length := ⟨_, rfl⟩
  rw [← hm] at e2 hc1 rd hll hhv
  obtain ⟨c0, hc0⟩ : ∃ c0, c0 = celAt L 0 := ⟨_, rfl⟩
  rw [← hc0]
  replace hc0 := Lib.hid hc0
  replace hhv := Lib.hid hhv
  clear own hl hl2
  go_enter Try.func13, Try.ntmps13
  go_wp2_with fail
  refine (known_yes k b g h gr n L w eg.ep ⟨hk0, hkn⟩).mono ?_
  rintro e w1 ⟨rfl, rfl⟩
  replace hm := Lib.hid hm
  go_wp2_with fail
  refine (Load_any 0 g h L _ eg.ep.cel hL).mono ?_
  rw [← hc0.out]
  rintro e w2 ⟨rfl, rfl⟩
  go_wp2_with fail
  go_loopg [6, 7, 27] m (fun gk s6 s7 s27 wr => ∃ i : Nat, gk = m - i ∧ i ≤ m ∧ s27 = .int .i64 i ∧ Own .u64 23 wr w.heap.size s6 (takes c0 (l2.take i)) ∧ OwnT Th.cs 2 73 wr w.heap.size s7 (leaves c0 (l2.take i)) ∧ Below w.heap.size w wr)
  case atStart => exact ⟨0, rfl, Nat.zero_le _, rfl, Own.nil _ _ _ _, OwnT.nil _ _ _ _ _, Below.refl _ _⟩
  case round =>
    obtain ⟨i, hgk, him, rfl, own, ownT, bel⟩ := hrel
    by_cases hlt : i < m
    · have hd : decide (i < m) = true := by simpa using hlt
      replace hgk := Lib.hid hgk
      obtain ⟨bb, o, rfl, hbb, hcl⟩ := rd.cel (by omega)
      obtain ⟨d, hdi⟩ : ∃ d, l2[i]? = some d := ⟨_, List.getElem?_eq_getElem (by have := hm.out; omega)⟩
      have y0 : wr.cell? ⟨bb, o + i * 2, none⟩ = some (.int .u64 d.what) := (bel.cell (p := ⟨bb, o + i * 2, none⟩) hbb).trans (hcl i d hdi 0 _ rfl)
      have y1 : wr.cell? ⟨bb, o + i * 2 + 1, none⟩ = some (.int .u64 d.when) := (bel.cell (p := ⟨bb, o + i * 2 + 1, none⟩) hbb).trans (hcl i d hdi 1 _ rfl)
      have hwd := hwr d (List.mem_of_getElem? hdi)
      obtain ⟨hwn1, hwn2⟩ := hwn d (List.mem_of_getElem? hdi)
      have htk := takes_snoc c0 (l2.take i) d
      have hlv := leaves_snoc c0 (l2.take i) d
      rw [show l2.take i ++ [d] = l2.take (i + 1) by rw [List.take_add_one, hdi]; rfl] at htk hlv
      have hlen1 := takes_len c0 (l2.take i)
      have hlen2 := leaves_len c0 (l2.take i)
      have hlen : (l2.take i).length = i := by rw [List.length_take, ← hm.out]; omega
      rw [hlen] at hlen1 hlen2
      generalize takes c0 (l2.take i) = T at *
      generalize leaves c0 (l2.take i) = R at *
      obtain ⟨wt, wn⟩ := d
      simp only at y0 y1 hwd htk hwn1 hwn2 hlv
      replace htk := Lib.hid htk
      replace hlv := Lib.hid hlv
      clear hdi hcl e0 e1 e2 hlen
      have hxs : (wr.alloc (.cells #[.int .u64 wt, .int .u64 wn] 73)).heap.size = wr.heap.size + 1 := by simp
      by_cases hp : wn + 2 ≤ c0
      · have hpd : decide (wn + 2 ≤ c0) = true := by simpa using hp
        have hT := htk.out
        have hR := hlv.out
        rw [if_pos hp] at hT hR
        clear htk hlv hp
        replace hT := Lib.hid hT
        replace hR := Lib.hid hR
        have bel2 : Below w.heap.size w ((wr.alloc (.cells #[.int .u64 wt, .int .u64 wn] 73)).alloc (.cells #[.int .u64 wt] 23)) := (bel.alloc bel.size _).alloc (by simp; have := bel.size; omega) _
        have hx := Rd.new .u64 (wr.alloc (.cells #[.int .u64 wt, .int .u64 wn] 73)) 23 [wt] (by intro y hy; simp at hy; subst hy; exact hwd) #[.int .u64 wt] rfl 1 rfl
        rw [hxs] at hx
        have own2 := (own.alloc (.cells #[.int .u64 wt, .int .u64 wn] 73)).alloc (.cells #[.int .u64 wt] 23)
        have ownT2 := (ownT.alloc (.cells #[.int .u64 wt, .int .u64 wn] 73)).alloc (.cells #[.int .u64 wt] 23)
        have hbz := bel2.size
        clear hxs
        go_wp2_with (at_builtin; go_loud (refine wpList_app _ rfl (.tmp 36) (.tmp 39) 32 rfl .u64 w.heap.size 23 i0 (.int .u64 0) 8 Try.underlying32 hi hz0 hz1 hz2 rfl _ (by rfl) T own2 _ _ 1 1 rfl [wt] hx (by omega) (by decide) hbz ?_; intro v1 w4 own4 hg4 hb4))
        have bel4 := bel2.grown hg4 hbz (fun g h => (own2.lt g h).1)
        have ownT4 : OwnT Th.cs 2 73 w4 w.heap.size _ R := ownT2.upd (Upd.of_grown (S := fun x => _ = some x) hg4 (fun g h => h)) (fun x hx1 hx2 => by
          obtain ⟨_, q1⟩ := ownT2.blk_ hx1
          obtain ⟨_, q2⟩ := own2.blk_ hx2
          exact q1.ne_ q2 (by decide) rfl)
        rw [← hT.out] at own4
        rw [← hR.out] at ownT4
        clear own2 hx hg4 hb4 bel2 hbz own bel y0 y1 ownT2 ownT
        go_wp2_with fail
        go_roundg (m - (i + 1))
        case measure => have := hgk.out; omega
        case rel => exact ⟨i + 1, rfl, by omega, by go_num, own4, ownT4, bel4⟩
      · have hpd : decide (wn + 2 ≤ c0) = false := by simpa using hp
        have hT := htk.out
        have hR := hlv.out
        rw [if_neg hp] at hT hR
        clear htk hlv hp
        replace hT := Lib.hid hT
        replace hR := Lib.hid hR
        have bel2 : Below w.heap.size w ((wr.alloc (.cells #[.int .u64 wt, .int .u64 wn] 73)).alloc (.cells #[.int .u64 wt, .int .u64 wn] 73)) := (bel.alloc bel.size _).alloc (by simp; have := bel.size; omega) _
        have hx := RdT.new (cs := Th.cs) (sz := 2) Th.cs_len (wr.alloc (.cells #[.int .u64 wt, .int .u64 wn] 73)) 73 [⟨wt, wn⟩] #[.int .u64 wt, .int .u64 wn] rfl 1 rfl
        rw [hxs] at hx
        have own2 := (own.alloc (.cells #[.int .u64 wt, .int .u64 wn] 73)).alloc (.cells #[.int .u64 wt, .int .u64 wn] 73)
        have ownT2 := (ownT.alloc (.cells #[.int .u64 wt, .int .u64 wn] 73)).alloc (.cells #[.int .u64 wt, .int .u64 wn] 73)
        have hbz := bel2.size
        clear hxs
        go_wp2_with (at_builtin; go_loud (refine wpList_appT Th.cs_len Th.cs_one (by decide) _ rfl (.tmp 41) (.tmp 43) 71 rfl w.heap.size 73 j0 (.agg #[.int .u64 0, .int .u64 0]) 16 Try.underlying71 hj hy0 hy1 hy2 rfl _ (by rfl) R ownT2 _ _ 1 1 rfl [⟨wt, wn⟩] hx (by omega) (by decide) hbz ?_; intro v1 w4 ownT4 hg4 hb4))
        have bel4 := bel2.grown hg4 hbz (fun g h => (ownT2.lt g h).1)
        have own4 : Own .u64 23 w4 w.heap.size _ T := own2.upd (Upd.of_grown (S := fun x => _ = some x) hg4 (fun g h => h)) (fun x hx1 hx2 => by
          obtain ⟨_, q1⟩ := own2.blk_ hx1
          obtain ⟨_, q2⟩ := ownT2.blk_ hx2
          exact q1.ne_ q2 (by decide) rfl)
        rw [← hT.out] at own4
        rw [← hR.out] at ownT4
        clear own2 hx hg4 hb4 bel2 hbz own bel y0 y1 ownT2 ownT
        go_wp2_with fail
        go_roundg (m - (i + 1))
        case measure => have := hgk.out; omega
        case rel => exact ⟨i + 1, rfl, by omega, by go_num, own4, ownT4, bel4⟩
    · obtain rfl : i = m := by omega
      rw [List.take_of_length_le (by rw [← hm.out]; exact Nat.le_refl _)] at own ownT
      obtain ⟨A2, c2, rfl, _, _⟩ := own.form rfl
      obtain ⟨A3, c3, rfl, _, _⟩ := ownT.form rfl
      have bk := eg.gv.blk.bel bel
      have ownB : OwnT Th.cs 2 73 wr base (.slice A3 (leaves c0 l2).length c3) (leaves c0 l2) := ⟨⟨ownT.row.1, ownT.row.2.imp id (fun ⟨g, cap, cur, q1, q2, q3⟩ => ⟨g, cap, cur, q1, Nat.le_trans hb q2, q3⟩)⟩⟩
      obtain ⟨gv3, up3⟩ := eg.gv.put hhv.out bk (Upd.of_below bel _) ownB (.inr fun x hx => (ownT.lt x hx).1)
      have ep2 := eg.ep.bel bel
      have q1 := ep2.obj.cell 1
      have q2 := bk.cell k
      have q3 := bk.frozen k
      rw [show hs.toArray[k]? = _ by simpa using hhv.out] at q2
      have ep3 : EpAt (wr.setCell ⟨gr, k, none⟩ (.slice A3 (leaves c0 l2).length c3)) b g h gr n L := ep2.upd (Upd.one wr gr k _) (fun e => eg.notB (.inl e)) (fun e => eg.notG (.inl e)) (fun e => eg.notH (.inl e))
      have own3 := own.upd (Upd.one wr gr k (.slice A3 (leaves c0 l2).length c3)) (fun x hx he => by
        obtain ⟨_, q⟩ := own.blk_ hx
        exact q.ne_ bk (by decide) he)
      have ln : (G.set k (leaves c0 l2)).length = n := by rw [List.length_set]; exact eg.len
      clear ownB ownT ep2 bk e0 e1 e2 own hc0 eg
      generalize (leaves c0 l2).length = m3 at *
      generalize hm4 : (takes c0 l2).length = m4 at *
      replace hm4 := Lib.hid hm4
      go_wp2
      go_ret
      exact ⟨_, _, rfl, own3, ⟨ep3, gv3, ln⟩, up3⟩
/- Epochs in a law's call; an Advance while nobody is pinned; the law's moves. -/
/-- epochs that the call made itself -/
structure EL (w0 : World) (b g h gr n : Nat) (L : List Int) (hs : List Value) (G : List (List Th)) (W : World) : Prop where
  eg : EG w0.heap.size b g h gr n L hs G W
  hh : w0.heap.size ≤ h
  hgr : w0.heap.size ≤ gr
  bel : Below w0.heap.size w0 W
section
variable {w0 W W' : World} {b g h gr n sb : Nat} {L L' : List Int} {hs hs' : List Value} {G G' : List (List Th)} {s s' : Es}
theorem EL.bel' (k : EL w0 b g h gr n L hs G W) (hb : Below W.heap.size W W') : EL w0 b g h gr n L hs G W' := ⟨k.eg.bel hb, k.hh, k.hgr, bel_after k.bel hb⟩
theorem EL.drew (k : EL w0 b g h gr n L hs G W) : EL w0 b g h gr n L hs G W.drew := ⟨k.eg.drew, k.hh, k.hgr, k.bel.drew⟩
theorem EL.step (k : EL w0 b g h gr n L hs G W) (st : EsAt W sb s) (hsb : w0.heap.size ≤ sb) (es : ES W b g h gr n sb s' L' W') : EL w0 b g h gr n L' hs G W' :=
  ⟨⟨es.ep, k.eg.gv.upd es.upd (fun x hx => by
    rcases hx with rfl | rfl
    · exact k.eg.notH
    · exact k.eg.gv.notS st (by decide) (by decide)), k.eg.len⟩, k.hh, k.hgr, k.bel.trans (es.upd.below k.bel.size (fun x hx e => by have := k.hh; rcases e with rfl | rfl <;> omega))⟩
theorem EL.gave (k : EL w0 b g h gr n L hs G W) (eg : EG w0.heap.size b g h gr n L hs' G' W') (up : Upd (GvS gr hs) W W') : EL w0 b g h gr n L hs' G' W' :=
  ⟨eg, k.hh, k.hgr, k.bel.trans (up.below k.bel.size (fun x hx e => by have := k.eg.gv.lt k.hgr e; omega))⟩
theorem EL.unpin (k : EL w0 b g h gr n L hs G W) (ep : EpAt W' b g h gr n L') (up : Upd (fun x => x = h) W W') : EL w0 b g h gr n L' hs G W' :=
  ⟨⟨ep, k.eg.gv.upd up (fun x hx => by subst hx; exact k.eg.notH), k.eg.len⟩, k.hh, k.hgr, k.bel.trans (up.below k.bel.size (fun x hx e => by have := k.hh; omega))⟩
end
/-- cells while nobody is pinned -/
def idleL (n : Nat) (E : Int) : List Int := E :: List.replicate n 0
theorem idle_at0 (n : Nat) (E : Int) : celAt (idleL n E) 0 = E := by simp [celAt, idleL]
theorem idle_at (n : Nat) (E : Int) (p : Nat) (h1 : 1 ≤ p) : celAt (idleL n E) p = 0 := by
  obtain ⟨q, rfl⟩ : ∃ q, p = q + 1 := ⟨p - 1, by omega⟩
  unfold celAt idleL
  split
  · rw [Int.toNat_natCast, List.getD_cons_succ, List.getD_eq_getElem?_getD]
    cases h : (List.replicate n (0 : Int))[q]? with
    | none => rfl
    | some x => exact (List.mem_replicate.1 (List.mem_of_getElem? h)).2
  · rfl
theorem idle_set (n : Nat) (E E' : Int) : celSet (idleL n E) 0 E' = idleL n E' := by
  unfold celSet idleL
  rw [if_pos ⟨by omega, by simp⟩]
  rfl
theorem idle_new (n : Nat) : List.replicate (n + 1) (0 : Int) = idleL n 0 := rfl
/-- an Advance that has done j steps -/
def advS (E : Int) (j : Nat) : Es := ⟨0, true, j, if j = 0 then 0 else E, false, false⟩
theorem advs_go (n : Nat) (E : Int) (j : Nat) (hj : j ≤ n) : (advS E j).does n (idleL n E) = (advS E (j + 1), idleL n E) := by
  unfold Es.does advS
  simp only [if_true]
  unfold Es.advs
  by_cases h0 : j = 0
  · subst h0
    simp [idle_at0]
  · simp only [h0, if_false, hj, if_true]
    rw [idle_at n E j (by omega)]
    simp
theorem advs_end (n : Nat) (E : Int) (hE : 0 ≤ E ∧ E ≤ 1000000) : (advS E (n + 1)).does n (idleL n E) = (⟨0, true, n + 2, E, true, true⟩, idleL n (E + 1)) := by
  unfold Es.does advS
  simp only [if_true]
  unfold Es.advs
  rw [if_neg (by simp), if_neg (by simp)]
  rw [idle_at0, if_pos (by simp)]
  have hw : IntKind.u64.wrap (E + 1) = E + 1 := by rw [IntKind.wrap_u64]; omega
  simp only [Nat.add_eq_zero_iff, Nat.one_ne_zero, and_false, if_false]
  rw [hw, idle_set]
/- Epochs, pins, advances in flight, and who was pinned when something was given up: plain. -/
/-- the cells -/
def cellsL (E : Nat) (pin : List Nat) : List Int := (E : Int) :: pin.map fun (x : Nat) => (x : Int)
theorem cells0 (E : Nat) (pin : List Nat) : celAt (cellsL E pin) 0 = E := by unfold celAt cellsL; rw [if_pos ⟨by omega, by simp⟩]; rfl
theorem cellsP {E : Nat} {pin : List Nat} {k p : Nat} (h : pin[k]? = some p) : celAt (cellsL E pin) (1 + (k : Int)) = p := by
  obtain ⟨hl, he⟩ := List.getElem?_eq_some_iff.1 h
  unfold celAt cellsL
  rw [if_pos ⟨by omega, by simp; omega⟩, show (1 + (k : Int)).toNat = k + 1 by omega]
  simp [List.getD_eq_getElem?_getD, h]
theorem cellsP' {E : Nat} {pin : List Nat} {k p : Nat} (h : pin[k]? = some p) : celAt (cellsL E pin) ((k + 1 : Nat) : Int) = p := by
  rw [show ((k + 1 : Nat) : Int) = 1 + (k : Int) by omega]; exact cellsP h
theorem cells_set0 (E E' : Nat) (pin : List Nat) : celSet (cellsL E pin) 0 (E' : Int) = cellsL E' pin := by unfold celSet cellsL; rw [if_pos ⟨by omega, by simp⟩]; rfl
theorem cells_setP {E k : Nat} {pin : List Nat} (h : k < pin.length) (p : Nat) : celSet (cellsL E pin) (1 + (k : Int)) (p : Int) = cellsL E (pin.set k p) := by
  unfold celSet cellsL
  rw [if_pos ⟨by omega, by simp; omega⟩, show (1 + (k : Int)).toNat = k + 1 by omega, List.set_cons_succ, List.map_set]
theorem cells_new (n : Nat) : List.replicate (n + 1) (0 : Int) = cellsL 0 (List.replicate n 0) := by unfold cellsL; rw [List.map_replicate, List.replicate_succ]; rfl
/-- what holds of the epoch, the pins, the steps in flight, and who is pinned -/
structure TV (n E : Nat) (pin : List Nat) (ss : List (Option Es)) (pd : List Bool) : Prop where
  lp : pin.length = n
  ls : ss.length = n
  lb : pd.length = n
  hp : ∀ (j p : Nat), pin[j]? = some p → p ≤ E + 1
  sn : ∀ (j : Nat) s, ss[j]? = some (some s) → s.done = false ∧ (∃ e : Nat, s.seen = (e : Int) ∧ e ≤ E) ∧ (s.adv = true → s.pos ≤ n + 1) ∧ (s.adv = false → s.pos ≤ 2 ∧ s.worker = (j : Int)) ∧ s.won = false
  p1 : ∀ (j p : Nat), pd[j]? = some true → pin[j]? = some p → 1 ≤ p ∧ p ≤ E + 1 ∧ E ≤ p
  p1s : ∀ (j : Nat) s, pd[j]? = some true → ss[j]? = some (some s) → s.adv = true
  p2 : ∀ (k : Nat) s, ss[k]? = some (some s) → s.adv = true → s.seen = (E : Int) → ∀ (j p : Nat), j + 2 ≤ s.pos → pd[j]? = some true → pin[j]? = some p → p = E + 1
  p3 : ∀ (j p : Nat) s, ss[j]? = some (some s) → s.adv = false → s.pos = 2 → pin[j]? = some p → (p : Int) = s.seen + 1
section
variable {n E : Nat} {pin : List Nat} {ss : List (Option Es)} {pd : List Bool}
theorem get_set {α : Type} {l : List α} {i j : Nat} {x y : α} (h : (l.set i x)[j]? = some y) : (j = i ∧ y = x) ∨ (j ≠ i ∧ l[j]? = some y) := by
  by_cases hj : j = i
  · subst hj
    have hl : j < l.length := by have := (List.getElem?_eq_some_iff.1 h).1; simpa using this
    rw [List.getElem?_set_self hl] at h
    exact .inl ⟨rfl, (Option.some.inj h).symm⟩
  · rw [List.getElem?_set_ne (Ne.symm hj)] at h
    exact .inr ⟨hj, h⟩
theorem TV.new (n : Nat) : TV n 0 (List.replicate n 0) (List.replicate n none) (List.replicate n false) := by
  have r : ∀ {α : Type} {x y : α} {j : Nat}, (List.replicate n x)[j]? = some y → y = x := fun h => (List.mem_replicate.1 (List.mem_of_getElem? h)).2
  refine ⟨by simp, by simp, by simp, fun j p h => by have := r h; omega, fun j s h => ?_, fun j p h => ?_, fun j s h => ?_, fun k s h => ?_, fun j p s h => ?_⟩
  · have := r h; cases this
  · have := r h; cases this
  · have := r h; cases this
  · have := r h; cases this
  · have := r h; cases this
/-- a Pin begins: who pins is pinned no more -/
theorem TV.begP (t : TV n E pin ss pd) (k : Nat) : TV n E pin (ss.set k (some ⟨(k : Int), false, 0, 0, false, false⟩)) (pd.set k false) := by
  refine ⟨t.lp, by simp [t.ls], by simp [t.lb], t.hp, fun j s h => ?_, fun j p h hp => ?_, fun j s h hs => ?_, fun a s h ha he j p hj hd hp => ?_, fun j p s h ha h2 hp => ?_⟩
  · rcases get_set h with ⟨rfl, e⟩ | ⟨_, e⟩
    · cases e; exact ⟨rfl, ⟨0, rfl, by omega⟩, by simp, fun _ => ⟨by simp, rfl⟩, rfl⟩
    · exact t.sn j s e
  · rcases get_set h with ⟨_, e⟩ | ⟨_, e⟩
    · cases e
    · exact t.p1 j p e hp
  · rcases get_set h with ⟨_, e⟩ | ⟨hj, e⟩
    · cases e
    · rcases get_set hs with ⟨rfl, _⟩ | ⟨_, e2⟩
      · exact absurd rfl hj
      · exact t.p1s j s e e2
  · rcases get_set hd with ⟨_, e⟩ | ⟨hjk, e⟩
    · cases e
    · rcases get_set h with ⟨rfl, e2⟩ | ⟨_, e2⟩
      · cases e2; cases ha
      · exact t.p2 a s e2 ha he j p hj e hp
  · rcases get_set h with ⟨rfl, e2⟩ | ⟨_, e2⟩
    · cases e2; simp at h2
    · exact t.p3 j p s e2 ha h2 hp
theorem TV.adv (t : TV n E pin ss pd) (k : Nat) : TV n E pin (ss.set k (some ⟨0, true, 0, 0, false, false⟩)) pd := by
  refine ⟨t.lp, by simp [t.ls], t.lb, t.hp, fun j s h => ?_, t.p1, fun j s h hs => ?_, fun a s h ha he j p hj hd hp => ?_, fun j p s h ha h2 hp => ?_⟩
  · rcases get_set h with ⟨rfl, e⟩ | ⟨_, e⟩
    · cases e; exact ⟨rfl, ⟨0, rfl, by omega⟩, by simp, by simp, rfl⟩
    · exact t.sn j s e
  · rcases get_set hs with ⟨rfl, e⟩ | ⟨_, e⟩
    · cases e; rfl
    · exact t.p1s j s h e
  · rcases get_set h with ⟨rfl, e⟩ | ⟨_, e⟩
    · cases e; simp at hj
    · exact t.p2 a s e ha he j p hj hd hp
  · rcases get_set h with ⟨rfl, e⟩ | ⟨_, e⟩
    · cases e; cases ha
    · exact t.p3 j p s e ha h2 hp
theorem TV.unpin (t : TV n E pin ss pd) (k : Nat) (hk : ss[k]? = some none) : TV n E (pin.set k 0) ss (pd.set k false) := by
  refine ⟨by simp [t.lp], t.ls, by simp [t.lb], fun j p h => ?_, t.sn, fun j p h hp => ?_, fun j s h hs => ?_, fun a s h ha he j p hj hd hp => ?_, fun j p s h ha h2 hp => ?_⟩
  · rcases get_set h with ⟨_, e⟩ | ⟨_, e⟩
    · omega
    · exact t.hp j p e
  · rcases get_set h with ⟨_, e⟩ | ⟨hj, e⟩
    · cases e
    · rcases get_set hp with ⟨e2, _⟩ | ⟨_, e2⟩
      · exact absurd e2 hj
      · exact t.p1 j p e e2
  · rcases get_set h with ⟨_, e⟩ | ⟨_, e⟩
    · cases e
    · exact t.p1s j s e hs
  · rcases get_set hd with ⟨_, e⟩ | ⟨hjk, e⟩
    · cases e
    · rcases get_set hp with ⟨e2, _⟩ | ⟨_, e2⟩
      · exact absurd e2 hjk
      · exact t.p2 a s h ha he j p hj e e2
  · rcases get_set hp with ⟨e2, _⟩ | ⟨_, e2⟩
    · subst e2; rw [hk] at h; cases h
    · exact t.p3 j p s h ha h2 e2
/-- a step that goes on: of which the place alone turned, or what it saw -/
theorem TV.go (t : TV n E pin ss pd) {k : Nat} {s s' : Es} (hk : ss[k]? = some (some s)) (ha : s'.adv = s.adv) (hd : s'.done = false) (hw : s'.won = false) (hwk : s'.worker = s.worker) (hs : ∃ e : Nat, s'.seen = (e : Int) ∧ e ≤ E) (hp : (s'.adv = true → s'.pos ≤ n + 1) ∧ (s'.adv = false → s'.pos ≤ 2))
    (h2 : s'.adv = true → s'.seen = (E : Int) → ∀ (j p : Nat), j + 2 ≤ s'.pos → pd[j]? = some true → pin[j]? = some p → p = E + 1) (h3 : s'.adv = false → s'.pos = 2 → ∀ p, pin[k]? = some p → (p : Int) = s'.seen + 1) :
    TV n E pin (ss.set k (some s')) pd := by
  refine ⟨t.lp, by simp [t.ls], t.lb, t.hp, fun j s1 h => ?_, t.p1, fun j s1 h hs1 => ?_, fun a s1 h ha1 he j p hj hd1 hp1 => ?_, fun j p s1 h ha1 h21 hp1 => ?_⟩
  · rcases get_set h with ⟨rfl, e⟩ | ⟨_, e⟩
    · cases e
      exact ⟨hd, hs, hp.1, fun h => ⟨hp.2 h, by rw [hwk]; exact ((t.sn j s hk).2.2.2.1 (ha ▸ h)).2⟩, hw⟩
    · exact t.sn j s1 e
  · rcases get_set hs1 with ⟨rfl, e⟩ | ⟨_, e⟩
    · cases e; rw [ha]; exact t.p1s j s h hk
    · exact t.p1s j s1 h e
  · rcases get_set h with ⟨rfl, e⟩ | ⟨_, e⟩
    · cases e; exact h2 ha1 he j p hj hd1 hp1
    · exact t.p2 a s1 e ha1 he j p hj hd1 hp1
  · rcases get_set h with ⟨rfl, e⟩ | ⟨_, e⟩
    · cases e; exact h3 ha1 h21 p hp1
    · exact t.p3 j p s1 e ha1 h21 hp1
/-- a step that is over -/
theorem TV.drop (t : TV n E pin ss pd) (k : Nat) : TV n E pin (ss.set k none) pd := by
  refine ⟨t.lp, by simp [t.ls], t.lb, t.hp, fun j s1 h => ?_, t.p1, fun j s1 h hs1 => ?_, fun a s1 h ha1 he j p hj hd1 hp1 => ?_, fun j p s1 h ha1 h21 hp1 => ?_⟩
  · rcases get_set h with ⟨_, e⟩ | ⟨_, e⟩
    · cases e
    · exact t.sn j s1 e
  · rcases get_set hs1 with ⟨_, e⟩ | ⟨_, e⟩
    · cases e
    · exact t.p1s j s1 h e
  · rcases get_set h with ⟨_, e⟩ | ⟨_, e⟩
    · cases e
    · exact t.p2 a s1 e ha1 he j p hj hd1 hp1
  · rcases get_set h with ⟨_, e⟩ | ⟨_, e⟩
    · cases e
    · exact t.p3 j p s1 e ha1 h21 hp1
/-- a pin stored -/
theorem TV.store (t : TV n E pin ss pd) {k e : Nat} {s : Es} (hk : ss[k]? = some (some s)) (ha : s.adv = false) (hp : s.pos = 1) (he : s.seen = (e : Int)) (heE : e ≤ E) (s' : Es) (hs' : s' = ⟨s.worker, false, 2, s.seen, false, false⟩) : TV n E (pin.set k (e + 1)) (ss.set k (some s')) pd := by
  have hpk : pd[k]? ≠ some true := fun h => by have := t.p1s k s h hk; rw [ha] at this; cases this
  have t1 : TV n E (pin.set k (e + 1)) (ss.set k none) pd := by
    refine ⟨by simp [t.lp], by simp [t.ls], t.lb, fun j p h => ?_, fun j s1 h => ?_, fun j p h hp => ?_, fun j s1 h hs1 => ?_, fun a s1 h ha1 he1 j p hj hd1 hp1 => ?_, fun j p s1 h ha1 h21 hp1 => ?_⟩
    · rcases get_set h with ⟨_, e⟩ | ⟨_, e⟩
      · omega
      · exact t.hp j p e
    · rcases get_set h with ⟨_, e⟩ | ⟨_, e⟩
      · cases e
      · exact t.sn j s1 e
    · rcases get_set hp with ⟨e2, _⟩ | ⟨_, e2⟩
      · subst e2; exact absurd h hpk
      · exact t.p1 j p h e2
    · rcases get_set hs1 with ⟨_, e⟩ | ⟨_, e⟩
      · cases e
      · exact t.p1s j s1 h e
    · rcases get_set h with ⟨_, e⟩ | ⟨_, e⟩
      · cases e
      · rcases get_set hp1 with ⟨e2, _⟩ | ⟨_, e2⟩
        · subst e2; exact absurd hd1 hpk
        · exact t.p2 a s1 e ha1 he1 j p hj hd1 e2
    · rcases get_set h with ⟨_, e⟩ | ⟨hj, e⟩
      · cases e
      · rcases get_set hp1 with ⟨e2, _⟩ | ⟨_, e2⟩
        · exact absurd e2 hj
        · exact t.p3 j p s1 e ha1 h21 e2
  subst hs'
  obtain ⟨h1, _, _, h4, h5⟩ := t.sn k s hk
  have hkl : k < pin.length := by rw [t.lp, ← t.ls]; exact (List.getElem?_eq_some_iff.1 hk).1
  refine ⟨t1.lp, by simp [t.ls], t.lb, t1.hp, fun j s1 h => ?_, t1.p1, fun j s1 h hs1 => ?_, fun a s1 h ha1 he1 j p hj hd1 hp1 => ?_, fun j p s1 h ha1 h21 hp1 => ?_⟩
  · rcases get_set h with ⟨rfl, e⟩ | ⟨hj, e⟩
    · cases e; exact ⟨rfl, ⟨_, he, heE⟩, by simp, fun _ => ⟨by simp, (h4 ha).2⟩, rfl⟩
    · exact t.sn j s1 e
  · rcases get_set hs1 with ⟨rfl, e⟩ | ⟨hj, e⟩
    · exact absurd h hpk
    · exact t.p1s j s1 h e
  · rcases get_set h with ⟨rfl, e⟩ | ⟨hj2, e⟩
    · cases e; cases ha1
    · exact t1.p2 a s1 (by rw [List.getElem?_set_ne (Ne.symm hj2)]; exact e) ha1 he1 j p hj hd1 hp1
  · rcases get_set h with ⟨rfl, e⟩ | ⟨hj, e⟩
    · cases e
      rw [List.getElem?_set_self hkl] at hp1
      have := Option.some.inj hp1
      simp only; omega
    · exact t1.p3 j p s1 (by rw [List.getElem?_set_ne (Ne.symm hj)]; exact e) ha1 h21 hp1
/-- a pin is done: who pins is pinned -/
theorem TV.done (t : TV n E pin ss pd) {k : Nat} {s : Es} (hk : ss[k]? = some (some s)) (ha : s.adv = false) (hp : s.pos = 2) (he : s.seen = (E : Int)) : TV n E pin (ss.set k none) (pd.set k true) := by
  have hpk : ∀ p, pin[k]? = some p → p = E + 1 := fun p h => by have := t.p3 k p s hk ha hp h; omega
  have t1 := t.drop k
  refine ⟨t.lp, t1.ls, by simp [t.lb], t.hp, t1.sn, fun j p h hpp => ?_, fun j s1 h hs1 => ?_, fun a s1 h ha1 he1 j p hj hd1 hp1 => ?_, t1.p3⟩
  · rcases get_set h with ⟨rfl, _⟩ | ⟨_, e⟩
    · have := hpk p hpp; omega
    · exact t.p1 j p e hpp
  · rcases get_set h with ⟨rfl, _⟩ | ⟨_, e⟩
    · rcases get_set hs1 with ⟨_, e⟩ | ⟨hj, _⟩
      · cases e
      · exact absurd rfl hj
    · exact t1.p1s j s1 e hs1
  · rcases get_set hd1 with ⟨rfl, _⟩ | ⟨_, e⟩
    · exact hpk p hp1
    · exact t1.p2 a s1 h ha1 he1 j p hj e hp1
/-- an advance wins -/
theorem TV.win (t : TV n E pin ss pd) {k : Nat} {s : Es} (hk : ss[k]? = some (some s)) (ha : s.adv = true) (hp : s.pos = n + 1) (he : s.seen = (E : Int)) : TV n (E + 1) pin (ss.set k none) pd := by
  have t1 := t.drop k
  refine ⟨t.lp, t1.ls, t.lb, fun j p h => by have := t.hp j p h; omega, fun j s1 h => ?_, fun j p h hpp => ?_, t1.p1s, fun a s1 h ha1 he1 j p hj hd1 hp1 => ?_, t1.p3⟩
  · obtain ⟨h1, ⟨e, h2, h3⟩, h4⟩ := t1.sn j s1 h
    exact ⟨h1, ⟨e, h2, by omega⟩, h4⟩
  · have hj : j < n := by rw [← t.lb]; exact (List.getElem?_eq_some_iff.1 h).1
    have := t.p2 k s hk ha he j p (by omega) h hpp
    omega
  · obtain ⟨_, ⟨e, h2, h3⟩, _⟩ := t1.sn a s1 h
    omega
end
/-- what was given up: when, and who was pinned then and is still -/
structure TG (E i : Nat) (pin : List Nat) (pd : List Bool) (sn : List (List Bool)) (G : List (List Th)) : Prop where
  at_ : ∀ (k : Nat) l t, G[k]? = some l → t ∈ l → ∃ a u : Nat, t.what = (a : Int) ∧ t.when = (u : Int) ∧ 1 ≤ a ∧ a ≤ i ∧ u ≤ E ∧ ∀ r (p : Nat), sn[a]? = some r → r[p]? = some true → pd[p]? = some true ∧ ∀ q, pin[p]? = some q → q ≤ u + 1
/-- who is pinned no more is taken out of all rows -/
def clr (k : Nat) (sn : List (List Bool)) : List (List Bool) := sn.map fun r => r.set k false
theorem clr_at {k a p : Nat} {sn : List (List Bool)} {r : List Bool} (h : (clr k sn)[a]? = some r) (hp : r[p]? = some true) : p ≠ k ∧ ∃ r0, sn[a]? = some r0 ∧ r0[p]? = some true := by
  unfold clr at h
  rw [List.getElem?_map] at h
  cases hr : sn[a]? with
  | none => rw [hr] at h; cases h
  | some r0 =>
    rw [hr] at h
    obtain rfl : r0.set k false = r := Option.some.inj h
    rcases get_set hp with ⟨_, e⟩ | ⟨hpk, e⟩
    · cases e
    · exact ⟨hpk, r0, rfl, e⟩
section
variable {n E i : Nat} {pin : List Nat} {ss : List (Option Es)} {pd : List Bool} {sn : List (List Bool)} {G : List (List Th)}
theorem TG.new (n : Nat) : TG 0 0 (List.replicate n 0) (List.replicate n false) (List.replicate 200 []) (List.replicate n []) :=
  ⟨fun k l t h ht => by have := (List.mem_replicate.1 (List.mem_of_getElem? h)).2; subst this; cases ht⟩
theorem TG.begP (t : TG E i pin pd sn G) (k : Nat) : TG E i pin (pd.set k false) (clr k sn) G := ⟨fun a l x h hx => by
  obtain ⟨c, u, h1, h2, h3, h4, h5, h6⟩ := t.at_ a l x h hx
  refine ⟨c, u, h1, h2, h3, h4, h5, fun r p hr hp => ?_⟩
  obtain ⟨hpk, r0, e1, e2⟩ := clr_at hr hp
  obtain ⟨q1, q2⟩ := h6 r0 p e1 e2
  exact ⟨by rw [List.getElem?_set_ne (Ne.symm hpk)]; exact q1, q2⟩⟩
theorem TG.unpin (t : TG E i pin pd sn G) (k : Nat) : TG E i (pin.set k 0) (pd.set k false) (clr k sn) G := ⟨fun a l x h hx => by
  obtain ⟨c, u, h1, h2, h3, h4, h5, h6⟩ := t.at_ a l x h hx
  refine ⟨c, u, h1, h2, h3, h4, h5, fun r p hr hp => ?_⟩
  obtain ⟨hpk, r0, e1, e2⟩ := clr_at hr hp
  obtain ⟨q1, q2⟩ := h6 r0 p e1 e2
  exact ⟨by rw [List.getElem?_set_ne (Ne.symm hpk)]; exact q1, fun q hq => q2 q (by rw [List.getElem?_set_ne (Ne.symm hpk)] at hq; exact hq)⟩⟩
theorem TG.done (t : TG E i pin pd sn G) (k : Nat) : TG E i pin (pd.set k true) sn G := ⟨fun a l x h hx => by
  obtain ⟨c, u, h1, h2, h3, h4, h5, h6⟩ := t.at_ a l x h hx
  refine ⟨c, u, h1, h2, h3, h4, h5, fun r p hr hp => ?_⟩
  obtain ⟨q1, q2⟩ := h6 r p hr hp
  refine ⟨?_, q2⟩
  by_cases hpk : p = k
  · subst hpk; rw [List.getElem?_set_self (List.getElem?_eq_some_iff.1 q1).1]
  · rw [List.getElem?_set_ne (Ne.symm hpk)]; exact q1⟩
theorem TG.store (t : TG E i pin pd sn G) (k q0 : Nat) (hk : pd[k]? ≠ some true) : TG E i (pin.set k q0) pd sn G := ⟨fun a l x h hx => by
  obtain ⟨c, u, h1, h2, h3, h4, h5, h6⟩ := t.at_ a l x h hx
  refine ⟨c, u, h1, h2, h3, h4, h5, fun r p hr hp => ?_⟩
  obtain ⟨q1, q2⟩ := h6 r p hr hp
  refine ⟨q1, fun q hq => q2 q ?_⟩
  by_cases hpk : p = k
  · subst hpk; exact absurd q1 hk
  · rw [List.getElem?_set_ne (Ne.symm hpk)] at hq; exact hq⟩
theorem TG.win (t : TG E i pin pd sn G) : TG (E + 1) i pin pd sn G := ⟨fun a l x h hx => by
  obtain ⟨c, u, h1, h2, h3, h4, h5, h6⟩ := t.at_ a l x h hx
  exact ⟨c, u, h1, h2, h3, h4, by omega, h6⟩⟩
theorem TG.next (t : TG E i pin pd sn G) : TG E (i + 1) pin pd sn G := ⟨fun a l x h hx => by
  obtain ⟨c, u, h1, h2, h3, h4, h5, h6⟩ := t.at_ a l x h hx
  exact ⟨c, u, h1, h2, h3, by omega, h5, h6⟩⟩
theorem TG.weak (t : TG E i pin pd sn G) {sn' : List (List Bool)} (hw : ∀ (a : Nat) r, sn'[a]? = some r → r = [] ∨ sn[a]? = some r) : TG E i pin pd sn' G := ⟨fun a l x h hx => by
  obtain ⟨c, u, h1, h2, h3, h4, h5, h6⟩ := t.at_ a l x h hx
  refine ⟨c, u, h1, h2, h3, h4, h5, fun r p hr hp => ?_⟩
  rcases hw c r hr with e | e
  · subst e; simp at hp
  · exact h6 r p e hp⟩
theorem TG.give (t : TG E i pin pd sn G) (v : TV n E pin ss pd) (k : Nat) (l : List Th) (hl : G[k]? = some l) : TG E (i + 1) pin pd (sn.set (i + 1) pd) (G.set k (l ++ [⟨((i + 1 : Nat) : Int), (E : Int)⟩])) := ⟨fun a l1 x h hx => by
  have old : ∀ l0, G[a]? = some l0 → x ∈ l0 → ∃ c u : Nat, x.what = (c : Int) ∧ x.when = (u : Int) ∧ 1 ≤ c ∧ c ≤ i + 1 ∧ u ≤ E ∧ ∀ r (p : Nat), (sn.set (i + 1) pd)[c]? = some r → r[p]? = some true → pd[p]? = some true ∧ ∀ q, pin[p]? = some q → q ≤ u + 1 := fun l0 h0 hx0 => by
    obtain ⟨c, u, h1, h2, h3, h4, h5, h6⟩ := t.at_ a l0 x h0 hx0
    exact ⟨c, u, h1, h2, h3, by omega, h5, fun r p hr hp => h6 r p (by rw [List.getElem?_set_ne (by omega)] at hr; exact hr) hp⟩
  rcases get_set h with ⟨rfl, e⟩ | ⟨_, e⟩
  · subst e
    rcases List.mem_append.1 hx with hx | hx
    · exact old l hl hx
    · obtain rfl : x = _ := List.mem_singleton.1 hx
      refine ⟨i + 1, E, rfl, rfl, by omega, by omega, by omega, fun r p hr hp => ?_⟩
      rcases get_set hr with ⟨_, e⟩ | ⟨hne, _⟩
      · subst e
        exact ⟨hp, fun q hq => (v.p1 p q hp hq).2.1⟩
      · exact absurd rfl hne
  · exact old l1 e hx⟩
theorem TG.take (t : TG E i pin pd sn G) (k : Nat) (l : List Th) (hl : G[k]? = some l) : TG E i pin pd sn (G.set k (leaves (E : Int) l)) := ⟨fun a l1 x h hx => by
  rcases get_set h with ⟨rfl, e⟩ | ⟨_, e⟩
  · subst e; exact t.at_ _ l x hl ((List.mem_filter.1 hx).1)
  · exact t.at_ a l1 x e hx⟩
/-- what may be used again wasn't given up while somebody was pinned who is still -/
theorem TG.safe (t : TG E i pin pd sn G) (v : TV n E pin ss pd) {k : Nat} {l : List Th} (hl : G[k]? = some l) {w : Int} (hw : w ∈ takes (E : Int) l) : ∃ a : Nat, w = (a : Int) ∧ a ≤ i ∧ ∀ r, sn[a]? = some r → ∀ p : Nat, r[p]? ≠ some true := by
  unfold takes at hw
  obtain ⟨x, hx, rfl⟩ := List.mem_map.1 hw
  obtain ⟨hx1, hx2⟩ := List.mem_filter.1 hx
  obtain ⟨c, u, h1, h2, h3, h4, h5, h6⟩ := t.at_ k l x hl hx1
  unfold Th.ripe at hx2
  rw [decide_eq_true_iff, h2] at hx2
  refine ⟨c, h1, h4, fun r hr p hp => ?_⟩
  obtain ⟨q1, q2⟩ := h6 r p hr hp
  have hpl : p < pin.length := by rw [v.lp, ← v.lb]; exact (List.getElem?_eq_some_iff.1 q1).1
  have hq := List.getElem?_eq_getElem hpl
  have := q2 _ hq
  have := v.p1 p _ q1 hq
  omega
end
/- Workers who read one cell while they are pinned, put another thing there, give up what was, and take what may be used again: plain. -/
/-- what a step of the package does -/
structure Does (n E k : Nat) (pin : List Nat) (ss : List (Option Es)) (pd : List Bool) (s s' : Es) (E' : Nat) (pin' : List Nat) : Prop where
  does : s.does n (cellsL E pin) = (s', cellsL E' pin')
  go : s'.done = false → s'.adv = s.adv ∧ TV n E' pin' (ss.set k (some s')) pd
  fin : s'.done = true → TV n E' pin' (ss.set k none) (if s.adv then pd else pd.set k true)
  le : E ≤ E' ∧ E' ≤ E + 1
  far : ∀ j : Nat, j ≠ k → pin'[j]? = pin[j]?
theorem does_any {n E k : Nat} {pin : List Nat} {ss : List (Option Es)} {pd : List Bool} {s : Es} (t : TV n E pin ss pd) (hk : ss[k]? = some (some s)) (hE : E ≤ 1000) (hn : 1 ≤ n ∧ n ≤ 64) :
    ∃ s' E' pin', Does n E k pin ss pd s s' E' pin' := by
  obtain ⟨hd, ⟨e, hse, hee⟩, ha, hp, hwon⟩ := t.sn k s hk
  have hkn : k < n := by rw [← t.ls]; exact (List.getElem?_eq_some_iff.1 hk).1
  have kp : k < pin.length := by rw [t.lp]; exact hkn
  have hpk : s.adv = false → pd[k]? ≠ some true := fun h1 h2 => by have := t.p1s k s h2 hk; rw [h1] at this; cases this
  obtain ⟨wk, av, pos, seen, dn, wn⟩ := s
  simp only at hd hse ha hp hwon hpk
  subst hd hwon hse
  have hw : ∀ x : Nat, x ≤ 2000 → IntKind.u64.wrap ((x : Int) + 1) = ((x + 1 : Nat) : Int) := fun x hx => by rw [IntKind.wrap_u64]; omega
  cases av with
  | true =>
    have hpos := ha rfl
    clear ha hp hpk
    rcases Nat.eq_zero_or_pos pos with rfl | hpos0
    · refine ⟨⟨wk, true, 1, (E : Int), false, false⟩, E, pin, ?_, fun _ => ⟨rfl, ?_⟩, fun h => (by cases h), by omega, fun _ _ => rfl⟩
      · simp [Es.does, Es.advs, cells0]
      · exact t.go hk rfl rfl rfl rfl ⟨E, rfl, by omega⟩ ⟨fun _ => by simp only; omega, fun h => (by cases h)⟩ (fun _ _ j p hj => by simp only at hj; omega) (fun h => (by cases h))
    · by_cases hle : pos ≤ n
      · obtain ⟨j, rfl⟩ : ∃ j, pos = j + 1 := ⟨pos - 1, by omega⟩
        obtain ⟨x, hx⟩ : ∃ x, pin[j]? = some x := ⟨_, List.getElem?_eq_getElem (by rw [t.lp]; omega)⟩
        have hxE := t.hp j x hx
        refine ⟨⟨wk, true, j + 1 + 1, (e : Int), decide (x ≠ 0 ∧ x ≠ e + 1), false⟩, E, pin, ?_, fun h => ⟨rfl, ?_⟩, fun _ => ?_, by omega, fun _ _ => rfl⟩
        · have hz : ¬ (j + 1 = 0) := by omega
          unfold Es.does
          simp only [if_true]
          unfold Es.advs
          simp only [hz, hle, if_true, if_false, cellsP' hx, hw e (by omega)]
          congr 2
          apply decide_eq_decide.2
          constructor
          · rintro ⟨h1, h2⟩; exact ⟨fun h => h1 (by omega), fun h => h2 (by omega)⟩
          · rintro ⟨h1, h2⟩; exact ⟨fun h => h1 (by omega), fun h => h2 (by omega)⟩
        · simp only at h
          refine t.go hk rfl h rfl rfl ⟨e, rfl, hee⟩ ⟨fun _ => by simp only; omega, fun h => (by cases h)⟩ (fun _ he j2 p hj hd1 hp1 => ?_) (fun h => (by cases h))
          simp only at he hj
          rcases Nat.lt_or_ge j2 j with h1 | h1
          · exact t.p2 k _ hk rfl he j2 p (by simp only; omega) hd1 hp1
          · obtain rfl : j2 = j := by omega
            obtain rfl : p = x := by rw [hx] at hp1; exact (Option.some.inj hp1).symm
            have hq := t.p1 j2 p hd1 hx
            have := of_decide_eq_false h
            have : p = e + 1 := Classical.byContradiction fun hne => this ⟨by omega, hne⟩
            omega
        · simp only [if_true]; exact t.drop k
      · obtain rfl : pos = n + 1 := by omega
        by_cases hes : E = e
        · subst hes
          refine ⟨⟨wk, true, n + 1 + 1, (E : Int), true, true⟩, E + 1, pin, ?_, fun h => (by cases h), fun _ => ?_, by omega, fun _ _ => rfl⟩
          · unfold Es.does
            simp only [if_true]
            unfold Es.advs
            simp only [show ¬ (n + 1 = 0) by omega, hle, if_false, cells0, if_true, hw E (by omega), cells_set0]
          · simp only [if_true]; exact t.win hk rfl rfl rfl
        · refine ⟨⟨wk, true, n + 1 + 1, (e : Int), true, false⟩, E, pin, ?_, fun h => (by cases h), fun _ => ?_, by omega, fun _ _ => rfl⟩
          · unfold Es.does
            simp only [if_true]
            unfold Es.advs
            simp only [show ¬ (n + 1 = 0) by omega, hle, if_false, cells0, show ¬ ((E : Int) = (e : Int)) by omega]
          · simp only [if_true]; exact t.drop k
  | false =>
    obtain ⟨hpos, hwk⟩ := hp rfl
    have hpk2 := hpk rfl
    subst hwk
    clear ha hp hpk
    have h3 : pos = 0 ∨ pos = 1 ∨ pos = 2 := by omega
    rcases h3 with rfl | rfl | rfl
    · refine ⟨⟨(k : Int), false, 1, (E : Int), false, false⟩, E, pin, ?_, fun _ => ⟨rfl, ?_⟩, fun h => (by cases h), by omega, fun _ _ => rfl⟩
      · simp [Es.does, Es.pins, cells0]
      · exact t.go hk rfl rfl rfl rfl ⟨E, rfl, by omega⟩ ⟨fun h => (by cases h), fun _ => by simp⟩ (fun h => (by cases h)) (fun _ h => (by simp at h))
    · refine ⟨⟨(k : Int), false, 2, (e : Int), false, false⟩, E, pin.set k (e + 1), ?_, fun _ => ⟨rfl, ?_⟩, fun h => (by cases h), by omega, fun j hj => List.getElem?_set_ne (Ne.symm hj)⟩
      · unfold Es.does
        simp only [Bool.false_eq_true, if_false]
        unfold Es.pins
        simp only [show ¬ (1 = 0) by omega, if_false, if_true, hw e (by omega), cells_setP kp]
      · exact t.store hk rfl rfl rfl hee _ rfl
    · by_cases hes : E = e
      · subst hes
        refine ⟨⟨(k : Int), false, 0, (E : Int), true, false⟩, E, pin, ?_, fun h => (by cases h), fun _ => ?_, by omega, fun _ _ => rfl⟩
        · unfold Es.does
          simp only [Bool.false_eq_true, if_false]
          unfold Es.pins
          simp [cells0]
        · simp only [Bool.false_eq_true, if_false]; exact t.done hk rfl rfl rfl
      · refine ⟨⟨(k : Int), false, 0, (e : Int), false, false⟩, E, pin, ?_, fun _ => ⟨rfl, ?_⟩, fun h => (by cases h), by omega, fun _ _ => rfl⟩
        · unfold Es.does
          simp only [Bool.false_eq_true, if_false]
          unfold Es.pins
          have hei : ¬ ((E : Int) = (e : Int)) := by omega
          simp [cells0, hei]
        · exact t.go hk rfl rfl rfl rfl ⟨e, rfl, hee⟩ ⟨fun h => (by cases h), fun _ => by simp⟩ (fun h => (by cases h)) (fun _ h => (by simp at h))
/-- who is pinned -/
def pdOf (at_ : List Nat) : List Bool := at_.map fun a => decide (2 ≤ a ∧ a ≤ 5)
theorem pdOf_set (at_ : List Nat) (k a : Nat) : pdOf (at_.set k a) = (pdOf at_).set k (decide (2 ≤ a ∧ a ≤ 5)) := by unfold pdOf; rw [List.map_set]
theorem pdOf_same {at_ : List Nat} {k a b : Nat} (h : at_[k]? = some b) (hab : decide (2 ≤ a ∧ a ≤ 5) = decide (2 ≤ b ∧ b ≤ 5)) : pdOf (at_.set k a) = pdOf at_ := by
  rw [pdOf_set, hab]
  have h2 : (pdOf at_)[k]? = some (decide (2 ≤ b ∧ b ≤ 5)) := by unfold pdOf; rw [List.getElem?_map, h]; rfl
  obtain ⟨hl, he⟩ := List.getElem?_eq_some_iff.1 h2
  rw [← he]; exact List.set_getElem_self hl
theorem pdOf_at {at_ : List Nat} {k a : Nat} (h : at_[k]? = some a) (ha : 2 ≤ a ∧ a ≤ 5) : (pdOf at_)[k]? = some true := by
  unfold pdOf; rw [List.getElem?_map, h]; simp [ha]
/-- what holds: `nx` is what is put next, `gv` who was given up, `tk` who was taken -/
structure FI (n E i : Nat) (pin : List Nat) (ss : List (Option Es)) (G : List (List Th)) (at_ rd : List Nat) (nx : Nat) (tk gv : Int → Int) : Prop where
  tv : TV n E pin ss (pdOf at_)
  la : at_.length = n
  lr : rd.length = n
  st : ∀ (k a : Nat), at_[k]? = some a → a ≤ 7 ∧ (a = 1 → ∃ s, ss[k]? = some (some s) ∧ s.adv = false) ∧ (a = 6 → ∃ s, ss[k]? = some (some s) ∧ s.adv = true) ∧ (a ≠ 1 → a ≠ 6 → ss[k]? = some none)
  r0 : ∀ (k a r : Nat), at_[k]? = some a → rd[k]? = some r → r ≠ 0 → 3 ≤ a ∧ a ≤ 5
  rb : ∀ (k r : Nat), rd[k]? = some r → r < nx
  n1 : 1 ≤ nx
  pe : ∀ (k r : Nat), at_[k]? = some 4 → rd[k]? = some r → 1 ≤ r ∧ r + 1 < nx ∧ gv r = 0
  pu : ∀ (j k r : Nat), j ≠ k → at_[j]? = some 4 → at_[k]? = some 4 → rd[j]? = some r → rd[k]? ≠ some r
  gz : ∀ r : Nat, nx ≤ r + 1 → gv r = 0
  gt : ∀ r : Nat, gv r = 0 → tk r = 0
  gg : ∀ (k : Nat) l x, G[k]? = some l → x ∈ l → ∃ a u : Nat, x.what = (a : Int) ∧ x.when = (u : Int) ∧ 1 ≤ a ∧ a + 1 < nx ∧ u ≤ E ∧ gv a = 1 ∧ tk a = 0 ∧ ∀ (o q : Nat), rd[o]? = some a → pin[o]? = some q → q ≤ u + 1
  g1 : ∀ (k : Nat) l, G[k]? = some l → (l.map Th.what).Nodup
  g2 : ∀ (j k : Nat) l l' x y, j ≠ k → G[j]? = some l → G[k]? = some l' → x ∈ l → y ∈ l' → x.what ≠ y.what
  sf : ∀ (o r : Nat), rd[o]? = some r → r ≠ 0 → tk r = 0
  eE : E ≤ i
  ni : nx ≤ i + 1
  gl : ∀ (k : Nat) l, G[k]? = some l → l.length ≤ i
theorem inj_of {l : List Th} : (l.map Th.what).Nodup → ∀ {x y : Th}, x ∈ l → y ∈ l → x.what = y.what → x = y := by
  induction l with
  | nil => intro _ x y h; cases h
  | cons a t ih =>
    intro h x y hx hy e
    rw [List.map_cons, List.nodup_cons] at h
    rcases List.mem_cons.1 hx with hx1 | hx1 <;> rcases List.mem_cons.1 hy with hy1 | hy1
    · rw [hx1, hy1]
    · exact absurd (List.mem_map.2 ⟨y, hy1, by rw [← e, hx1]⟩) h.1
    · exact absurd (List.mem_map.2 ⟨x, hx1, by rw [e, hy1]⟩) h.1
    · exact ih h.2 hx1 hy1 e
section
variable {n E E' i nx k a a0 r : Nat} {pin pin' : List Nat} {ss ss' : List (Option Es)} {G : List (List Th)} {at_ rd : List Nat} {tk gv : Int → Int} {l : List Th}
theorem set_same {α : Type} {l : List α} {k : Nat} {x : α} (h : l[k]? = some x) : l.set k x = l := by
  obtain ⟨hl, he⟩ := List.getElem?_eq_some_iff.1 h
  rw [← he]; exact List.set_getElem_self hl
theorem FI.new (hn : 1 ≤ n) : FI n 0 0 (List.replicate n 0) (List.replicate n none) (List.replicate n []) (List.replicate n 0) (List.replicate n 0) 1 (fun _ => 0) (fun _ => 0) := by
  have r : ∀ {α : Type} {x y : α} {j : Nat}, (List.replicate n x)[j]? = some y → y = x := fun h => (List.mem_replicate.1 (List.mem_of_getElem? h)).2
  refine ⟨?_, by simp, by simp, fun k a h => ?_, fun k a r0 h h2 h3 => absurd (r h2) h3, fun k r0 h => by have := r h; omega, by omega, fun k r0 h => (by cases r h), fun j k r0 _ h => (by cases r h), fun _ _ => rfl, fun _ _ => rfl, fun k l x h hx => ?_, fun k l h => ?_, fun j k l l' x y _ h _ hx => ?_, fun _ _ _ _ => rfl, by omega, by omega, fun k l h => ?_⟩
  · have : pdOf (List.replicate n 0) = List.replicate n false := by unfold pdOf; rw [List.map_replicate]; rfl
    rw [this]; exact TV.new n
  · obtain rfl := r h
    have hk : k < n := by simpa using (List.getElem?_eq_some_iff.1 h).1
    exact ⟨by omega, fun h => (by cases h), fun h => (by cases h), fun _ _ => by rw [List.getElem?_replicate]; simp [hk]⟩
  · rw [r h] at hx; cases hx
  · rw [r h]; simp
  · rw [r h] at hx; cases hx
  · rw [r h]; simp
theorem FI.next (p : FI n E i pin ss G at_ rd nx tk gv) : FI n E (i + 1) pin ss G at_ rd nx tk gv :=
  ⟨p.tv, p.la, p.lr, p.st, p.r0, p.rb, p.n1, p.pe, p.pu, p.gz, p.gt, p.gg, p.g1, p.g2, p.sf, by have := p.eE; omega, by have := p.ni; omega, fun k l h => by have := p.gl k l h; omega⟩
/-- a worker goes on, but that nothing is read, put or given -/
theorem FI.turn (p : FI n E i pin ss G at_ rd nx tk gv) (hk : at_[k]? = some a0) (ha4 : a ≠ 4) (tv : TV n E' pin' ss' (pdOf (at_.set k a))) (hss : ∀ j : Nat, j ≠ k → ss'[j]? = ss[j]?)
    (hst : a ≤ 7 ∧ (a = 1 → ∃ s, ss'[k]? = some (some s) ∧ s.adv = false) ∧ (a = 6 → ∃ s, ss'[k]? = some (some s) ∧ s.adv = true) ∧ (a ≠ 1 → a ≠ 6 → ss'[k]? = some none))
    (hr : ∀ r : Nat, rd[k]? = some r → r ≠ 0 → 3 ≤ a ∧ a ≤ 5) (hE : E ≤ E' ∧ E' ≤ i) (hpin : ∀ j : Nat, pin'[j]? = pin[j]? ∨ (j = k ∧ rd[k]? = some 0)) : FI n E' i pin' ss' G (at_.set k a) rd nx tk gv := by
  have at4 : ∀ j : Nat, (at_.set k a)[j]? = some 4 → at_[j]? = some 4 := fun j h => by
    rcases get_set h with ⟨_, e⟩ | ⟨_, e⟩
    · omega
    · exact e
  refine ⟨tv, by rw [List.length_set]; exact p.la, p.lr, fun j b h => ?_, fun j b r0 h h2 h3 => ?_, p.rb, p.n1, fun j r0 h => p.pe j r0 (at4 j h), fun j m r0 hjm h h' => p.pu j m r0 hjm (at4 j h) (at4 m h'), p.gz, p.gt, fun j l x h hx => ?_, p.g1, p.g2, p.sf, hE.2, p.ni, p.gl⟩
  · rcases get_set h with ⟨rfl, rfl⟩ | ⟨hj, e⟩
    · exact hst
    · rw [hss j hj]; exact p.st j b e
  · rcases get_set h with ⟨rfl, rfl⟩ | ⟨hj, e⟩
    · exact hr r0 h2 h3
    · exact p.r0 j b r0 e h2 h3
  · obtain ⟨c, u, h1, h2, h3, h4, h5, h6, h7, h8⟩ := p.gg j l x h hx
    refine ⟨c, u, h1, h2, h3, h4, by omega, h6, h7, fun o q ho hq => ?_⟩
    rcases hpin o with e | ⟨rfl, e⟩
    · rw [e] at hq; exact h8 o q ho hq
    · rw [ho] at e; injection e with e; omega
theorem FI.pd (p : FI n E i pin ss G at_ rd nx tk gv) {o : Nat} (h : rd[o]? = some r) (hr : r ≠ 0) : (pdOf at_)[o]? = some true := by
  have ho : o < at_.length := by rw [p.la, ← p.lr]; exact (List.getElem?_eq_some_iff.1 h).1
  have := p.r0 o _ r (List.getElem?_eq_getElem ho) h hr
  exact pdOf_at (List.getElem?_eq_getElem ho) (by omega)
theorem FI.read (p : FI n E i pin ss G at_ rd nx tk gv) (hk : at_[k]? = some 2) : FI n E i pin ss G (at_.set k 3) (rd.set k (nx - 1)) nx tk gv := by
  have n1 := p.n1
  have at4 : ∀ j : Nat, (at_.set k 3)[j]? = some 4 → j ≠ k ∧ at_[j]? = some 4 := fun j h => by
    rcases get_set h with ⟨_, e⟩ | ⟨h1, e⟩
    · omega
    · exact ⟨h1, e⟩
  have rdn : ∀ (j r0 : Nat), j ≠ k → (rd.set k (nx - 1))[j]? = some r0 → rd[j]? = some r0 := fun j r0 hj h => by rwa [List.getElem?_set_ne (Ne.symm hj)] at h
  refine ⟨by rw [pdOf_same hk (by decide)]; exact p.tv, by rw [List.length_set]; exact p.la, by rw [List.length_set]; exact p.lr, fun j b h => ?_, fun j b r0 h h2 h3 => ?_, fun j r0 h => ?_, p.n1, fun j r0 h h2 => ?_, fun j m r0 hjm h h' h2 h3 => ?_, p.gz, p.gt, fun j l x h hx => ?_, p.g1, p.g2, fun o r0 h h3 => ?_, p.eE, p.ni, p.gl⟩
  · rcases get_set h with ⟨rfl, rfl⟩ | ⟨hj, e⟩
    · exact ⟨by omega, fun h => (by cases h), fun h => (by cases h), fun _ _ => (p.st j 2 hk).2.2.2 (by omega) (by omega)⟩
    · exact p.st j b e
  · rcases get_set h with ⟨rfl, rfl⟩ | ⟨hj, e⟩
    · omega
    · exact p.r0 j b r0 e (rdn j r0 hj h2) h3
  · rcases get_set h with ⟨rfl, rfl⟩ | ⟨hj, e⟩
    · omega
    · exact p.rb j r0 e
  · obtain ⟨h1, e⟩ := at4 j h
    exact p.pe j r0 e (rdn j r0 h1 h2)
  · obtain ⟨h1, e⟩ := at4 j h
    obtain ⟨h1', e'⟩ := at4 m h'
    exact p.pu j m r0 hjm e e' (rdn j r0 h1 h2) (rdn m r0 h1' h3)
  · obtain ⟨c, u, h1, h2, h3, h4, h5, h6, h7, h8⟩ := p.gg j l x h hx
    refine ⟨c, u, h1, h2, h3, h4, h5, h6, h7, fun o q ho hq => ?_⟩
    rcases get_set ho with ⟨rfl, e⟩ | ⟨hj, e⟩
    · omega
    · exact h8 o q e hq
  · rcases get_set h with ⟨rfl, rfl⟩ | ⟨hj, e⟩
    · exact p.gt _ (p.gz _ (by omega))
    · exact p.sf o r0 e h3
theorem FI.cas (p : FI n E i pin ss G at_ rd nx tk gv) (hk : at_[k]? = some 3) (hr : rd[k]? = some r) (hrn : r + 1 = nx) (b : Nat) (hb : b = if r = 0 then 5 else 4) : FI n E (i + 1) pin ss G (at_.set k b) rd (nx + 1) tk gv := by
  have hb2 : b = 4 ∨ b = 5 := by rw [hb]; split <;> omega
  refine ⟨by rw [pdOf_same hk (by rcases hb2 with rfl | rfl <;> decide)]; exact p.tv, by rw [List.length_set]; exact p.la, p.lr, fun j c h => ?_, fun j c r0 h h2 h3 => ?_, fun j r0 h => by have := p.rb j r0 h; omega, by omega, fun j r0 h h2 => ?_, fun j m r0 hjm h h' h2 h3 => ?_, fun r0 h => p.gz r0 (by omega), p.gt, fun j l x h hx => ?_, p.g1, p.g2, p.sf, by have := p.eE; omega, by have := p.ni; omega, fun k l h => by have := p.gl k l h; omega⟩
  · rcases get_set h with ⟨rfl, rfl⟩ | ⟨hj, e⟩
    · exact ⟨by omega, fun h => by omega, fun h => by omega, fun _ _ => (p.st j 3 hk).2.2.2 (by omega) (by omega)⟩
    · exact p.st j c e
  · rcases get_set h with ⟨rfl, rfl⟩ | ⟨hj, e⟩
    · omega
    · exact p.r0 j c r0 e h2 h3
  · rcases get_set h with ⟨rfl, e⟩ | ⟨hj, e⟩
    · rw [hr] at h2; injection h2 with h2
      have : r ≠ 0 := fun h0 => by rw [if_pos h0] at hb; omega
      exact ⟨by omega, by omega, p.gz _ (by omega)⟩
    · obtain ⟨h1, h3, h4⟩ := p.pe j r0 e h2
      exact ⟨h1, by omega, h4⟩
  · rcases get_set h with ⟨rfl, e⟩ | ⟨hj, e⟩ <;> rcases get_set h' with ⟨rfl, e'⟩ | ⟨hj', e'⟩
    · exact hjm rfl
    · have := p.pe m r0 e' h3
      rw [hr] at h2; injection h2 with h2
      omega
    · have := p.pe j r0 e h2
      rw [hr] at h3; injection h3 with h3
      omega
    · exact p.pu j m r0 hjm e e' h2 h3
  · obtain ⟨c, u, h1, h2, h3, h4, h5⟩ := p.gg j l x h hx
    exact ⟨c, u, h1, h2, h3, by omega, h5⟩
theorem FI.give (p : FI n E i pin ss G at_ rd nx tk gv) (hk : at_[k]? = some 4) (hr : rd[k]? = some r) (hl : G[k]? = some l) :
    FI n E (i + 1) pin ss (G.set k (l ++ [⟨(r : Int), (E : Int)⟩])) (at_.set k 5) rd nx tk (fun x => if x = (r : Int) then 1 else gv x) := by
  obtain ⟨r1, r2, r3⟩ := p.pe k r hk hr
  have gne : ∀ x : Int, gv x = 1 → x ≠ r := fun x h e => by rw [e, r3] at h; omega
  have old : ∀ (j : Nat) l0 x, G[j]? = some l0 → x ∈ l0 → x.what ≠ r := fun j l0 x h hx => by
    obtain ⟨c, u, h1, _, _, _, _, h6, _⟩ := p.gg j l0 x h hx
    rw [h1]; exact gne _ h6
  refine ⟨by rw [pdOf_same hk (by decide)]; exact p.tv, by rw [List.length_set]; exact p.la, p.lr, fun j c h => ?_, fun j c r0 h h2 h3 => ?_, p.rb, p.n1, fun j r0 h h2 => ?_, fun j m r0 hjm h h' h2 h3 => ?_, fun r0 h => ?_, fun r0 h => ?_, fun j l1 x h hx => ?_, fun j l1 h => ?_, fun j m l1 l2 x y hjm h h' hx hy => ?_, p.sf, by have := p.eE; omega, by have := p.ni; omega, fun j l1 h => ?_⟩
  · rcases get_set h with ⟨rfl, rfl⟩ | ⟨hj, e⟩
    · exact ⟨by omega, fun h => by omega, fun h => by omega, fun _ _ => (p.st j 4 hk).2.2.2 (by omega) (by omega)⟩
    · exact p.st j c e
  · rcases get_set h with ⟨rfl, rfl⟩ | ⟨hj, e⟩
    · omega
    · exact p.r0 j c r0 e h2 h3
  · rcases get_set h with ⟨rfl, e⟩ | ⟨hj, e⟩
    · omega
    · obtain ⟨h1, h3, h4⟩ := p.pe j r0 e h2
      refine ⟨h1, h3, ?_⟩
      have : r0 ≠ r := fun e2 => by subst e2; exact p.pu j k r0 hj e hk h2 hr
      rw [if_neg (by omega)]; exact h4
  · rcases get_set h with ⟨_, e⟩ | ⟨_, e⟩
    · omega
    · rcases get_set h' with ⟨_, e'⟩ | ⟨_, e'⟩
      · omega
      · exact p.pu j m r0 hjm e e' h2 h3
  · show (if (r0 : Int) = (r : Int) then 1 else gv r0) = 0
    rw [if_neg (by omega)]; exact p.gz r0 h
  · refine p.gt r0 ?_
    by_cases e : (r0 : Int) = (r : Int)
    · simp only [e, if_true] at h; omega
    · simpa only [e, if_false] using h
  · have key : ∀ l0, G[j]? = some l0 → x ∈ l0 → ∃ a u : Nat, x.what = (a : Int) ∧ x.when = (u : Int) ∧ 1 ≤ a ∧ a + 1 < nx ∧ u ≤ E ∧ (if (a : Int) = (r : Int) then 1 else gv a) = 1 ∧ tk a = 0 ∧ ∀ (o q : Nat), rd[o]? = some a → pin[o]? = some q → q ≤ u + 1 := fun l0 h0 hx0 => by
      obtain ⟨c, u, h1, h2, h3, h4, h5, h6, h7⟩ := p.gg j l0 x h0 hx0
      exact ⟨c, u, h1, h2, h3, h4, h5, by rw [if_neg (gne _ h6)]; exact h6, h7⟩
    rcases get_set h with ⟨rfl, e⟩ | ⟨_, e⟩
    · subst e
      rcases List.mem_append.1 hx with hx | hx
      · exact key l hl hx
      · obtain rfl : x = _ := List.mem_singleton.1 hx
        refine ⟨r, E, rfl, rfl, r1, r2, Nat.le_refl _, if_pos rfl, p.gt r r3, fun o q ho hq => ?_⟩
        exact (p.tv.p1 o q (p.pd ho (by omega)) hq).2.1
    · exact key l1 e hx
  · rcases get_set h with ⟨rfl, e⟩ | ⟨_, e⟩
    · subst e
      rw [List.map_append, List.nodup_append]
      refine ⟨p.g1 j l hl, by simp, fun a ha b hb hab => ?_⟩
      obtain ⟨x, hx, rfl⟩ := List.mem_map.1 ha
      simp only [List.map_cons, List.map_nil, List.mem_singleton] at hb
      exact old j l x hl hx (hab.trans hb)
    · exact p.g1 j l1 e
  · rcases get_set h with ⟨rfl, e⟩ | ⟨hj, e⟩ <;> rcases get_set h' with ⟨rfl, e'⟩ | ⟨hj', e'⟩
    · exact absurd rfl hjm
    · subst e
      rcases List.mem_append.1 hx with hx | hx
      · exact p.g2 j m l l2 x y hjm hl e' hx hy
      · obtain rfl : x = _ := List.mem_singleton.1 hx
        exact Ne.symm (old m l2 y e' hy)
    · subst e'
      rcases List.mem_append.1 hy with hy | hy
      · exact p.g2 j m l1 l x y hjm e hl hx hy
      · obtain rfl : y = _ := List.mem_singleton.1 hy
        exact old j l1 x e hx
    · exact p.g2 j m l1 l2 x y hjm e e' hx hy
  · rcases get_set h with ⟨rfl, e⟩ | ⟨_, e⟩
    · subst e; have := p.gl j l hl; simp; omega
    · have := p.gl j l1 e; omega
theorem FI.unpin (p : FI n E i pin ss G at_ rd nx tk gv) (hk : at_[k]? = some 5) : FI n E i (pin.set k 0) (ss.set k (some ⟨0, true, 0, 0, false, false⟩)) G (at_.set k 6) (rd.set k 0) nx tk gv := by
  have hs := (p.st k 5 hk).2.2.2 (by omega) (by omega)
  have tv := (p.tv.unpin k hs).adv k
  have e6 : pdOf (at_.set k 6) = (pdOf at_).set k false := by rw [pdOf_set]; rfl
  rw [← e6] at tv
  have hkn : k < ss.length := (List.getElem?_eq_some_iff.1 hs).1
  have n1 := p.n1
  have at4 : ∀ j : Nat, (at_.set k 6)[j]? = some 4 → j ≠ k ∧ at_[j]? = some 4 := fun j h => by
    rcases get_set h with ⟨_, e⟩ | ⟨h1, e⟩
    · omega
    · exact ⟨h1, e⟩
  have rdn : ∀ (j r0 : Nat), j ≠ k → (rd.set k 0)[j]? = some r0 → rd[j]? = some r0 := fun j r0 hj h => by rwa [List.getElem?_set_ne (Ne.symm hj)] at h
  refine ⟨tv, by rw [List.length_set]; exact p.la, by rw [List.length_set]; exact p.lr, fun j b h => ?_, fun j b r0 h h2 h3 => ?_, fun j r0 h => ?_, p.n1, fun j r0 h h2 => ?_, fun j m r0 hjm h h' h2 h3 => ?_, p.gz, p.gt, fun j l x h hx => ?_, p.g1, p.g2, fun o r0 h h3 => ?_, p.eE, p.ni, p.gl⟩
  · rcases get_set h with ⟨rfl, rfl⟩ | ⟨hj, e⟩
    · exact ⟨by omega, fun h => by omega, fun _ => ⟨_, List.getElem?_set_self hkn, rfl⟩, fun _ h => absurd rfl h⟩
    · rw [List.getElem?_set_ne (Ne.symm hj)]; exact p.st j b e
  · rcases get_set h2 with ⟨rfl, rfl⟩ | ⟨hj, e⟩
    · exact absurd rfl h3
    · rcases get_set h with ⟨rfl, _⟩ | ⟨_, e2⟩
      · exact absurd rfl hj
      · exact p.r0 j b r0 e2 e h3
  · rcases get_set h with ⟨rfl, rfl⟩ | ⟨hj, e⟩
    · omega
    · exact p.rb j r0 e
  · obtain ⟨h1, e⟩ := at4 j h
    exact p.pe j r0 e (rdn j r0 h1 h2)
  · obtain ⟨h1, e⟩ := at4 j h
    obtain ⟨h1', e'⟩ := at4 m h'
    exact p.pu j m r0 hjm e e' (rdn j r0 h1 h2) (rdn m r0 h1' h3)
  · obtain ⟨c, u, h1, h2, h3, h4, h5, h6, h7, h8⟩ := p.gg j l x h hx
    refine ⟨c, u, h1, h2, h3, h4, h5, h6, h7, fun o q ho hq => ?_⟩
    rcases get_set ho with ⟨rfl, e⟩ | ⟨hj, e⟩
    · omega
    · rw [List.getElem?_set_ne (Ne.symm hj)] at hq
      exact h8 o q e hq
  · rcases get_set h with ⟨rfl, rfl⟩ | ⟨hj, e⟩
    · exact absurd rfl h3
    · exact p.sf o r0 e h3
/-- what is taken was given up, and not taken yet -/
theorem FI.took (p : FI n E i pin ss G at_ rd nx tk gv) (hl : G[k]? = some l) {y : Int} (hy : y ∈ takes (E : Int) l) : ∃ a : Nat, y = (a : Int) ∧ 1 ≤ a ∧ a + 1 < nx ∧ gv y = 1 ∧ tk y = 0 ∧ ∀ (o : Nat), rd[o]? ≠ some a := by
  unfold takes at hy
  obtain ⟨x, hx, rfl⟩ := List.mem_map.1 hy
  obtain ⟨hx1, hx2⟩ := List.mem_filter.1 hx
  obtain ⟨c, u, h1, h2, h3, h4, h5, h6, h7, h8⟩ := p.gg k l x hl hx1
  unfold Th.ripe at hx2
  rw [decide_eq_true_iff, h2] at hx2
  refine ⟨c, h1, h3, h4, by rw [h1]; exact h6, by rw [h1]; exact h7, fun o ho => ?_⟩
  have hpd := p.pd ho (by omega)
  have hpl : o < pin.length := by rw [p.tv.lp, ← p.tv.lb]; exact (List.getElem?_eq_some_iff.1 hpd).1
  have hq := List.getElem?_eq_getElem hpl
  have := h8 o _ ho hq
  have := p.tv.p1 o _ hpd hq
  omega
theorem FI.tnd (p : FI n E i pin ss G at_ rd nx tk gv) (hl : G[k]? = some l) : (takes (E : Int) l).Nodup := by
  have := p.g1 k l hl
  unfold takes
  exact this.sublist ((List.filter_sublist (l := l)).map _)
theorem FI.take (p : FI n E i pin ss G at_ rd nx tk gv) (hk : at_[k]? = some 7) (hl : G[k]? = some l) : FI n E i pin ss (G.set k (leaves (E : Int) l)) (at_.set k 0) rd nx (fun x => if x ∈ takes (E : Int) l then 1 else tk x) gv := by
  have hs := (p.st k 7 hk).2.2.2 (by omega) (by omega)
  have tk1 : ∀ x : Int, gv x = 0 → (if x ∈ takes (E : Int) l then 1 else tk x) = tk x := fun x h => if_neg fun hx => by
    obtain ⟨_, _, _, _, h1, _⟩ := p.took hl hx
    omega
  refine ⟨by rw [pdOf_same hk (by decide)]; exact p.tv, by rw [List.length_set]; exact p.la, p.lr, fun j c h => ?_, fun j c r0 h h2 h3 => ?_, p.rb, p.n1, fun j r0 h h2 => ?_, fun j m r0 hjm h h' h2 h3 => ?_, p.gz, fun r0 h => ?_, fun j l1 x h hx => ?_, fun j l1 h => ?_, fun j m l1 l2 x y hjm h h' hx hy => ?_, fun o r0 h h3 => ?_, p.eE, p.ni, fun j l1 h => ?_⟩
  · rcases get_set h with ⟨rfl, rfl⟩ | ⟨hj, e⟩
    · exact ⟨by omega, fun h => by omega, fun h => by omega, fun _ _ => hs⟩
    · exact p.st j c e
  · rcases get_set h with ⟨rfl, rfl⟩ | ⟨hj, e⟩
    · have := p.r0 j 7 r0 hk h2 h3; omega
    · exact p.r0 j c r0 e h2 h3
  · rcases get_set h with ⟨rfl, e⟩ | ⟨hj, e⟩
    · omega
    · exact p.pe j r0 e h2
  · rcases get_set h with ⟨_, e⟩ | ⟨_, e⟩
    · omega
    · rcases get_set h' with ⟨_, e'⟩ | ⟨_, e'⟩
      · omega
      · exact p.pu j m r0 hjm e e' h2 h3
  · show (if (r0 : Int) ∈ takes (E : Int) l then 1 else tk r0) = 0
    rw [tk1 _ h]; exact p.gt r0 h
  · have key : ∀ l0, G[j]? = some l0 → x ∈ l0 → x.what ∉ takes (E : Int) l → ∃ a u : Nat, x.what = (a : Int) ∧ x.when = (u : Int) ∧ 1 ≤ a ∧ a + 1 < nx ∧ u ≤ E ∧ gv a = 1 ∧ (if (a : Int) ∈ takes (E : Int) l then 1 else tk a) = 0 ∧ ∀ (o q : Nat), rd[o]? = some a → pin[o]? = some q → q ≤ u + 1 := fun l0 h0 hx0 hnt => by
      obtain ⟨c, u, h1, h2, h3, h4, h5, h6, h7, h8⟩ := p.gg j l0 x h0 hx0
      exact ⟨c, u, h1, h2, h3, h4, h5, h6, by rw [if_neg (by rw [← h1]; exact hnt)]; exact h7, h8⟩
    rcases get_set h with ⟨rfl, e⟩ | ⟨hj, e⟩
    · subst e
      obtain ⟨hx1, hx2⟩ := List.mem_filter.1 hx
      refine key l hl hx1 fun hx3 => ?_
      unfold takes at hx3
      obtain ⟨y, hy, hyx⟩ := List.mem_map.1 hx3
      obtain ⟨hy1, hy2⟩ := List.mem_filter.1 hy
      have hnd := p.g1 j l hl
      have : y = x := inj_of hnd hy1 hx1 hyx
      subst this
      rw [hy2] at hx2
      simp at hx2
    · refine key l1 e hx fun hx3 => ?_
      unfold takes at hx3
      obtain ⟨y, hy, hyx⟩ := List.mem_map.1 hx3
      exact p.g2 j k l1 l x y hj e hl hx (List.mem_filter.1 hy).1 hyx.symm
  · rcases get_set h with ⟨rfl, e⟩ | ⟨_, e⟩
    · subst e
      exact (p.g1 j l hl).sublist ((List.filter_sublist (l := l)).map _)
    · exact p.g1 j l1 e
  · have sub : ∀ {j : Nat} {l1 x}, (G.set k (leaves (E : Int) l))[j]? = some l1 → x ∈ l1 → ∃ l0, G[j]? = some l0 ∧ x ∈ l0 := fun {j l1 x} h hx => by
      rcases get_set h with ⟨rfl, e⟩ | ⟨_, e⟩
      · subst e; exact ⟨l, hl, (List.mem_filter.1 hx).1⟩
      · exact ⟨l1, e, hx⟩
    obtain ⟨a1, b1, c1⟩ := sub h hx
    obtain ⟨a2, b2, c2⟩ := sub h' hy
    exact p.g2 j m a1 a2 x y hjm b1 b2 c1 c2
  · show (if (r0 : Int) ∈ takes (E : Int) l then 1 else tk r0) = 0
    rw [if_neg (fun hx => by
      obtain ⟨a, h1, _, _, _, _, h2⟩ := p.took hl hx
      obtain rfl : r0 = a := by omega
      exact h2 o h)]
    exact p.sf o r0 h h3
  · rcases get_set h with ⟨rfl, e⟩ | ⟨_, e⟩
    · subst e; exact Nat.le_trans (leaves_len _ _) (p.gl j l hl)
    · exact p.gl j l1 e
end
end Go.Proofs.Ytlhfbmoodehoiaa
