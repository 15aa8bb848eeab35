/- The walks of package epoch: the steps. -/
import Derived.Test.YtfcldnojmmhekaaEpochPlain
import Derived.Test.YtfcldnojmmhekaaPlan
import Derived.Deep.DeepCutAuto
namespace Go.Proofs.Ytfcldnojmmhekaa
set_option linter.unusedVariables false
set_option linter.unusedSimpArgs false
open Go.RowKit
/-- a step in memory -/
def EsAt (w : World) (b : Nat) (s : Es) : Prop := Blk w b 68 #[.int .i64 s.worker, .bool s.adv, .int .i64 s.pos, .int .u64 s.seen, .bool s.done, .bool s.won]
/-- epochs in memory: their cells at g, h; the row of what was given up at gr -/
structure EpAt (w : World) (b g h gr n : Nat) (L : List Int) : Prop where
  obj : Blk w b 66 #[.pointer (some ⟨g, 0, none⟩), .slice (some ⟨gr, 0, none⟩) n n]
  cel : Cel w g h L
  len : L.length = n + 1
  n1 : 1 ≤ n
  n2 : n ≤ 64
theorem EpAt.upd {S : Nat → Prop} {w w' : World} {b g h gr n : Nat} {L : List Int} (k : EpAt w b g h gr n L) (hu : Upd S w w') (h1 : ¬ S b) (h2 : ¬ S g) (h3 : ¬ S h) : EpAt w' b g h gr n L :=
  ⟨k.obj.upd hu h1, k.cel.upd hu h2 h3, k.len, k.n1, k.n2⟩
theorem EpAt.bel {w w' : World} {b g h gr n : Nat} {L : List Int} (k : EpAt w b g h gr n L) (hb : Below w.heap.size w w') : EpAt w' b g h gr n L := ⟨k.obj.bel hb, k.cel.bel hb, k.len, k.n1, k.n2⟩
theorem EpAt.drew {w : World} {b g h gr n : Nat} {L : List Int} (k : EpAt w b g h gr n L) : EpAt w.drew b g h gr n L := ⟨k.obj, k.cel.drew, k.len, k.n1, k.n2⟩
theorem EpAt.ne {w : World} {b g h gr n : Nat} {L : List Int} (k : EpAt w b g h gr n L) : g ≠ b ∧ h ≠ b ∧ g ≠ h := by
  obtain ⟨_, _, _, ho⟩ := k.cel.obj
  exact ⟨ho.ne_ k.obj (by decide), k.cel.row.ne_ k.obj (by decide), k.cel.ne⟩
theorem EpAt.nes {w : World} {b g h gr n sb : Nat} {L : List Int} {s : Es} (k : EpAt w b g h gr n L) (ks : EsAt w sb s) : b ≠ sb ∧ g ≠ sb ∧ h ≠ sb := by
  obtain ⟨_, _, _, ho⟩ := k.cel.obj
  exact ⟨k.obj.ne_ ks (by decide), ho.ne_ ks (by decide), k.cel.row.ne_ ks (by decide)⟩
/-- the worlds in which epochs and step lie -/
structure ES (w0 : World) (b g h gr n sb : Nat) (s : Es) (L : List Int) (W : World) : Prop where
  ep : EpAt W b g h gr n L
  st : EsAt W sb s
  upd : Upd (fun x => x = h ∨ x = sb) w0 W
theorem ES.drew {w0 W : World} {b g h gr n sb : Nat} {s : Es} {L : List Int} (k : ES w0 b g h gr n sb s L W) : ES w0 b g h gr n sb s L W.drew := ⟨k.ep.drew, Blk.drew k.st, k.upd.drew⟩
theorem ES.fin {w0 W W' : World} {b g h gr n sb : Nat} {s s' : Es} {L : List Int} (k : ES w0 b g h gr n sb s L W) (st : EsAt W' sb s') (up : Upd (fun x => x = sb) W W') : ES w0 b g h gr n sb s' L W' := by
  obtain ⟨hbs, hgs, hhs⟩ := k.ep.nes k.st
  exact ⟨k.ep.upd up hbs hgs hhs, st, k.upd.trans (up.mono fun x _ e => .inr e)⟩
theorem ES.store {w0 W W' : World} {b g h gr n sb : Nat} {s : Es} {L L' : List Int} (k : ES w0 b g h gr n sb s L W) (hc : Cel W' g h L') (hL : L'.length = L.length) (up : Upd (fun x => x = h) W W') : ES w0 b g h gr n sb s L' W' := by
  obtain ⟨hbs, hgs, hhs⟩ := k.ep.nes k.st
  obtain ⟨hgb, hhb, hgh⟩ := k.ep.ne
  exact ⟨⟨k.ep.obj.upd up (Ne.symm hhb), hc, by rw [hL]; exact k.ep.len, k.ep.n1, k.ep.n2⟩, Blk.upd (S := (· = h)) k.st up (Ne.symm hhs), k.upd.trans (up.mono fun x _ e => .inl e)⟩
/-- a field of the step is stored -/
theorem ES.fld {w0 W : World} {b g h gr n sb : Nat} {s s' : Es} {L : List Int} (k : ES w0 b g h gr n sb s L W) (i : Nat) (u : Value) (hs : (#[.int .i64 s.worker, .bool s.adv, .int .i64 s.pos, .int .u64 s.seen, .bool s.done, .bool s.won]).setIfInBounds i u = #[.int .i64 s'.worker, .bool s'.adv, .int .i64 s'.pos, .int .u64 s'.seen, .bool s'.done, .bool s'.won]) : ES w0 b g h gr n sb s' L (W.setCell ⟨sb, i, none⟩ u) :=
  k.fin (by unfold EsAt; rw [← hs]; exact Blk.set_ k.st i u) (Upd.one W sb i u)
theorem celR {w : World} {g h : Nat} {l : List Int} (hc : Cel w g h l) (i : Int) : inr .u64 (celAt l i) := by
  unfold celAt
  split
  · rename_i h; exact u64_inr (hc.at_ (k := i.toNat) (by omega)).2.2
  · exact u64_inr (by omega)
def ESx (w0 : World) (b g h gr n sb : Nat) (s : Es) (W : World) : Prop := ∃ (L2 : List Int) (wn : Bool), ES w0 b g h gr n sb ⟨s.worker, s.adv, s.pos, s.seen, s.done, wn⟩ L2 W
set_option maxHeartbeats 4000000 in
theorem advance_any (b g h gr n sb : Nat) (s : Es) (L : List Int) (w : World) (ep : EpAt w b g h gr n L) (st : EsAt w sb s) (hp : s.pos ≤ 1000) :
    Calls Try.prog 32 #[.pointer (some ⟨b, 0, none⟩), .pointer (some ⟨sb, 0, none⟩)] w fun e w' => e = .returned (.tuple #[]) ∧ ES w b g h gr n sb (s.advs n L).1 (s.advs n L).2 w' := by
  have k : ES w b g h gr n sb s L w := ⟨ep, st, Upd.refl _ _⟩
  have n2 := ep.n2
  have hl : L.length ≤ 65536 := by rw [ep.len]; omega
  have p2 := Blk.cell st 2
  have f2 := Blk.frozen st 2
  have f3 := Blk.frozen st 3
  have p3 := Blk.cell st 3
  have b0 := ep.obj.cell 0
  have hwp : wrap64 ((s.pos : Int) + 1) = (s.pos : Int) + 1 := IntWalk.wrap64_in _ (by omega)
  obtain ⟨hbs, hgs, hhs⟩ := ep.nes st
  by_cases h0 : s.pos = 0
  · rw [show s.advs n L = (⟨s.worker, s.adv, 1, celAt L 0, s.done, s.won⟩, L) by unfold Es.advs; rw [if_pos h0]]
    have k1 := k.fld (s' := ⟨s.worker, s.adv, s.pos, celAt L 0, s.done, s.won⟩) 3 (.int .u64 (celAt L 0)) rfl
    have k2 := k1.fld (s' := ⟨s.worker, s.adv, 1, celAt L 0, s.done, s.won⟩) 2 (.int .i64 1) (by simp)
    have x2 := Blk.cell k1.st 2
    have g2 := Blk.frozen k1.st 2
    simp only [h0] at p2 x2
    clear hwp
    replace h0 := Lib.hid h0
    go_enter Try.func32, Try.ntmps32
    go_wp2_with fail
    refine (Load_any 0 g h L _ ep.cel hl).mono ?_
    rintro e w1 ⟨rfl, rfl⟩
    go_wp2_with fail
    go_end0
    exact ⟨rfl, k2⟩
  · have hn0 : ((s.pos : Int) == 0) = false := by simp; omega
    have z0 : ∀ t : Tw (ES w b g h gr n sb s L), t.w.cell? ⟨b, 0, none⟩ = some (.pointer (some ⟨g, 0, none⟩)) := fun t => t.h.ep.obj.cell 0
    have z1 : ∀ t : Tw (ES w b g h gr n sb s L), t.w.cell? ⟨b, 1, none⟩ = some (.slice (some ⟨gr, 0, none⟩) n n) := fun t => t.h.ep.obj.cell 1
    have y0 : ∀ t : Tw (ES w b g h gr n sb s L), t.w.cell? ⟨sb, 0, none⟩ = some (.int .i64 s.worker) := fun t => Blk.cell t.h.st 0
    have y2 : ∀ t : Tw (ES w b g h gr n sb s L), t.w.cell? ⟨sb, 2, none⟩ = some (.int .i64 s.pos) := fun t => Blk.cell t.h.st 2
    have y3 : ∀ t : Tw (ES w b g h gr n sb s L), t.w.cell? ⟨sb, 3, none⟩ = some (.int .u64 s.seen) := fun t => Blk.cell t.h.st 3
    have : Nonempty (Tw (ES w b g h gr n sb s L)) := ⟨⟨w, k⟩⟩
    have hLd : ∀ (t : Tw (ES w b g h gr n sb s L)) (i : Int), Calls Try.prog 34 #[.pointer (some ⟨g, 0, none⟩), .int .i64 i] t.w fun e w' => e = .returned (.int .u64 (celAt L i)) ∧ t.w = w' := fun t i => Load_any i g h L t.w t.h.ep.cel hl
    replace hLd := Lib.hid hLd
    by_cases hle : s.pos ≤ n
    · have hdl : decide ((s.pos : Int) ≤ (n : Int)) = true := by simp; omega
      have hdl2 : decide (s.pos ≤ n) = true := by simpa using hle
      obtain ⟨p, hpp⟩ : ∃ p, p = celAt L s.pos := ⟨_, rfl⟩
      obtain ⟨D, hD⟩ : ∃ D, D = decide (p ≠ 0 ∧ p ≠ IntKind.u64.wrap (s.seen + 1)) := ⟨_, rfl⟩
      rw [show s.advs n L = (⟨s.worker, s.adv, s.pos + 1, s.seen, D, s.won⟩, L) by unfold Es.advs; rw [if_neg h0, if_pos hle, hD, hpp]]
      replace hpp := Lib.hid hpp
      replace hD := Lib.hid hD
      go_enter Try.func32, Try.ntmps32
      go_wp2_with fail
      refine region_tw (ES w b g h gr n sb s L) (by kernel_rfl) (by kernel_rfl) (k).drew ?_
      unfold clsS
      repeat (first
        | go_big_quiet_skip
        | (go_big_quiet_want; go_big_quiet_op; first | go_big_quiet_on | go_big_quiet_call (
          (go_at_call 34; exact q_tw_same (hLd.out _ _)))))
      refine wpQuiet_nil ?_
      intro tq
      have k1 := tq.h
      generalize tq.w = W1 at *
      clear tq
      go_wp2_with fail
      refine region_tw (ES w b g h gr n sb s L) (by kernel_rfl) (by kernel_rfl) (k1).drew ?_
      unfold clsS
      repeat (first
        | go_big_quiet_skip
        | (go_big_quiet_want; go_big_quiet_op; first | go_big_quiet_on | go_big_quiet_call (
          (go_at_call 34; exact q_tw_same (hLd.out _ _)))))
      refine wpQuiet_nil ?_
      intro tq
      have k2 := tq.h
      rw [← hpp.out]
      generalize tq.w = W2 at *
      clear z0 z1 y0 y2 y3 this hLd tq k1
      have q2 := Blk.cell k2.st 2
      have q3 := Blk.cell k2.st 3
      have q4 := Blk.cell k2.st 4
      have r4 := Blk.frozen k2.st 4
      have k3 := k2.fld (s' := ⟨s.worker, s.adv, s.pos, s.seen, D, s.won⟩) 4 (.bool D) rfl
      have k4 := k3.fld (s' := ⟨s.worker, s.adv, s.pos + 1, s.seen, D, s.won⟩) 2 (.int .i64 ((s.pos : Int) + 1)) (by simp)
      have x2 := Blk.cell k3.st 2
      have g2 := Blk.frozen k3.st 2
      clear p2 p3 f2 f3 b0
      by_cases hz : p = 0
      · have hDf : D = false := by rw [hD.out]; simp [hz]
        subst hDf hz
        go_wp2_with fail
        go_end0
        exact ⟨rfl, k4⟩
      · by_cases hq : p = IntKind.u64.wrap (s.seen + 1)
        · have hDf : D = false := by rw [hD.out]; simp [hq]
          have hz1 : (p != 0) = true := by simpa using hz
          have hq1 : (p != IntKind.u64.wrap (s.seen + 1)) = false := by simpa using hq
          subst hDf
          clear hz hq
          go_wp2_with fail
          go_end0
          exact ⟨rfl, k4⟩
        · have hDf : D = true := by rw [hD.out]; simp [hq, hz]
          have hz1 : (p != 0) = true := by simpa using hz
          have hq1 : (p != IntKind.u64.wrap (s.seen + 1)) = true := by simpa using hq
          subst hDf
          clear hz hq
          go_wp2_with fail
          go_end0
          exact ⟨rfl, k4⟩
    · have hdl : decide ((s.pos : Int) ≤ (n : Int)) = false := by simp; omega
      have hdl2 : decide (s.pos ≤ n) = false := by simp; omega
      have hc0 : 0 ≤ (0 : Int) ∧ (0 : Int) < L.length := ⟨by omega, by have := ep.len; omega⟩
      obtain ⟨D, hD⟩ : ∃ D, D = decide (celAt L 0 = s.seen) := ⟨_, rfl⟩
      obtain ⟨L', hL'⟩ : ∃ L', L' = (if 0 ≤ (0 : Int) ∧ (0 : Int) < L.length ∧ celAt L 0 = s.seen then celSet L 0 (IntKind.u64.wrap (s.seen + 1)) else L) := ⟨_, rfl⟩
      have hLl : L'.length = L.length := by rw [hL']; split; exact celSet_length _ _ _; rfl
      rw [show s.advs n L = (⟨s.worker, s.adv, s.pos + 1, s.seen, true, D⟩, L') by
        unfold Es.advs
        rw [if_neg h0, if_neg hle]
        by_cases hq : celAt L 0 = s.seen
        · rw [if_pos hq, hD, hL', if_pos ⟨hc0.1, hc0.2, hq⟩, decide_eq_true hq]
        · rw [if_neg hq, hD, hL', if_neg (fun hh => hq hh.2.2), decide_eq_false hq]]
      have hDC : decide (0 ≤ (0 : Int) ∧ (0 : Int) < L.length ∧ celAt L 0 = s.seen) = D := by
        rw [hD]; congr 1; apply propext; exact ⟨fun h => h.2.2, fun h => ⟨hc0.1, hc0.2, h⟩⟩
      have hwi : inr .u64 (IntKind.u64.wrap (s.seen + 1)) := by rw [IntKind.wrap_u64]; exact u64_inr (by omega)
      replace hD := Lib.hid hD
      replace hL' := Lib.hid hL'
      replace hDC := Lib.hid hDC
      clear hc0
      go_enter Try.func32, Try.ntmps32
      go_wp2_with fail
      refine region_tw (ES w b g h gr n sb s L) (by kernel_rfl) (by kernel_rfl) (k).drew ?_
      unfold clsS
      repeat (first
        | go_big_quiet_skip
        | (go_big_quiet_want; go_big_quiet_op; first | go_big_quiet_on | go_big_quiet_call (
          (go_at_call 34; exact q_tw_same (hLd.out _ _)))))
      refine wpQuiet_nil ?_
      intro tq
      have k1 := tq.h
      generalize tq.w = W1 at *
      clear tq
      go_wp2_with fail
      clear z0 z1 y0 y2 y3 this hLd
      have z0 : ∀ t : Tw (ESx w b g h gr n sb s), t.w.cell? ⟨b, 0, none⟩ = some (.pointer (some ⟨g, 0, none⟩)) := fun t => by obtain ⟨L2, wn, hx⟩ := t.h; exact hx.ep.obj.cell 0
      have y3 : ∀ t : Tw (ESx w b g h gr n sb s), t.w.cell? ⟨sb, 3, none⟩ = some (.int .u64 s.seen) := fun t => by obtain ⟨L2, wn, hx⟩ := t.h; exact Blk.cell hx.st 3
      have : Nonempty (Tw (ESx w b g h gr n sb s)) := ⟨⟨_, _, s.won, k1⟩⟩
      refine wp_region_plan (ESx w b g h gr n sb s) [(0, true), (1, true), (2, true), (3, true), (4, true), (5, true), (6, true), (7, true), (8, true), (9, true), (10, true), (11, true), (12, true), (13, true), (14, false), (15, true), (16, true), (17, false)] (by kernel_rfl) (by kernel_rfl) (by kernel_rfl) (by kernel_rfl) ⟨_, s.won, k1.drew⟩ ?_
      refine wpPl_qs 14 _ _ _ (by kernel_rfl) (by kernel_rfl) (by simp) ?_
      unfold clsS
      simp only [List.take_succ_cons, List.take_zero, List.drop_succ_cons, List.drop_zero, List.filterMap_cons, List.filterMap_nil, List.getElem?_toArray, List.getElem?_cons_zero, List.getElem?_cons_succ]
      repeat (first
        | go_big_quiet_skip
        | (go_big_quiet_want; go_big_quiet_op; go_big_quiet_on)
        | (refine id (?_ : wpQuiet _ _ _ _ (_ :: _) _); first | go_big_quiet_skip | (go_big_quiet_want; go_big_quiet_op; go_big_quiet_on)))
      refine wpQuiet_nil ?_
      refine wpPl_e _ (by rfl) (by kernel_rfl) (fun K hK => ?_)
      go_simp
      refine (Cas_any 0 s.seen (IntKind.u64.wrap (s.seen + 1)) g h L _ k1.drew.ep.cel hl hwi).mono ?_
      rintro e w2 ⟨rfl, hc2, up2⟩
      rw [hDC.out]
      rw [← hL'.out] at hc2
      have k2 := k1.drew.store hc2 hLl up2
      refine hK _ _ ⟨_, s.won, k2⟩ ?_
      clear hK K
      refine wpPl_qs 2 _ _ _ (by kernel_rfl) (by kernel_rfl) (by simp) ?_
      unfold clsS
      simp only [List.take_succ_cons, List.take_zero, List.drop_succ_cons, List.drop_zero, List.filterMap_cons, List.filterMap_nil, List.getElem?_toArray, List.getElem?_cons_zero, List.getElem?_cons_succ]
      repeat (first
        | go_big_quiet_skip
        | (go_big_quiet_want; go_big_quiet_op; go_big_quiet_on)
        | (refine id (?_ : wpQuiet _ _ _ _ (_ :: _) _); first | go_big_quiet_skip | (go_big_quiet_want; go_big_quiet_op; go_big_quiet_on)))
      refine wpQuiet_nil ?_
      have q5 := Blk.cell k2.st 5
      have r5 := Blk.frozen k2.st 5
      have k3 := k2.fld (s' := ⟨s.worker, s.adv, s.pos, s.seen, s.done, D⟩) 5 (.bool D) rfl
      refine wpPl_e _ (by rfl) (by kernel_rfl) (fun K hK => ?_)
      go_simp
      refine hK _ _ ⟨_, D, k3⟩ ?_
      clear hK K
      unfold wpPl
      refine NoPanic.normal ?_
      clear z0 y3 this p2 p3 f2 f3 b0 q5 r5
      generalize w2.setCell ⟨sb, 5, none⟩ (.bool D) = W3 at *
      have q4 := Blk.cell k3.st 4
      have r4 := Blk.frozen k3.st 4
      have k4 := k3.fld (s' := ⟨s.worker, s.adv, s.pos, s.seen, true, D⟩) 4 (.bool true) rfl
      have q2 := Blk.cell k4.st 2
      have r2 := Blk.frozen k4.st 2
      have k5 := k4.fld (s' := ⟨s.worker, s.adv, s.pos + 1, s.seen, true, D⟩) 2 (.int .i64 ((s.pos : Int) + 1)) (by simp)
      go_wp2_with fail
      go_end0
      exact ⟨rfl, k5⟩
end Go.Proofs.Ytfcldnojmmhekaa
