/- The walks of package epoch: a Pin's step; Do. -/
import Derived.Test.YtfcldnojmmhekaaEpoch
namespace Go.Proofs.Ytfcldnojmmhekaa
set_option linter.unusedVariables false
set_option linter.unusedSimpArgs false
open Go.RowKit
def ESy (w0 : World) (b g h gr n sb : Nat) (s : Es) (W : World) : Prop := ∃ (L2 : List Int) (dn : Bool), ES w0 b g h gr n sb ⟨s.worker, s.adv, s.pos, s.seen, dn, s.won⟩ L2 W
set_option maxHeartbeats 1000000 in
theorem pin_any (b g h gr n sb : Nat) (s : Es) (L : List Int) (w : World) (ep : EpAt w b g h gr n L) (st : EsAt w sb s) (hp : s.pos ≤ 2) (hw : 0 ≤ s.worker ∧ s.worker < n) :
    Calls Try.prog 33 #[.pointer (some ⟨b, 0, none⟩), .pointer (some ⟨sb, 0, none⟩)] w fun e w' => e = .returned (.tuple #[]) ∧ ES w b g h gr n sb (s.pins L).1 (s.pins L).2 w' := by
  have k : ES w b g h gr n sb s L w := ⟨ep, st, Upd.refl _ _⟩
  have n2 := ep.n2
  have hl : L.length ≤ 65536 := by rw [ep.len]; omega
  have p2 := Blk.cell st 2
  have f3 := Blk.frozen st 3
  have p3 := Blk.cell st 3
  have b0 := ep.obj.cell 0
  obtain ⟨hbs, hgs, hhs⟩ := ep.nes st
  have h3 : s.pos = 0 ∨ s.pos = 1 ∨ s.pos = 2 := by omega
  rcases h3 with h0 | h0 | h0
  · rw [show s.pins L = (⟨s.worker, s.adv, 1, celAt L 0, s.done, s.won⟩, L) by unfold Es.pins; rw [if_pos h0]]
    have k1 := k.fld (s' := ⟨s.worker, s.adv, s.pos, celAt L 0, s.done, s.won⟩) 3 (.int .u64 (celAt L 0)) rfl
    have k2 := k1.fld (s' := ⟨s.worker, s.adv, 1, celAt L 0, s.done, s.won⟩) 2 (.int .i64 1) (by simp)
    have x2 := Blk.cell k1.st 2
    have g2 := Blk.frozen k1.st 2
    simp only [h0] at p2 x2
    replace h0 := Lib.hid h0
    go_enter Try.func33, Try.ntmps33
    go_wp2_with fail
    refine (Load_any 0 g h L _ ep.cel hl).mono ?_
    rintro e w1 ⟨rfl, rfl⟩
    go_wp2_with fail
    go_end0
    exact ⟨rfl, k2⟩
  · rw [show s.pins L = (⟨s.worker, s.adv, 2, s.seen, s.done, s.won⟩, celSet L (1 + s.worker) (IntKind.u64.wrap (s.seen + 1))) by unfold Es.pins; rw [if_neg (by omega), if_pos h0]]
    have hwi : inr .u64 (IntKind.u64.wrap (s.seen + 1)) := by rw [IntKind.wrap_u64]; exact u64_inr (by omega)
    have hww : wrap64 (1 + s.worker) = 1 + s.worker := IntWalk.wrap64_in _ (by omega)
    have z0 : ∀ t : Tw (ESy w b g h gr n sb s), t.w.cell? ⟨b, 0, none⟩ = some (.pointer (some ⟨g, 0, none⟩)) := fun t => by obtain ⟨L2, wn, hx⟩ := t.h; exact hx.ep.obj.cell 0
    have y0 : ∀ t : Tw (ESy w b g h gr n sb s), t.w.cell? ⟨sb, 0, none⟩ = some (.int .i64 s.worker) := fun t => by obtain ⟨L2, wn, hx⟩ := t.h; exact Blk.cell hx.st 0
    have y3 : ∀ t : Tw (ESy w b g h gr n sb s), t.w.cell? ⟨sb, 3, none⟩ = some (.int .u64 s.seen) := fun t => by obtain ⟨L2, wn, hx⟩ := t.h; exact Blk.cell hx.st 3
    have : Nonempty (Tw (ESy w b g h gr n sb s)) := ⟨⟨_, _, s.done, k⟩⟩
    rw [h0] at p2
    have h1 := h0
    replace h0 := Lib.hid h0
    clear h1
    go_enter Try.func33, Try.ntmps33
    go_wp2_with fail
    refine wp_region_plan (ESy w b g h gr n sb s) [(0, true), (1, true), (2, true), (3, true), (4, true), (5, true), (6, true), (7, true), (8, true), (9, true), (10, true), (11, true), (12, true), (13, true), (14, false)] (by kernel_rfl) (by kernel_rfl) (by kernel_rfl) (by kernel_rfl) ⟨_, s.done, k.drew⟩ ?_
    refine wpPl_qs 14 _ _ _ (by kernel_rfl) (by kernel_rfl) (by simp) ?_
    unfold clsS
    simp only [List.take_succ_cons, List.take_zero, List.drop_succ_cons, List.drop_zero, List.filterMap_cons, List.filterMap_nil, List.getElem?_toArray, List.getElem?_cons_zero, List.getElem?_cons_succ]
    repeat (first
      | go_big_quiet_skip
      | (go_big_quiet_want; go_big_quiet_op; go_big_quiet_on)
      | (refine id (?_ : wpQuiet _ _ _ _ (_ :: _) _); first | go_big_quiet_skip | (go_big_quiet_want; go_big_quiet_op; go_big_quiet_on)))
    refine wpQuiet_nil ?_
    refine wpPl_e _ (by rfl) (by kernel_rfl) (fun K hK => ?_)
    go_simp
    refine (Store_any (1 + s.worker) (IntKind.u64.wrap (s.seen + 1)) g h L _ k.drew.ep.cel hl hwi).mono ?_
    rintro e w2 ⟨rfl, hc2, up2⟩
    have k2 := k.drew.store hc2 (celSet_length _ _ _) up2
    refine hK _ _ ⟨_, s.done, k2⟩ ?_
    clear hK K
    unfold wpPl
    refine NoPanic.normal ?_
    clear z0 y0 y3 this p2 p3 f3 b0
    have q2 := Blk.cell k2.st 2
    have r2 := Blk.frozen k2.st 2
    rw [h0.out] at q2
    have k3 := k2.fld (s' := ⟨s.worker, s.adv, 2, s.seen, s.done, s.won⟩) 2 (.int .i64 2) (by simp)
    go_wp2_with fail
    go_end0
    exact ⟨rfl, k3⟩
  · obtain ⟨D, hD⟩ : ∃ D, D = decide (celAt L 0 = s.seen) := ⟨_, rfl⟩
    have hDb : (celAt L 0 == s.seen) = D := by rw [hD]; rfl
    rw [show s.pins L = (⟨s.worker, s.adv, 0, s.seen, D, s.won⟩, L) by unfold Es.pins; rw [if_neg (by omega), if_neg (by omega), hD]]
    replace hD := Lib.hid hD
    have z0 : ∀ t : Tw (ESy w b g h gr n sb s), t.w.cell? ⟨b, 0, none⟩ = some (.pointer (some ⟨g, 0, none⟩)) := fun t => by obtain ⟨L2, wn, hx⟩ := t.h; exact hx.ep.obj.cell 0
    have y0 : ∀ t : Tw (ESy w b g h gr n sb s), t.w.cell? ⟨sb, 0, none⟩ = some (.int .i64 s.worker) := fun t => by obtain ⟨L2, wn, hx⟩ := t.h; exact Blk.cell hx.st 0
    have y3 : ∀ t : Tw (ESy w b g h gr n sb s), t.w.cell? ⟨sb, 3, none⟩ = some (.int .u64 s.seen) := fun t => by obtain ⟨L2, wn, hx⟩ := t.h; exact Blk.cell hx.st 3
    have : Nonempty (Tw (ESy w b g h gr n sb s)) := ⟨⟨_, _, s.done, k⟩⟩
    rw [h0] at p2
    replace h0 := Lib.hid h0
    obtain ⟨c0, hc0⟩ : ∃ c0, c0 = celAt L 0 := ⟨_, rfl⟩
    rw [← hc0] at hDb
    replace hc0 := Lib.hid hc0
    go_enter Try.func33, Try.ntmps33
    go_wp2_with fail
    refine wp_region_plan (ESy w b g h gr n sb s) [(0, true), (1, true), (2, true), (3, true), (4, true), (6, true), (7, true), (8, true), (9, true), (5, false), (10, true), (11, true), (12, true), (13, false)] (by kernel_rfl) (by kernel_rfl) (by kernel_rfl) (by kernel_rfl) ⟨_, s.done, k.drew⟩ ?_
    refine wpPl_qs 9 _ _ _ (by kernel_rfl) (by kernel_rfl) (by simp) ?_
    unfold clsS
    simp only [List.take_succ_cons, List.take_zero, List.drop_succ_cons, List.drop_zero, List.filterMap_cons, List.filterMap_nil, List.getElem?_toArray, List.getElem?_cons_zero, List.getElem?_cons_succ]
    repeat (first
      | go_big_quiet_skip
      | (go_big_quiet_want; go_big_quiet_op; go_big_quiet_on)
      | (refine id (?_ : wpQuiet _ _ _ _ (_ :: _) _); first | go_big_quiet_skip | (go_big_quiet_want; go_big_quiet_op; go_big_quiet_on)))
    refine wpQuiet_nil ?_
    refine wpPl_e _ (by rfl) (by kernel_rfl) (fun K hK => ?_)
    go_simp
    refine (Load_any 0 g h L _ k.drew.ep.cel hl).mono ?_
    rw [← hc0.out]
    rintro e w2 ⟨rfl, rfl⟩
    refine hK _ _ ⟨_, s.done, k.drew⟩ ?_
    clear hK K
    refine wpPl_qs 3 _ _ _ (by kernel_rfl) (by kernel_rfl) (by simp) ?_
    unfold clsS
    simp only [List.take_succ_cons, List.take_zero, List.drop_succ_cons, List.drop_zero, List.filterMap_cons, List.filterMap_nil, List.getElem?_toArray, List.getElem?_cons_zero, List.getElem?_cons_succ]
    repeat (first
      | go_big_quiet_skip
      | (go_big_quiet_want; go_big_quiet_op; go_big_quiet_on)
      | (refine id (?_ : wpQuiet _ _ _ _ (_ :: _) _); first | go_big_quiet_skip | (go_big_quiet_want; go_big_quiet_op; go_big_quiet_on)))
    refine wpQuiet_nil ?_
    have q4 := Blk.cell k.drew.st 4
    have r4 := Blk.frozen k.drew.st 4
    have k3 := (k.fld (s' := ⟨s.worker, s.adv, s.pos, s.seen, D, s.won⟩) 4 (.bool D) rfl).drew
    refine wpPl_e _ (by rfl) (by kernel_rfl) (fun K hK => ?_)
    go_simp
    refine hK _ _ ⟨_, D, k3⟩ ?_
    clear hK K
    unfold wpPl
    refine NoPanic.normal ?_
    clear z0 y0 y3 this p2 p3 f3 b0 q4 r4
    generalize (w.setCell ⟨sb, 4, none⟩ (.bool D)).drew = W3 at *
    have q2 := Blk.cell k3.st 2
    have r2 := Blk.frozen k3.st 2
    have st4 : Blk ((W3.setCell ⟨sb, 2, none⟩ (.int .i64 (-1))).setCell ⟨sb, 2, none⟩ (.int .i64 0)) sb 68 _ := (Blk.set_ k3.st 2 (.int .i64 (-1))).set_ 2 (.int .i64 0)
    have x2 : (W3.setCell ⟨sb, 2, none⟩ (.int .i64 (-1))).cell? ⟨sb, 2, none⟩ = some (.int .i64 (-1)) := (Blk.set_ k3.st 2 (.int .i64 (-1))).cell 2
    have g2 := (Blk.set_ k3.st 2 (.int .i64 (-1))).frozen 2
    have up4 : Upd (fun x => x = sb) W3 ((W3.setCell ⟨sb, 2, none⟩ (.int .i64 (-1))).setCell ⟨sb, 2, none⟩ (.int .i64 0)) := (Upd.one W3 sb 2 _).setCell (p := ⟨sb, 2, none⟩) (fun _ => rfl) _
    have k4 := k3.fin (s' := ⟨s.worker, s.adv, 0, s.seen, D, s.won⟩) (by unfold EsAt; simpa using st4) up4
    go_wp2_with fail
    go_end0
    exact ⟨rfl, k4⟩
end Go.Proofs.Ytfcldnojmmhekaa
