/- The walks of package ring: gets, Do. -/
import Derived.Test.YtpkcajnlcpmmcaaRing
namespace Go.Proofs.Ytpkcajnlcpmmcaa
set_option linter.unusedVariables false
set_option linter.unusedSimpArgs false
open Go.RowKit
theorem RS.val {w0 W : World} {b g h sb : Nat} {P G : Option Addr} {r : Rg} {s : Stp} {x : Int} (k : RS w0 b g h sb P G r s W) : RS w0 b g h sb P G r ⟨s.get, s.pos, x, s.fin, s.done⟩ (W.setCell ⟨sb, 2, none⟩ (.int .u64 x)) :=
  k.fin (s' := ⟨s.get, s.pos, x, s.fin, s.done⟩) (Blk.set_ k.st 2 _) (Upd.one W sb 2 _)
set_option maxHeartbeats 1000000 in
theorem gets_any (b g h sb : Nat) (P G : Option Addr) (r : Rg) (s : Stp) (w : World) (rg : RgAt w b g h P G r) (st : StpAt w sb s) (hp : s.pos ≤ 2) :
    Calls Try.prog 25 #[.pointer (some ⟨b, 0, none⟩), .pointer (some ⟨sb, 0, none⟩)] w fun e w' => e = .returned (.tuple #[]) ∧ RS w b g h sb P G (r.gets s).1 (r.gets s).2 w' := by
  obtain ⟨hgb, hhb, hgh⟩ := rg.ne
  obtain ⟨hbs, hgs, hhs⟩ := rg.nes st
  have k : RS w b g h sb P G r s w := ⟨rg, st, Upd.refl _ _⟩
  have n1 := rg.n1
  have n2 := rg.n2
  have hl : r.L.length ≤ 65536 := by rw [rg.len]; omega
  have hhad := inr_u64 rg.hr
  have hgot := inr_u64 rg.gr
  have p1 := Blk.cell st 1
  have h3 : s.pos = 0 ∨ s.pos = 1 ∨ s.pos = 2 := by omega
  rcases h3 with h0 | h0 | h0
  · by_cases hful : celAt r.L 1 = r.got
    · rw [show r.gets s = (r, ⟨s.get, s.pos, s.v, 7, true⟩) by unfold Rg.gets; rw [if_pos h0, if_pos hful]]
      have hb : (celAt r.L 1 == r.got) = true := by simpa using hful
      clear hful
      rw [h0] at p1
      replace h0 := Lib.hid h0
      have z0 : ∀ t : Tw (RS w b g h sb P G r s), t.w.cell? ⟨b, 0, none⟩ = some (.pointer (some ⟨g, 0, none⟩)) := fun t => t.h.rg.obj.cell 0
      have z1 : ∀ t : Tw (RS w b g h sb P G r s), t.w.cell? ⟨b, 1, none⟩ = some (.int .u64 r.n) := fun t => t.h.rg.obj.cell 1
      have z4 : ∀ t : Tw (RS w b g h sb P G r s), t.w.cell? ⟨b, 4, none⟩ = some (.int .u64 (r).had) := fun t => t.h.rg.obj.cell 4
      have z5 : ∀ t : Tw (RS w b g h sb P G r s), t.w.cell? ⟨b, 5, none⟩ = some (.int .u64 (r).got) := fun t => t.h.rg.obj.cell 5
      have y2 : ∀ t : Tw (RS w b g h sb P G r s), t.w.cell? ⟨sb, 2, none⟩ = some (.int .u64 s.v) := fun t => Blk.cell t.h.st 2
      have : Nonempty (Tw (RS w b g h sb P G r s)) := ⟨⟨_, k⟩⟩
      go_enter Try.func25, Try.ntmps25
      go_wp2_with fail
      have hLd : ∀ (t : Tw (RS w b g h sb P G r s)) (i : Int), Calls Try.prog 27 #[.pointer (some ⟨g, 0, none⟩), .int .i64 i] t.w fun e w' => e = .returned (.int .u64 (celAt r.L i)) ∧ t.w = w' := fun t i => Load_any i g h r.L t.w t.h.rg.cel hl
      replace hLd := Lib.hid hLd
      refine region_tw (RS w b g h sb P G r s) (by kernel_rfl) (by kernel_rfl) k.drew ?_
      unfold clsS
      repeat (first
        | go_big_quiet_skip
        | (go_big_quiet_want; go_big_quiet_op; first | go_big_quiet_on | go_big_quiet_call (
          (go_at_call 27; exact q_tw_same (hLd.out _ _)))))
      refine wpQuiet_nil ?_
      intro tq
      have kt := tq.h
      generalize tq.w = w1 at *
      clear z0 z1 z4 z5 y2 this hLd tq
      go_wp2_with fail
      refine (finish_any 7 sb s w1 kt.st).mono ?_
      rintro e w2 ⟨rfl, st2, up2⟩
      go_wp2_with fail
      go_end0
      exact ⟨rfl, kt.fin st2 up2⟩
    · rw [show r.gets s = (r, s) by unfold Rg.gets; rw [if_pos h0, if_neg hful]]
      have hb : (celAt r.L 1 == r.got) = false := by simpa using hful
      clear hful
      rw [h0] at p1
      replace h0 := Lib.hid h0
      have z0 : ∀ t : Tw (RS w b g h sb P G r s), t.w.cell? ⟨b, 0, none⟩ = some (.pointer (some ⟨g, 0, none⟩)) := fun t => t.h.rg.obj.cell 0
      have z1 : ∀ t : Tw (RS w b g h sb P G r s), t.w.cell? ⟨b, 1, none⟩ = some (.int .u64 r.n) := fun t => t.h.rg.obj.cell 1
      have z4 : ∀ t : Tw (RS w b g h sb P G r s), t.w.cell? ⟨b, 4, none⟩ = some (.int .u64 (r).had) := fun t => t.h.rg.obj.cell 4
      have z5 : ∀ t : Tw (RS w b g h sb P G r s), t.w.cell? ⟨b, 5, none⟩ = some (.int .u64 (r).got) := fun t => t.h.rg.obj.cell 5
      have y2 : ∀ t : Tw (RS w b g h sb P G r s), t.w.cell? ⟨sb, 2, none⟩ = some (.int .u64 s.v) := fun t => Blk.cell t.h.st 2
      have : Nonempty (Tw (RS w b g h sb P G r s)) := ⟨⟨_, k⟩⟩
      go_enter Try.func25, Try.ntmps25
      go_wp2_with fail
      have hLd : ∀ (t : Tw (RS w b g h sb P G r s)) (i : Int), Calls Try.prog 27 #[.pointer (some ⟨g, 0, none⟩), .int .i64 i] t.w fun e w' => e = .returned (.int .u64 (celAt r.L i)) ∧ t.w = w' := fun t i => Load_any i g h r.L t.w t.h.rg.cel hl
      replace hLd := Lib.hid hLd
      refine region_tw (RS w b g h sb P G r s) (by kernel_rfl) (by kernel_rfl) k.drew ?_
      unfold clsS
      repeat (first
        | go_big_quiet_skip
        | (go_big_quiet_want; go_big_quiet_op; first | go_big_quiet_on | go_big_quiet_call (
          (go_at_call 27; exact q_tw_same (hLd.out _ _)))))
      refine wpQuiet_nil ?_
      intro tq
      have kt := tq.h
      generalize tq.w = w1 at *
      clear z0 z1 z4 z5 y2 this hLd tq
      go_wp2_with fail
      go_end0
      exact ⟨rfl, kt⟩
  · rw [show r.gets s = (r, ⟨s.get, s.pos, celAt r.L (r.slot r.got), s.fin, s.done⟩) by unfold Rg.gets; rw [if_neg (by omega), if_pos h0]]
    rw [h0] at p1
    replace h0 := Lib.hid h0
    have q2 := Blk.cell st 2
    have f2 := Blk.frozen st 2
    have z0 : ∀ t : Tw (RSx w b g h sb P G r s), t.w.cell? ⟨b, 0, none⟩ = some (.pointer (some ⟨g, 0, none⟩)) := fun t => by obtain ⟨L, hL⟩ := t.h; exact hL.rg.obj.cell 0
    have z1 : ∀ t : Tw (RSx w b g h sb P G r s), t.w.cell? ⟨b, 1, none⟩ = some (.int .u64 r.n) := fun t => by obtain ⟨L, hL⟩ := t.h; exact hL.rg.obj.cell 1
    have z4 : ∀ t : Tw (RSx w b g h sb P G r s), t.w.cell? ⟨b, 4, none⟩ = some (.int .u64 (r).had) := fun t => by obtain ⟨L, hL⟩ := t.h; exact hL.rg.obj.cell 4
    have z5 : ∀ t : Tw (RSx w b g h sb P G r s), t.w.cell? ⟨b, 5, none⟩ = some (.int .u64 (r).got) := fun t => by obtain ⟨L, hL⟩ := t.h; exact hL.rg.obj.cell 5
    have y2 : ∀ t : Tw (RSx w b g h sb P G r s), t.w.cell? ⟨sb, 2, none⟩ = some (.int .u64 s.v) := fun t => by obtain ⟨L, hL⟩ := t.h; exact Blk.cell hL.st 2
    have : Nonempty (Tw (RSx w b g h sb P G r s)) := ⟨⟨_, _, k⟩⟩
    go_enter Try.func25, Try.ntmps25
    go_wp2_with fail
    have S0 : ∀ x, RSx w b g h sb P G r ⟨s.get, s.pos, x, s.fin, s.done⟩ (w.drew.setCell ⟨sb, 2, none⟩ (.int .u64 x)) := fun x => ⟨_, k.drew.val⟩
    refine wp_region_plan (fun W => ∃ x, RSx w b g h sb P G r ⟨s.get, s.pos, x, s.fin, s.done⟩ W) [(0, true), (1, true), (2, true), (3, true), (4, true), (5, true), (6, true), (7, true), (8, true), (9, true), (10, false), (11, false), (12, true), (13, true), (14, false)] (by kernel_rfl) (by kernel_rfl) (by kernel_rfl) (by kernel_rfl) ⟨_, _, k.drew⟩ ?_
    clear z0 z1 z4 z5 y2 this
    have z0 : ∀ t : Tw (fun W => ∃ x, RSx w b g h sb P G r ⟨s.get, s.pos, x, s.fin, s.done⟩ W), t.w.cell? ⟨b, 0, none⟩ = some (.pointer (some ⟨g, 0, none⟩)) := fun t => by obtain ⟨x, L, hL⟩ := t.h; exact hL.rg.obj.cell 0
    have z5 : ∀ t : Tw (fun W => ∃ x, RSx w b g h sb P G r ⟨s.get, s.pos, x, s.fin, s.done⟩ W), t.w.cell? ⟨b, 5, none⟩ = some (.int .u64 r.got) := fun t => by obtain ⟨x, L, hL⟩ := t.h; exact hL.rg.obj.cell 5
    have : Nonempty (Tw (fun W => ∃ x, RSx w b g h sb P G r ⟨s.get, s.pos, x, s.fin, s.done⟩ W)) := ⟨⟨_, _, _, k⟩⟩
    refine wpPl_qs 10 _ _ _ (by kernel_rfl) (by kernel_rfl) (by simp) ?_
    unfold clsS
    simp only [List.take_succ_cons, List.take_zero, List.drop_succ_cons, List.drop_zero, List.filterMap_cons, List.filterMap_nil, List.getElem?_toArray, List.getElem?_cons_zero, List.getElem?_cons_succ]
    repeat (first
      | go_big_quiet_skip
      | (go_big_quiet_want; go_big_quiet_op; go_big_quiet_on)
      | (refine id (?_ : wpQuiet _ _ _ _ (_ :: _) _); first | go_big_quiet_skip | (go_big_quiet_want; go_big_quiet_op; go_big_quiet_on)))
    refine wpQuiet_nil ?_
    refine wpPl_e _ (by rfl) (by kernel_rfl) (fun K hK => ?_)
    go_simp
    refine (place_any r.got b g h P G r _ k.drew.rg hgot.1).mono ?_
    rintro e w1 ⟨rfl, rfl⟩
    refine hK _ _ ⟨_, _, k.drew⟩ ?_
    clear hK K
    refine wpPl_e _ (by rfl) (by kernel_rfl) (fun K hK => ?_)
    go_simp
    refine (Load_any (r.slot r.got) g h r.L _ k.drew.rg.cel hl).mono ?_
    rintro e w1 ⟨rfl, rfl⟩
    refine hK _ _ ⟨_, _, k.drew⟩ ?_
    clear hK K
    refine wpPl_qs 2 _ _ _ (by kernel_rfl) (by kernel_rfl) (by simp) ?_
    unfold clsS
    simp only [List.take_succ_cons, List.take_zero, List.drop_succ_cons, List.drop_zero, List.filterMap_cons, List.filterMap_nil, List.getElem?_toArray, List.getElem?_cons_zero, List.getElem?_cons_succ]
    repeat (first
      | go_big_quiet_skip
      | (go_big_quiet_want; go_big_quiet_op; go_big_quiet_on)
      | (refine id (?_ : wpQuiet _ _ _ _ (_ :: _) _); first | go_big_quiet_skip | (go_big_quiet_want; go_big_quiet_op; go_big_quiet_on)))
    refine wpQuiet_nil ?_
    refine wpPl_e _ (by rfl) (by kernel_rfl) (fun K hK => ?_)
    go_simp
    refine hK _ _ ⟨_, S0 _⟩ ?_
    clear hK K
    unfold wpPl
    refine NoPanic.normal ?_
    clear z0 z5 this
    go_wp2_with fail
    go_end0
    exact ⟨rfl, k.drew.val⟩
  · rw [show r.gets s = (⟨r.n, r.had, IntKind.u64.wrap (r.got + 1), celSet r.L 0 (IntKind.u64.wrap (r.got + 1))⟩, ⟨s.get, s.pos, s.v, 0, true⟩) by unfold Rg.gets; rw [if_neg (by omega), if_neg (by omega)]]
    rw [h0] at p1
    replace h0 := Lib.hid h0
    have e4 := rg.obj.cell 5
    have f4 := rg.obj.frozen 5
    have hwi := wrap_inr (r.got + 1)
    go_enter Try.func25, Try.ntmps25
    go_upto_region 2 with fail
    have k1 := k.gotten hwi
    clear e4 f4 p1
    generalize w.setCell ⟨b, 5, none⟩ (.int .u64 (IntKind.u64.wrap (r.got + 1))) = W1 at *
    have z0 : ∀ t : Tw (RSx w b g h sb P G (⟨r.n, r.had, IntKind.u64.wrap (r.got + 1), r.L⟩ : Rg) s), t.w.cell? ⟨b, 0, none⟩ = some (.pointer (some ⟨g, 0, none⟩)) := fun t => by obtain ⟨L, hL⟩ := t.h; exact hL.rg.obj.cell 0
    have z1 : ∀ t : Tw (RSx w b g h sb P G (⟨r.n, r.had, IntKind.u64.wrap (r.got + 1), r.L⟩ : Rg) s), t.w.cell? ⟨b, 1, none⟩ = some (.int .u64 r.n) := fun t => by obtain ⟨L, hL⟩ := t.h; exact hL.rg.obj.cell 1
    have z4 : ∀ t : Tw (RSx w b g h sb P G (⟨r.n, r.had, IntKind.u64.wrap (r.got + 1), r.L⟩ : Rg) s), t.w.cell? ⟨b, 4, none⟩ = some (.int .u64 ((⟨r.n, r.had, IntKind.u64.wrap (r.got + 1), r.L⟩ : Rg)).had) := fun t => by obtain ⟨L, hL⟩ := t.h; exact hL.rg.obj.cell 4
    have z5 : ∀ t : Tw (RSx w b g h sb P G (⟨r.n, r.had, IntKind.u64.wrap (r.got + 1), r.L⟩ : Rg) s), t.w.cell? ⟨b, 5, none⟩ = some (.int .u64 ((⟨r.n, r.had, IntKind.u64.wrap (r.got + 1), r.L⟩ : Rg)).got) := fun t => by obtain ⟨L, hL⟩ := t.h; exact hL.rg.obj.cell 5
    have y2 : ∀ t : Tw (RSx w b g h sb P G (⟨r.n, r.had, IntKind.u64.wrap (r.got + 1), r.L⟩ : Rg) s), t.w.cell? ⟨sb, 2, none⟩ = some (.int .u64 s.v) := fun t => by obtain ⟨L, hL⟩ := t.h; exact Blk.cell hL.st 2
    have : Nonempty (Tw (RSx w b g h sb P G (⟨r.n, r.had, IntKind.u64.wrap (r.got + 1), r.L⟩ : Rg) s)) := ⟨⟨_, _, k1⟩⟩
    refine wp_region_plan (RSx w b g h sb P G (⟨r.n, r.had, IntKind.u64.wrap (r.got + 1), r.L⟩ : Rg) s) [(0, true), (1, true), (2, true), (3, true), (4, true), (5, true), (6, true), (7, true), (8, false)] (by kernel_rfl) (by kernel_rfl) (by kernel_rfl) (by kernel_rfl) ⟨_, k1.drew⟩ ?_
    refine wpPl_qs 8 _ _ _ (by kernel_rfl) (by kernel_rfl) (by simp) ?_
    unfold clsS
    simp only [List.take_succ_cons, List.take_zero, List.drop_succ_cons, List.drop_zero, List.filterMap_cons, List.filterMap_nil, List.getElem?_toArray, List.getElem?_cons_zero, List.getElem?_cons_succ]
    repeat (first
      | go_big_quiet_skip
      | (go_big_quiet_want; go_big_quiet_op; go_big_quiet_on)
      | (refine id (?_ : wpQuiet _ _ _ _ (_ :: _) _); first | go_big_quiet_skip | (go_big_quiet_want; go_big_quiet_op; go_big_quiet_on)))
    refine wpQuiet_nil ?_
    refine wpPl_e _ (by rfl) (by kernel_rfl) (fun K hK => ?_)
    go_simp
    refine (Store_any 0 (IntKind.u64.wrap (r.got + 1)) g h r.L _ k1.drew.rg.cel hl hwi).mono ?_
    rintro e w2 ⟨rfl, hc2, up2⟩
    have k2 := k1.drew.store hc2 (celSet_length _ _ _) up2
    refine hK _ _ ⟨_, k2⟩ ?_
    clear hK K
    unfold wpPl
    refine NoPanic.normal ?_
    clear z0 z1 z4 z5 y2 this
    go_wp2_with fail
    refine (finish_any 0 sb s w2 k2.st).mono ?_
    rintro e w3 ⟨rfl, st3, up3⟩
    go_wp2_with fail
    go_end0
    exact ⟨rfl, k2.fin st3 up3⟩
end Go.Proofs.Ytpkcajnlcpmmcaa
