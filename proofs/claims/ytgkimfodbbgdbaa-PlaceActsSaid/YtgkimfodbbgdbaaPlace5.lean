/- The walk of the laws' helper: moves. -/
import Derived.Test.YtgkimfodbbgdbaaPlace4
namespace Go.Proofs.Ytgkimfodbbgdbaa
set_option linter.unusedVariables false
set_option linter.unusedSimpArgs false
open Go.RowKit
set_option maxHeartbeats 400000 in
theorem moves_any (w : World) :
    Calls Try.prog 12 #[] w fun e w' => e = .returned (.bool true) ∧ Below w.heap.size w w' := by
  go_enter Try.func12, Try.ntmps12
  go_wp2_with fail
  refine (PlNew_yes 2 _ (by omega) (by omega)).mono ?_
  rintro e w1 ⟨p, g, h, rfl, bel1, hh, hp1⟩
  go_wp2_with fail
  have hN : (Wd.mk 2 5 1 120).num = 515396403458 := by decide +kernel
  have hK : (Wd.mk 2 5 1 120).ok := by decide +kernel
  refine (Pack_any 2 5 1 120 _).mono ?_
  rw [if_pos hK, if_pos hK, hN]
  rintro e w2 ⟨rfl, b2⟩
  have kA := ((Blk.new w1 28 #[.int .i64 1, .int .i64 1, .int .i64 0, .int .i64 5]).alloc (.cells #[.int .i64 2, .int .i64 1, .int .i64 0, .int .i64 5] 28)).bel b2
  have kB := (Blk.new1 w1 (.cells #[.int .i64 1, .int .i64 1, .int .i64 0, .int .i64 5] 28) 28 #[.int .i64 2, .int .i64 1, .int .i64 0, .int .i64 5]).bel b2
  have bw : Below w.heap.size w w2 := bel_after (bel_after bel1 ((bel_alloc w1 (.cells #[.int .i64 1, .int .i64 1, .int .i64 0, .int .i64 5] 28)).alloc (by simp) (.cells #[.int .i64 2, .int .i64 1, .int .i64 0, .int .i64 5] 28))) b2
  have hp2 : Pl w2 p g h 2 [0, 0, 0, 0] := ((hp1.alloc (.cells #[.int .i64 1, .int .i64 1, .int .i64 0, .int .i64 5] 28)).alloc (.cells #[.int .i64 2, .int .i64 1, .int .i64 0, .int .i64 5] 28)).bel b2
  have hne1 : ¬ w1.heap.size = h := kA.ne_ hp2.cel.row (by decide)
  have hne2 : ¬ w1.heap.size + 1 = h := kB.ne_ hp2.cel.row (by decide)
  clear b2 hp1
  generalize w1.heap.size = ga at *
  go_wp2_with fail
  have x0 : ∀ t : Tw (fun w' => Blk w' ga 28 #[.int .i64 1, .int .i64 1, .int .i64 0, .int .i64 5] ∧ Blk w' (ga + 1) 28 #[.int .i64 2, .int .i64 1, .int .i64 0, .int .i64 5]), t.w.cell? ⟨ga, 0, none⟩ = some (.int .i64 1) := fun t => t.h.1.cell 0
  have x1 : ∀ t : Tw (fun w' => Blk w' ga 28 #[.int .i64 1, .int .i64 1, .int .i64 0, .int .i64 5] ∧ Blk w' (ga + 1) 28 #[.int .i64 2, .int .i64 1, .int .i64 0, .int .i64 5]), t.w.cell? ⟨ga, 1, none⟩ = some (.int .i64 1) := fun t => t.h.1.cell 1
  have x2 : ∀ t : Tw (fun w' => Blk w' ga 28 #[.int .i64 1, .int .i64 1, .int .i64 0, .int .i64 5] ∧ Blk w' (ga + 1) 28 #[.int .i64 2, .int .i64 1, .int .i64 0, .int .i64 5]), t.w.cell? ⟨ga, 2, none⟩ = some (.int .i64 0) := fun t => t.h.1.cell 2
  have x3 : ∀ t : Tw (fun w' => Blk w' ga 28 #[.int .i64 1, .int .i64 1, .int .i64 0, .int .i64 5] ∧ Blk w' (ga + 1) 28 #[.int .i64 2, .int .i64 1, .int .i64 0, .int .i64 5]), t.w.cell? ⟨ga, 3, none⟩ = some (.int .i64 5) := fun t => t.h.1.cell 3
  have y0 : ∀ t : Tw (fun w' => Blk w' ga 28 #[.int .i64 1, .int .i64 1, .int .i64 0, .int .i64 5] ∧ Blk w' (ga + 1) 28 #[.int .i64 2, .int .i64 1, .int .i64 0, .int .i64 5]), t.w.cell? ⟨(ga + 1), 0, none⟩ = some (.int .i64 2) := fun t => t.h.2.cell 0
  have y1 : ∀ t : Tw (fun w' => Blk w' ga 28 #[.int .i64 1, .int .i64 1, .int .i64 0, .int .i64 5] ∧ Blk w' (ga + 1) 28 #[.int .i64 2, .int .i64 1, .int .i64 0, .int .i64 5]), t.w.cell? ⟨(ga + 1), 1, none⟩ = some (.int .i64 1) := fun t => t.h.2.cell 1
  have y2 : ∀ t : Tw (fun w' => Blk w' ga 28 #[.int .i64 1, .int .i64 1, .int .i64 0, .int .i64 5] ∧ Blk w' (ga + 1) 28 #[.int .i64 2, .int .i64 1, .int .i64 0, .int .i64 5]), t.w.cell? ⟨(ga + 1), 2, none⟩ = some (.int .i64 0) := fun t => t.h.2.cell 2
  have y3 : ∀ t : Tw (fun w' => Blk w' ga 28 #[.int .i64 1, .int .i64 1, .int .i64 0, .int .i64 5] ∧ Blk w' (ga + 1) 28 #[.int .i64 2, .int .i64 1, .int .i64 0, .int .i64 5]), t.w.cell? ⟨(ga + 1), 3, none⟩ = some (.int .i64 5) := fun t => t.h.2.cell 3
  have : Nonempty (Tw (fun w' => Blk w' ga 28 #[.int .i64 1, .int .i64 1, .int .i64 0, .int .i64 5] ∧ Blk w' (ga + 1) 28 #[.int .i64 2, .int .i64 1, .int .i64 0, .int .i64 5])) := ⟨⟨w2, kA, kB⟩⟩
  refine wp_region_plan (fun w' => Blk w' ga 28 #[.int .i64 1, .int .i64 1, .int .i64 0, .int .i64 5] ∧ Blk w' (ga + 1) 28 #[.int .i64 2, .int .i64 1, .int .i64 0, .int .i64 5]) [(0, true), (1, true), (2, true), (3, true), (4, true), (5, true), (6, true), (7, true), (8, true), (9, true), (10, true), (11, true), (12, true), (13, true), (14, false), (15, true), (16, true), (17, true), (18, true), (19, true), (20, false), (21, true), (22, true), (23, true), (24, true), (25, true), (26, true), (27, false), (28, true), (29, true), (30, true), (32, true), (31, false), (33, true), (34, true), (35, true), (36, true), (38, true), (37, false), (39, true), (40, true), (41, true)] (by kernel_rfl) (by kernel_rfl) (by kernel_rfl) (by kernel_rfl) ⟨kA.drew, kB.drew⟩ ?_
  have hp3 : Pl w2.drew p g h 2 [0, 0, 0, 0] := hp2.drewN 1
  have kA3 := kA.drew
  have kB3 := kB.drew
  refine wpPl_qs 14 _ _ _ (by kernel_rfl) (by kernel_rfl) (by simp) ?_
  unfold clsS
  simp only [List.take_succ_cons, List.take_zero, List.drop_succ_cons, List.drop_zero, List.filterMap_cons, List.filterMap_nil, List.getElem?_toArray, List.getElem?_cons_zero, List.getElem?_cons_succ]
  repeat (first
    | go_big_quiet_skip
    | (go_big_quiet_want; go_big_quiet_op; go_big_quiet_on)
    | (refine id (?_ : wpQuiet _ _ _ _ (_ :: _) _); first | go_big_quiet_skip | (go_big_quiet_want; go_big_quiet_op; go_big_quiet_on)))
  refine wpQuiet_nil ?_
  refine wpPl_e _ (by rfl) (by kernel_rfl) (fun K hK => ?_)
  go_simp
  refine (PlCas_any 1 0 0 0 0 1 1 0 5 p g h 2 _ _ hp3 (by omega) true (by decide +kernel)).mono ?_
  rintro r w4 ⟨rfl, hp4, u4⟩
  have kA4 := kA3.upd u4 hne1
  have kB4 := kB3.upd u4 hne2
  refine hK _ _ ⟨kA4, kB4⟩ ?_
  clear hK K
  refine wpPl_qs 5 _ _ _ (by kernel_rfl) (by kernel_rfl) (by simp) ?_
  unfold clsS
  simp only [List.take_succ_cons, List.take_zero, List.drop_succ_cons, List.drop_zero, List.filterMap_cons, List.filterMap_nil, List.getElem?_toArray, List.getElem?_cons_zero, List.getElem?_cons_succ]
  repeat (first
    | go_big_quiet_skip
    | (go_big_quiet_want; go_big_quiet_op; go_big_quiet_on)
    | (refine id (?_ : wpQuiet _ _ _ _ (_ :: _) _); first | go_big_quiet_skip | (go_big_quiet_want; go_big_quiet_op; go_big_quiet_on)))
  refine wpQuiet_nil ?_
  refine wpPl_e _ (by rfl) (by kernel_rfl) (fun K hK => ?_)
  go_simp
  refine (PlCas_any 1 0 0 0 0 1 1 0 5 p g h 2 _ _ hp4 (by omega) false (by decide +kernel)).mono ?_
  rintro r w5 ⟨rfl, hp5, u5⟩
  have kA5 := kA4.upd u5 hne1
  have kB5 := kB4.upd u5 hne2
  refine hK _ _ ⟨kA5, kB5⟩ ?_
  clear hK K
  refine wpPl_qs 6 _ _ _ (by kernel_rfl) (by kernel_rfl) (by simp) ?_
  unfold clsS
  simp only [List.take_succ_cons, List.take_zero, List.drop_succ_cons, List.drop_zero, List.filterMap_cons, List.filterMap_nil, List.getElem?_toArray, List.getElem?_cons_zero, List.getElem?_cons_succ]
  repeat (first
    | go_big_quiet_skip
    | (go_big_quiet_want; go_big_quiet_op; go_big_quiet_on)
    | (refine id (?_ : wpQuiet _ _ _ _ (_ :: _) _); first | go_big_quiet_skip | (go_big_quiet_want; go_big_quiet_op; go_big_quiet_on)))
  refine wpQuiet_nil ?_
  refine wpPl_e _ (by rfl) (by kernel_rfl) (fun K hK => ?_)
  go_simp
  refine (PlCas_any 1 1 1 0 5 2 1 0 5 p g h 2 _ _ hp5 (by omega) true (by decide +kernel)).mono ?_
  rintro r w6 ⟨rfl, hp6, u6⟩
  have kA6 := kA5.upd u6 hne1
  have kB6 := kB5.upd u6 hne2
  refine hK _ _ ⟨kA6, kB6⟩ ?_
  clear hK K
  have bw6 : Below w.heap.size w w6 := bw.trans (((Upd.refl (· = h) w2).drew.trans (u4.trans (u5.trans u6))).below bw.size (fun k hk e => by subst e; omega))
  refine wpPl_qs 4 _ _ _ (by kernel_rfl) (by kernel_rfl) (by simp) ?_
  unfold clsS
  simp only [List.take_succ_cons, List.take_zero, List.drop_succ_cons, List.drop_zero, List.filterMap_cons, List.filterMap_nil, List.getElem?_toArray, List.getElem?_cons_zero, List.getElem?_cons_succ]
  repeat (first
    | go_big_quiet_skip
    | (go_big_quiet_want; go_big_quiet_op; go_big_quiet_on)
    | (refine id (?_ : wpQuiet _ _ _ _ (_ :: _) _); first | go_big_quiet_skip | (go_big_quiet_want; go_big_quiet_op; go_big_quiet_on)))
  refine wpQuiet_nil ?_
  refine wpPl_e _ (by rfl) (by kernel_rfl) (fun K hK => ?_)
  go_simp
  refine (PlLoad_any 1 p g h 2 _ _ hp6 (by omega)).mono ?_
  rw [show (unW (celAt (casL (casL (casL [0, 0, 0, 0] 1 (Wd.mk 1 1 0 5).num true) 1 (Wd.mk 1 1 0 5).num false) 1 (Wd.mk 2 1 0 5).num true) (2 * 1))).val = .agg #[.int .i64 2, .int .i64 1, .int .i64 0, .int .i64 5] by rfl]
  rintro r w7 ⟨rfl, b7⟩
  have kA7 := kA6.bel b7
  have kB7 := kB6.bel b7
  have hp7 := hp6.bel b7
  refine hK _ _ ⟨kA7, kB7⟩ ?_
  clear hK K
  refine wpPl_qs 5 _ _ _ (by kernel_rfl) (by kernel_rfl) (by simp) ?_
  unfold clsS
  simp only [List.take_succ_cons, List.take_zero, List.drop_succ_cons, List.drop_zero, List.filterMap_cons, List.filterMap_nil, List.getElem?_toArray, List.getElem?_cons_zero, List.getElem?_cons_succ]
  repeat (first
    | go_big_quiet_skip
    | (go_big_quiet_want; go_big_quiet_op; go_big_quiet_on)
    | (refine id (?_ : wpQuiet _ _ _ _ (_ :: _) _); first | go_big_quiet_skip | (go_big_quiet_want; go_big_quiet_op; go_big_quiet_on)))
  refine wpQuiet_nil ?_
  refine wpPl_e _ (by rfl) (by kernel_rfl) (fun K hK => ?_)
  go_simp
  refine (PlLoad_any 0 p g h 2 _ _ hp7 (by omega)).mono ?_
  rw [show (unW (celAt (casL (casL (casL [0, 0, 0, 0] 1 (Wd.mk 1 1 0 5).num true) 1 (Wd.mk 1 1 0 5).num false) 1 (Wd.mk 2 1 0 5).num true) (2 * 0))).val = .agg #[.int .i64 0, .int .i64 0, .int .i64 0, .int .i64 0] by rfl]
  rintro r w8 ⟨rfl, b8⟩
  have kA8 := kA7.bel b8
  have kB8 := kB7.bel b8
  refine hK _ _ ⟨kA8, kB8⟩ ?_
  clear hK K
  refine wpPl_qs 3 _ _ _ (by kernel_rfl) (by kernel_rfl) (by simp) ?_
  unfold clsS
  simp only [List.take_succ_cons, List.take_zero, List.drop_succ_cons, List.drop_zero, List.filterMap_cons, List.filterMap_nil, List.getElem?_toArray, List.getElem?_cons_zero, List.getElem?_cons_succ]
  repeat (first
    | go_big_quiet_skip
    | (go_big_quiet_want; go_big_quiet_op; go_big_quiet_on)
    | (refine id (?_ : wpQuiet _ _ _ _ (_ :: _) _); first | go_big_quiet_skip | (go_big_quiet_want; go_big_quiet_op; go_big_quiet_on)))
  refine wpQuiet_nil ?_
  unfold wpPl
  refine NoPanic.normal ?_
  go_wp2
  go_ret
  exact ⟨rfl, bel_after (bel_after bw6 b7) b8⟩
end Go.Proofs.Ytgkimfodbbgdbaa
