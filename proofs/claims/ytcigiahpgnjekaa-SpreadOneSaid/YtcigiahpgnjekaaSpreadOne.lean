/- Every input of SpreadOne answers true, and reads behind the call as it read before. No condition. -/
import Derived.Test.YtcigiahpgnjekaaSpreadAll
namespace Go.Proofs.Ytcigiahpgnjekaa
set_option linter.unusedVariables false
set_option linter.unusedSimpArgs false
open Go.RowKit
theorem s15_size : (Try.prog.info? 24).map (·.size) = some 9 := by kernel_rfl
theorem workR_short (k : Int) (out : Bool) {l : List Int} (h : l.length < 20) : workR k out l = 0 := by
  have hE : getE l ≠ 0 := by
    unfold getE shapeE
    rw [if_pos h, if_pos (by decide)]
    decide
  unfold workR farR
  rw [if_pos hE]
  exact if_pos (.inl hE)
set_option maxRecDepth 100000 in
set_option maxHeartbeats 2000000 in
theorem SpreadOne_walk (out : Bool) (wt wo po f be by_ ti x0 : Int) (A Ar : Option Addr) (len cap lenr capr : Nat) (l lr : List Int) (w : World) (hr : Rd .u8 w w.heap.size A len l) (hrr : Rd .u8 w w.heap.size Ar lenr lr) (hlc : len ≤ cap) (hcm : cap ≤ maxLen) (hlcr : lenr ≤ capr) (hcmr : capr ≤ maxLen) (hby : 0 ≤ by_ ∧ by_ ≤ 255) (hx0 : x0 ≤ 9223372036854775807) :
    Calls Try.prog 5 #[.agg #[.bool out, .int .i64 wt, .int .i64 wo, .int .i64 po, .int .i64 f, .slice A len cap, .int .i64 be, .int .u8 by_, .int .i64 ti], .slice Ar lenr capr, .int .i64 x0] w fun e w' => e = .returned (.bool true) ∧ Below w.heap.size w w' := by
  unfold maxLen at hcm hcmr
  obtain ⟨m, hmn, hm1, hm2⟩ := minc 19 (by omega) lenr
  have hj0 : (0 : Int) ≤ (m : Int) := by omega
  have hj1 : (m : Int) ≤ (capr : Int) := by omega
  have hj2 : m ≤ capr := by omega
  have hrt := hrr.take hm1
  obtain ⟨Lr, hLr⟩ : ∃ Lr, Lr = lr.take m := ⟨_, rfl⟩
  rw [← hLr] at hrt
  have hLl := hrt.len
  clear hLr hrr
  have hfr := fun w' (h : Below w.heap.size w w') => Frame15_any out wt wo po f be by_ ti A len cap l w' ((hr.below h).more h.size) hlc (by omega) hby
  unfold FR Gives at hfr
  replace hfr := Lib.hid hfr
  have hwraw := fun w' (h : Below w.heap.size w w') => Worker_any x0 out Lr Ar m capr w.heap.size w' (hrt.below h) h.size hj2 (by omega) (by omega) hx0
  rw [workR_short x0 out (by omega)] at hwraw
  obtain ⟨mk, hmk⟩ : ∃ mk, (if (0 : Int) < x0 then (0 : Int) else x0) = mk := ⟨_, rfl⟩
  have hmk1 : mk < 1 := by rw [← hmk]; split <;> omega
  have hwk := fun k (hk : k < 1 ∨ k = 1) (F : List Int) A1 n c1 w' (h : Rd .u8 w' w'.heap.size A1 n F) (h1 : n ≤ c1) (h2 : c1 ≤ 9223372036854775807) (h3 : n ≤ 60000) => (Worker_any k out F A1 n c1 _ w' h (Nat.le_refl _) h1 h2 h3 (by omega)).mono (R' := fun e w'' => e = .returned (.int .i64 0) ∧ Below w'.heap.size w' w'') (fun e w'' he => ⟨by
    rw [he.1]
    rcases hk with hk | rfl
    · rw [workR_none k out F hk]
    · rw [workR_one], he.2⟩)
  replace hwk := Lib.hid hwk
  replace hwraw := Lib.hid hwraw
  replace hmk1 := Lib.hid hmk1
  go_enter Try.func5, Try.ntmps5
  go_upto_region 1 with fail
  have bn := Blk.new w 24 #[.bool out, .int .i64 wt, .int .i64 wo, .int .i64 po, .int .i64 f, .slice A len cap, .int .i64 be, .int .u8 by_, .int .i64 ti]
  have bel := bel_alloc w (.cells #[.bool out, .int .i64 wt, .int .i64 wo, .int .i64 po, .int .i64 f, .slice A len cap, .int .i64 be, .int .u8 by_, .int .i64 ti] 24)
  generalize w.alloc (.cells #[.bool out, .int .i64 wt, .int .i64 wo, .int .i64 po, .int .i64 f, .slice A len cap, .int .i64 be, .int .u8 by_, .int .i64 ti] 24) = W at *
  go_upto_region 2 with fail
  clear hmn hj0 hj1
  have z0 : ∀ t : Tw (fun w' => Blk w' w.heap.size 24 #[.bool out, .int .i64 wt, .int .i64 wo, .int .i64 po, .int .i64 f, .slice A len cap, .int .i64 be, .int .u8 by_, .int .i64 ti]), t.w.cell? ⟨w.heap.size, 0, none⟩ = some (.bool out) := fun t => t.h.cell 0
  have z1 : ∀ t : Tw (fun w' => Blk w' w.heap.size 24 #[.bool out, .int .i64 wt, .int .i64 wo, .int .i64 po, .int .i64 f, .slice A len cap, .int .i64 be, .int .u8 by_, .int .i64 ti]), t.w.cell? ⟨w.heap.size, 1, none⟩ = some (.int .i64 wt) := fun t => t.h.cell 1
  have z2 : ∀ t : Tw (fun w' => Blk w' w.heap.size 24 #[.bool out, .int .i64 wt, .int .i64 wo, .int .i64 po, .int .i64 f, .slice A len cap, .int .i64 be, .int .u8 by_, .int .i64 ti]), t.w.cell? ⟨w.heap.size, 2, none⟩ = some (.int .i64 wo) := fun t => t.h.cell 2
  have z3 : ∀ t : Tw (fun w' => Blk w' w.heap.size 24 #[.bool out, .int .i64 wt, .int .i64 wo, .int .i64 po, .int .i64 f, .slice A len cap, .int .i64 be, .int .u8 by_, .int .i64 ti]), t.w.cell? ⟨w.heap.size, 3, none⟩ = some (.int .i64 po) := fun t => t.h.cell 3
  have z4 : ∀ t : Tw (fun w' => Blk w' w.heap.size 24 #[.bool out, .int .i64 wt, .int .i64 wo, .int .i64 po, .int .i64 f, .slice A len cap, .int .i64 be, .int .u8 by_, .int .i64 ti]), t.w.cell? ⟨w.heap.size, 4, none⟩ = some (.int .i64 f) := fun t => t.h.cell 4
  have z5 : ∀ t : Tw (fun w' => Blk w' w.heap.size 24 #[.bool out, .int .i64 wt, .int .i64 wo, .int .i64 po, .int .i64 f, .slice A len cap, .int .i64 be, .int .u8 by_, .int .i64 ti]), t.w.cell? ⟨w.heap.size, 5, none⟩ = some (.slice A len cap) := fun t => t.h.cell 5
  have z6 : ∀ t : Tw (fun w' => Blk w' w.heap.size 24 #[.bool out, .int .i64 wt, .int .i64 wo, .int .i64 po, .int .i64 f, .slice A len cap, .int .i64 be, .int .u8 by_, .int .i64 ti]), t.w.cell? ⟨w.heap.size, 6, none⟩ = some (.int .i64 be) := fun t => t.h.cell 6
  have z7 : ∀ t : Tw (fun w' => Blk w' w.heap.size 24 #[.bool out, .int .i64 wt, .int .i64 wo, .int .i64 po, .int .i64 f, .slice A len cap, .int .i64 be, .int .u8 by_, .int .i64 ti]), t.w.cell? ⟨w.heap.size, 7, none⟩ = some (.int .u8 by_) := fun t => t.h.cell 7
  have z8 : ∀ t : Tw (fun w' => Blk w' w.heap.size 24 #[.bool out, .int .i64 wt, .int .i64 wo, .int .i64 po, .int .i64 f, .slice A len cap, .int .i64 be, .int .u8 by_, .int .i64 ti]), t.w.cell? ⟨w.heap.size, 8, none⟩ = some (.int .i64 ti) := fun t => t.h.cell 8
  have ne : Nonempty (Tw (fun w' => Blk w' w.heap.size 24 #[.bool out, .int .i64 wt, .int .i64 wo, .int .i64 po, .int .i64 f, .slice A len cap, .int .i64 be, .int .u8 by_, .int .i64 ti])) := ⟨⟨_, bn⟩⟩
  refine wp_region_plan (fun w' => Blk w' w.heap.size 24 #[.bool out, .int .i64 wt, .int .i64 wo, .int .i64 po, .int .i64 f, .slice A len cap, .int .i64 be, .int .u8 by_, .int .i64 ti]) [(0, false), (1, true), (2, true), (3, true), (4, true), (5, false), (6, false), (7, true), (8, true), (9, true), (10, true), (11, true), (12, true), (13, true), (14, false), (15, true), (16, true), (17, true), (18, true), (19, true), (20, true), (21, true), (22, true), (23, false), (24, false), (25, true), (26, true), (27, true)] (by kernel_rfl) (by kernel_rfl) (by kernel_rfl) (by kernel_rfl) bn.drew ?_
  replace bn := bn.drew
  replace bel := bel.drew
  generalize W.drew = W1 at *
  refine wpPl_e _ (by rfl) (by kernel_rfl) (fun K hK => ?_)
  go_simp
  refine (tells_any _).mono ?_
  rintro e w1 ⟨rfl, hb1⟩
  replace bn := bn.bel hb1
  replace bel := bel_after bel hb1
  clear hb1
  refine hK _ _ bn ?_
  clear hK K
  refine wpPl_qs 4 _ _ _ (by kernel_rfl) (by kernel_rfl) (by simp) ?_
  unfold clsS
  simp only [List.take_succ_cons, List.take_zero, List.drop_succ_cons, List.drop_zero, List.filterMap_cons, List.filterMap_nil, List.getElem?_toArray, List.getElem?_cons_zero, List.getElem?_cons_succ]
  repeat (first
    | go_big_quiet_skip
    | (go_big_quiet_want; go_big_quiet_op; go_big_quiet_on)
    | (refine id (?_ : wpQuiet _ _ _ _ (_ :: _) _); first | go_big_quiet_skip | (go_big_quiet_want; go_big_quiet_op; go_big_quiet_on)))
  refine wpQuiet_nil ?_
  refine wpPl_e _ (by rfl) (by kernel_rfl) (fun K hK => ?_)
  go_simp
  refine (hfr.out _ bel).mono ?_
  rintro e w2 ⟨F, hF, v2, rfl, own2, hb2⟩
  replace bn := bn.bel hb2
  replace bel := bel_after bel hb2
  clear hb2
  obtain ⟨A2, c2, rfl, hc1, hc2, rd2⟩ := own2.form rfl
  unfold maxLen at hc2
  clear own2
  refine hK _ _ bn ?_
  clear hK K
  refine wpPl_e _ (by rfl) (by kernel_rfl) (fun K hK => ?_)
  go_simp
  refine (hwk.out 1 (.inr rfl) F A2 _ c2 w2 rd2 hc1 hc2 (by omega)).mono ?_
  rintro e w3 ⟨rfl, hb3⟩
  replace bn := bn.bel hb3
  replace bel := bel_after bel hb3
  clear hb3 rd2 hc1 hc2
  refine hK _ _ bn ?_
  clear hK K
  refine wpPl_qs 7 _ _ _ (by kernel_rfl) (by kernel_rfl) (by simp) ?_
  unfold clsS
  simp only [List.take_succ_cons, List.take_zero, List.drop_succ_cons, List.drop_zero, List.filterMap_cons, List.filterMap_nil, List.getElem?_toArray, List.getElem?_cons_zero, List.getElem?_cons_succ]
  repeat (first
    | go_big_quiet_skip
    | (go_big_quiet_want; go_big_quiet_op; go_big_quiet_on)
    | (refine id (?_ : wpQuiet _ _ _ _ (_ :: _) _); first | go_big_quiet_skip | (go_big_quiet_want; go_big_quiet_op; go_big_quiet_on)))
  refine wpQuiet_nil ?_
  refine wpPl_e _ (by rfl) (by kernel_rfl) (fun K hK => ?_)
  go_simp
  refine (hwraw.out _ bel).mono ?_
  rintro e w4 ⟨rfl, hb4⟩
  replace bn := bn.bel hb4
  replace bel := bel_after bel hb4
  clear hb4
  refine hK _ _ bn ?_
  clear hK K
  refine wpPl_qs 8 _ _ _ (by kernel_rfl) (by kernel_rfl) (by simp) ?_
  unfold clsS
  simp only [List.take_succ_cons, List.take_zero, List.drop_succ_cons, List.drop_zero, List.filterMap_cons, List.filterMap_nil, List.getElem?_toArray, List.getElem?_cons_zero, List.getElem?_cons_succ]
  repeat (first
    | go_big_quiet_skip
    | (go_big_quiet_want; go_big_quiet_op; go_big_quiet_on)
    | (refine id (?_ : wpQuiet _ _ _ _ (_ :: _) _); first | go_big_quiet_skip | (go_big_quiet_want; go_big_quiet_op; go_big_quiet_on)))
  refine wpQuiet_nil ?_
  refine wpPl_e _ (by rfl) (by kernel_rfl) (fun K hK => ?_)
  go_simp
  refine (hfr.out _ bel).mono ?_
  rintro e w5 ⟨F2, hF2, v5, rfl, own5, hb5⟩
  replace bn := bn.bel hb5
  replace bel := bel_after bel hb5
  clear hb5
  obtain ⟨A5, c5, rfl, hc1, hc2, rd5⟩ := own5.form rfl
  unfold maxLen at hc2
  clear own5
  refine hK _ _ bn ?_
  clear hK K
  refine wpPl_e _ (by rfl) (by kernel_rfl) (fun K hK => ?_)
  go_simp
  refine (hwk.out mk (.inl hmk1.out) F2 A5 _ c5 w5 rd5 hc1 hc2 (by omega)).mono ?_
  rintro e w6 ⟨rfl, hb6⟩
  replace bn := bn.bel hb6
  replace bel := bel_after bel hb6
  clear hb6 rd5 hc1 hc2
  refine hK _ _ bn ?_
  clear hK K
  refine wpPl_qs 3 _ _ _ (by kernel_rfl) (by kernel_rfl) (by simp) ?_
  unfold clsS
  simp only [List.take_succ_cons, List.take_zero, List.drop_succ_cons, List.drop_zero, List.filterMap_cons, List.filterMap_nil, List.getElem?_toArray, List.getElem?_cons_zero, List.getElem?_cons_succ]
  repeat (first
    | go_big_quiet_skip
    | (go_big_quiet_want; go_big_quiet_op; go_big_quiet_on)
    | (refine id (?_ : wpQuiet _ _ _ _ (_ :: _) _); first | go_big_quiet_skip | (go_big_quiet_want; go_big_quiet_op; go_big_quiet_on)))
  refine wpQuiet_nil ?_
  unfold wpPl
  refine NoPanic.normal ?_
  go_wp2
  go_ret
  exact ⟨rfl, bel⟩
theorem arr9 {cs : Array Value} {x0 x1 x2 x3 x4 x5 x6 x7 x8 : Value} (h : cs.size = 9) (h0 : cs.toList[0]? = some x0) (h1 : cs.toList[1]? = some x1) (h2 : cs.toList[2]? = some x2) (h3 : cs.toList[3]? = some x3) (h4 : cs.toList[4]? = some x4) (h5 : cs.toList[5]? = some x5) (h6 : cs.toList[6]? = some x6) (h7 : cs.toList[7]? = some x7) (h8 : cs.toList[8]? = some x8) : cs = #[x0, x1, x2, x3, x4, x5, x6, x7, x8] := by
  obtain ⟨l⟩ := cs
  match l, h with
  | [y0, y1, y2, y3, y4, y5, y6, y7, y8], _ =>
    simp only [List.getElem?_cons_zero, List.getElem?_cons_succ, Option.some.injEq] at h0 h1 h2 h3 h4 h5 h6 h7 h8
    rw [h0, h1, h2, h3, h4, h5, h6, h7, h8]
theorem arg_s15 {W : World} {v : Value} (h : Arg Try.prog W 24 v) : ∃ (out : Bool) (wt wo po f be by_ ti : Int) (A : Option Addr) (len cap : Nat) (l : List Int), v = .agg #[.bool out, .int .i64 wt, .int .i64 wo, .int .i64 po, .int .i64 f, .slice A len cap, .int .i64 be, .int .u8 by_, .int .i64 ti] ∧
    (0 ≤ by_ ∧ by_ ≤ 255) ∧ len ≤ cap ∧ cap ≤ maxLen ∧ Rd .u8 W W.heap.size A len l := by
  obtain ⟨cs, m, rfl, hs, hf⟩ := arg_struct Try.underlying24 h
  have hC : Try.prog.cellsOf 24 = 9 := by kernel_rfl
  have hCi : Try.prog.cellsOf 3 = 1 := by kernel_rfl
  have hCl : Try.prog.cellsOf 4 = 1 := by kernel_rfl
  have hCb : Try.prog.cellsOf 5 = 1 := by kernel_rfl
  have hCs : Try.prog.cellsOf 22 = 1 := by kernel_rfl
  obtain ⟨x0, e0⟩ := fld_bool (i := 0) hf rfl Try.underlying4 hCl
  obtain ⟨x1, e1, _⟩ := fld_int (i := 1) hf rfl Try.underlying3 hCi
  obtain ⟨x2, e2, _⟩ := fld_int (i := 2) hf rfl Try.underlying3 hCi
  obtain ⟨x3, e3, _⟩ := fld_int (i := 3) hf rfl Try.underlying3 hCi
  obtain ⟨x4, e4, _⟩ := fld_int (i := 4) hf rfl Try.underlying3 hCi
  obtain ⟨A, len, cap, l, e5, h1, h2, h3⟩ := fld_ints (i := 5) hf rfl Try.underlying22 Try.underlying5 hCb hCs
  obtain ⟨x6, e6, _⟩ := fld_int (i := 6) hf rfl Try.underlying3 hCi
  obtain ⟨x7, e7, r7⟩ := fld_int (i := 7) hf rfl Try.underlying5 hCb
  obtain ⟨x8, e8, _⟩ := fld_int (i := 8) hf rfl Try.underlying3 hCi
  exact ⟨x0, x1, x2, x3, x4, x6, x7, x8, A, len, cap, l, by rw [arr9 (hs.trans hC) e0 e1 e2 e3 e4 e5 e6 e7 e8], inr_u8 r7, h1, h2, h3⟩
theorem SpreadOne_args (W : World) (args : Array Value) (hs : args.size = Try.f5.params.size) (hA : ∀ (j : Nat) t v, Try.f5.params[j]? = some t → args[j]? = some v → Arg Try.prog W t v) :
    Calls Try.prog 5 args W fun e W' => e = .returned (.bool true) ∧ Below W.heap.size W W' := by
  obtain ⟨v0, v1, v2, rfl⟩ := args3 hs
  obtain ⟨out, wt, wo, po, f, be, by_, ti, A, len, cap, l, rfl, h1, h2, h3, h4⟩ := arg_s15 (hA 0 24 v0 rfl rfl)
  obtain ⟨Ar, lenr, capr, lr, rfl, g1, g2, g3⟩ := arg_ints Try.underlying22 Try.underlying5 (by kernel_rfl) (hA 1 22 v1 rfl rfl)
  obtain ⟨x, rfl, hx⟩ := arg_int Try.underlying3 (hA 2 3 v2 rfl rfl)
  exact SpreadOne_walk out wt wo po f be by_ ti x A Ar len cap lenr capr l lr W h4 g3 h2 h3 g1 g2 h1 (inr_i64 hx).2

set_option maxRecDepth 100000 in
theorem SpreadOne_lifted (os : Os) (started : os.Started) (H : Type) (enc : TypeId × Value → H) :
    ReturnsInHanded {} Try.checked os 5 .any (Rows.spreadOneSpec.pre6 enc Try.prog Try.f5 Rows.spreadOneRow.domain false) (Rows.spreadOneSpec.post enc Try.prog Try.f5 false true false false) :=
  law_lifted os started H enc (by kernel_rfl) Try.func5 rfl rfl (fun H ds h => by match ds, h with | [_, _, _], _ => exact ⟨rfl, rfl, rfl⟩) (by kernel_rfl)
    (ChangeSpec.witness6 (enc := enc) (C := Try.checked) false ⟨#[], #[.agg #[.bool false, .int .i64 0, .int .i64 0, .int .i64 0, .int .i64 0, .slice none 0 0, .int .i64 0, .int .u8 0, .int .i64 0], .slice none 0 0, .int .i64 0], []⟩ 8 (by kernel_rfl) (by kernel_rfl) (by kernel_rfl) (by kernel_rfl))
    SpreadOne_args

/-- the statement -/
theorem spreadOne_holds : Rows.SpreadOneSaid :=
  OpenClaim.holds_of_wide 5 Try.f5 rfl rfl rfl rfl rfl rfl rfl ⟨rfl, rfl, rfl, rfl, rfl⟩ rfl rfl rfl rfl rfl (by kernel_rfl) Try.func5 (by kernel_rfl)
    (of_decide_eq_true (by kernel_rfl)) (by unfold Func.isWrapper; first | (rw [if_pos (by decide +kernel)]; kernel_rfl) | (rw [if_neg (by decide +kernel)]; exact ⟨rfl, rfl⟩))
    (fun os started H enc _ => SpreadOne_lifted os started H enc)

end Go.Proofs.Ytcigiahpgnjekaa
