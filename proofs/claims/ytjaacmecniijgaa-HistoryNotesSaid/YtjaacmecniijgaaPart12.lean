/- The document's side of package part: icmp, errors. -/
import Derived.Test.YtjaacmecniijgaaPart11
namespace Go.Proofs.Ytjaacmecniijgaa
set_option linter.unusedVariables false
set_option linter.unusedSimpArgs false
open Go.RowKit
set_option maxRecDepth 100000 in
set_option maxHeartbeats 4000000 in
theorem ricmp_bad (h : Hd) (l : List Int) (A : Option Addr) (len c B : Nat) (w : World) (hr : Rd .u8 w B A len l) (hB : B ≤ w.heap.size) (hlc : len ≤ c) (hcm : c ≤ 9223372036854775807) (hl : len ≤ 100000) (hh : 0 ≤ h.size ∧ h.size ≤ 1000)
    (h8 : 8 ≤ l.length) (hS : sumOf l = 0) (hf : l.getD 0 0 = 3 ∨ l.getD 0 0 = 11 ∨ l.getD 0 0 = 12) (hbad : ¬ (partE (l.drop 8) = 0 ∧ 8 ≤ ((l.drop 8).length : Int) - (hdOf (l.drop 8)).size ∧ (hdOf (l.drop 8)).size + 8 ≤ (hdOf (l.drop 8)).len)) :
    Calls Try.prog 66 #[.agg #[.int .i64 1, .int .u16 0, .int .u16 0, .int .i64 0, .int .i64 0, .int .i64 0, .bool false, .int .i64 0, .int .i64 0, .int .i64 0, .int .i64 0, .int .u32 0, .int .u32 0, .int .i64 0, .bool false], h.val, .slice A len c] w (Tells w (faultR { Pt.z with proto := 1, kind := l.getD 0 0, code := l.getD 1 0 } (h.size + 8) (l.drop 8))) := by
  rw [hr.len] at h8
  have hrB := hr.more hB
  have hsm := fun w' (hb : Below w.heap.size w w') => rOf_any l A len c _ w' hl (hrB.below hb)
  rw [hS] at hsm
  have hcs := faultR_cases { Pt.z with proto := 1, kind := l.getD 0 0, code := l.getD 1 0 } (h.size + 8) (l.drop 8) rfl
  have hok := fun h => partE_ok (l := l.drop 8) h
  rw [List.length_drop, hr.len] at hcs hok hbad
  replace hbad := Lib.hid hbad
  obtain ⟨h0, h1, h2, h3, h4, h5⟩ := h
  unfold Hd.val Tells
  simp only at hh hcs ⊢
  generalize hf0 : l.getD 0 0 = f0 at *
  generalize hf1 : l.getD 1 0 = f1 at *
  obtain ⟨R, hR⟩ : ∃ R, R = faultR { Pt.z with proto := 1, kind := f0, code := f1 } (h0 + 8) (l.drop 8) := ⟨_, rfl⟩
  rw [← hR] at hcs ⊢
  replace hsm := Lib.hid hsm
  clear hR hS
  have d1 : decide (len < 8) = false := by simp; omega
  have d2 : decide ((len : Int) < 8) = false := by simp; omega
  obtain ⟨b, o, rfl⟩ := hr.form (by omega)
  obtain ⟨c0, x0⟩ := hrB.cell0 (by omega)
  obtain ⟨c1, x1⟩ := hrB.cell 1 (by omega)
  replace x0 := inr_u8 x0
  replace x1 := inr_u8 x1
  rw [hf0] at c0 x0
  rw [hf1] at c1 x1
  clear hf0 hf1
  have y0 := cell_lt c0
  simp only at y0
  have z0 : ∀ t : Tw (fun w' => Below w.heap.size w w'), t.w.cell? ⟨b, o, none⟩ = some (.int .u8 f0) := fun t => (t.h.cell (p := ⟨b, o, none⟩) (cell_lt c0)).trans c0
  have z1 : ∀ t : Tw (fun w' => Below w.heap.size w w'), t.w.cell? ⟨b, o + 1, none⟩ = some (.int .u8 f1) := fun t => (t.h.cell (p := ⟨b, o + 1, none⟩) (cell_lt c1)).trans c1
  clear c0 c1
  have hf1 : (f0 == 0) = false := by simp; omega
  have hf2 : (f0 == 8) = false := by simp; omega
  replace hf := Lib.hid hf
  replace hcs := Lib.hid hcs
  obtain ⟨A2, hA2, hr2⟩ := hrB.cut (m := 8) (cap := c) (by omega) (by omega)
  replace hA2 : (if c = 8 then some ⟨b, o, none⟩ else some ⟨b, o + 8, none⟩) = A2 := by rw [← hA2]; simp [Addr.add]
  replace hA2 := Lib.hid hA2
  have hgt := fun w' (hb : Below w.heap.size w w') => rGet_any (l.drop 8) true A2 (len - 8) (c - 8) _ w' ((hr2.below hb).more hb.size) (Nat.le_refl _) (by omega) (by omega) (by omega)
  simp only [getP, if_true, hdIf] at hgt
  clear hr2
  go_enter Try.func66, Try.ntmps66
  go_upto_region 1 with fail
  have bp := ((Blk.new w 97 #[.int .i64 1, .int .u16 0, .int .u16 0, .int .i64 0, .int .i64 0, .int .i64 0, .bool false, .int .i64 0, .int .i64 0, .int .i64 0, .int .i64 0, .int .u32 0, .int .u32 0, .int .i64 0, .bool false]).alloc (.cells #[.int .i64 h0, .int .i64 h1, .int .i64 h2, .int .i64 h3, .int .u32 h4, .int .u32 h5] 77)).alloc (.cells #[.int .i64 0, .int .u16 0, .int .u16 0, .int .i64 0, .int .i64 0, .int .i64 0, .bool false, .int .i64 0, .int .i64 0, .int .i64 0, .int .i64 0, .int .u32 0, .int .u32 0, .int .i64 0, .bool false] 97)
  have bh := (Blk.new (w.alloc (.cells #[.int .i64 1, .int .u16 0, .int .u16 0, .int .i64 0, .int .i64 0, .int .i64 0, .bool false, .int .i64 0, .int .i64 0, .int .i64 0, .int .i64 0, .int .u32 0, .int .u32 0, .int .i64 0, .bool false] 97)) 77 #[.int .i64 h0, .int .i64 h1, .int .i64 h2, .int .i64 h3, .int .u32 h4, .int .u32 h5]).alloc (.cells #[.int .i64 0, .int .u16 0, .int .u16 0, .int .i64 0, .int .i64 0, .int .i64 0, .bool false, .int .i64 0, .int .i64 0, .int .i64 0, .int .i64 0, .int .u32 0, .int .u32 0, .int .i64 0, .bool false] 97)
  have bk := Blk.new ((w.alloc (.cells #[.int .i64 1, .int .u16 0, .int .u16 0, .int .i64 0, .int .i64 0, .int .i64 0, .bool false, .int .i64 0, .int .i64 0, .int .i64 0, .int .i64 0, .int .u32 0, .int .u32 0, .int .i64 0, .bool false] 97)).alloc (.cells #[.int .i64 h0, .int .i64 h1, .int .i64 h2, .int .i64 h3, .int .u32 h4, .int .u32 h5] 77)) 97 #[.int .i64 0, .int .u16 0, .int .u16 0, .int .i64 0, .int .i64 0, .int .i64 0, .bool false, .int .i64 0, .int .i64 0, .int .i64 0, .int .i64 0, .int .u32 0, .int .u32 0, .int .i64 0, .bool false]
  rw [show (w.alloc (.cells #[.int .i64 1, .int .u16 0, .int .u16 0, .int .i64 0, .int .i64 0, .int .i64 0, .bool false, .int .i64 0, .int .i64 0, .int .i64 0, .int .i64 0, .int .u32 0, .int .u32 0, .int .i64 0, .bool false] 97)).heap.size = w.heap.size + 1 by simp] at bh
  rw [show ((w.alloc (.cells #[.int .i64 1, .int .u16 0, .int .u16 0, .int .i64 0, .int .i64 0, .int .i64 0, .bool false, .int .i64 0, .int .i64 0, .int .i64 0, .int .i64 0, .int .u32 0, .int .u32 0, .int .i64 0, .bool false] 97)).alloc (.cells #[.int .i64 h0, .int .i64 h1, .int .i64 h2, .int .i64 h3, .int .u32 h4, .int .u32 h5] 77)).heap.size = w.heap.size + 2 by simp] at bk
  have bel : Below w.heap.size w (((w.alloc (.cells #[.int .i64 1, .int .u16 0, .int .u16 0, .int .i64 0, .int .i64 0, .int .i64 0, .bool false, .int .i64 0, .int .i64 0, .int .i64 0, .int .i64 0, .int .u32 0, .int .u32 0, .int .i64 0, .bool false] 97)).alloc (.cells #[.int .i64 h0, .int .i64 h1, .int .i64 h2, .int .i64 h3, .int .u32 h4, .int .u32 h5] 77)).alloc (.cells #[.int .i64 0, .int .u16 0, .int .u16 0, .int .i64 0, .int .i64 0, .int .i64 0, .bool false, .int .i64 0, .int .i64 0, .int .i64 0, .int .i64 0, .int .u32 0, .int .u32 0, .int .i64 0, .bool false] 97)) := ((bel_alloc _ _).alloc (by simp) _).alloc (by simp; omega) _
  generalize (((w.alloc (.cells #[.int .i64 1, .int .u16 0, .int .u16 0, .int .i64 0, .int .i64 0, .int .i64 0, .bool false, .int .i64 0, .int .i64 0, .int .i64 0, .int .i64 0, .int .u32 0, .int .u32 0, .int .i64 0, .bool false] 97)).alloc (.cells #[.int .i64 h0, .int .i64 h1, .int .i64 h2, .int .i64 h3, .int .u32 h4, .int .u32 h5] 77)).alloc (.cells #[.int .i64 0, .int .u16 0, .int .u16 0, .int .i64 0, .int .i64 0, .int .i64 0, .bool false, .int .i64 0, .int .i64 0, .int .i64 0, .int .i64 0, .int .u32 0, .int .u32 0, .int .i64 0, .bool false] 97)) = W at *
  go_wp2_with fail
  refine (hsm.out _ bel).mono ?_
  rintro e w' ⟨rfl, rfl⟩
  go_upto_region 5 with fail
  have : Nonempty (Tw (fun w' => Below w.heap.size w w')) := ⟨⟨_, bel⟩⟩
  refine wp_region_plan (fun w' => Below w.heap.size w w') [(0, true), (1, true), (2, true), (3, true), (4, true), (5, true), (6, true), (7, true), (8, true), (9, false), (10, true), (11, false)] (by kernel_rfl) (by kernel_rfl) (by kernel_rfl) (by kernel_rfl) bel.drew ?_
  replace bp := bp.drew
  replace bh := bh.drew
  replace bk := bk.drew
  replace bel := bel.drew
  generalize W.drew = W1 at *
  refine wpPl_qs 9 _ _ _ (by kernel_rfl) (by kernel_rfl) (by simp) ?_
  unfold clsS
  simp only [List.take_succ_cons, List.take_zero, List.drop_succ_cons, List.drop_zero, List.filterMap_cons, List.filterMap_nil, List.getElem?_toArray, List.getElem?_cons_zero, List.getElem?_cons_succ]
  repeat (first
    | go_big_quiet_skip
    | (go_big_quiet_want; go_big_quiet_op; go_big_quiet_on)
    | (refine id (?_ : wpQuiet _ _ _ _ (_ :: _) _); first | go_big_quiet_skip | (go_big_quiet_want; go_big_quiet_op; go_big_quiet_on)))
  refine wpQuiet_nil ?_
  have q4 := bp.cell 4
  have r4 := bp.frozen 4
  refine wpPl_e _ (by rfl) (by kernel_rfl) (fun K hK => ?_)
  go_simp
  replace bh := bh.far (p := ⟨w.heap.size, 4, none⟩) (by show w.heap.size + 1 ≠ w.heap.size; omega) (.int .i64 f0)
  replace bk := bk.far (p := ⟨w.heap.size, 4, none⟩) (by show w.heap.size + 2 ≠ w.heap.size; omega) (.int .i64 f0)
  replace bel := bel.setCell (p := ⟨w.heap.size, 4, none⟩) (Nat.le_refl _) (.int .i64 f0)
  replace bp := bp.set_ 4 (.int .i64 f0)
  clear q4 r4
  refine hK _ _ bel ?_
  clear hK K
  refine wpPl_qs 1 _ _ _ (by kernel_rfl) (by kernel_rfl) (by simp) ?_
  unfold clsS
  simp only [List.take_succ_cons, List.take_zero, List.drop_succ_cons, List.drop_zero, List.filterMap_cons, List.filterMap_nil, List.getElem?_toArray, List.getElem?_cons_zero, List.getElem?_cons_succ]
  repeat (first
    | go_big_quiet_skip
    | (go_big_quiet_want; go_big_quiet_op; go_big_quiet_on)
    | (refine id (?_ : wpQuiet _ _ _ _ (_ :: _) _); first | go_big_quiet_skip | (go_big_quiet_want; go_big_quiet_op; go_big_quiet_on)))
  refine wpQuiet_nil ?_
  have q5 := bp.cell 5
  have r5 := bp.frozen 5
  refine wpPl_e _ (by rfl) (by kernel_rfl) (fun K hK => ?_)
  go_simp
  replace bh := bh.far (p := ⟨w.heap.size, 5, none⟩) (by show w.heap.size + 1 ≠ w.heap.size; omega) (.int .i64 f1)
  replace bk := bk.far (p := ⟨w.heap.size, 5, none⟩) (by show w.heap.size + 2 ≠ w.heap.size; omega) (.int .i64 f1)
  replace bel := bel.setCell (p := ⟨w.heap.size, 5, none⟩) (Nat.le_refl _) (.int .i64 f1)
  replace bp := bp.set_ 5 (.int .i64 f1)
  clear q5 r5
  refine hK _ _ bel ?_
  clear hK K
  unfold wpPl
  refine NoPanic.normal ?_
  simp only [List.setIfInBounds_toArray, List.set_cons_succ, List.set_cons_zero] at bp
  generalize ((W1.setCell ⟨w.heap.size, 4, none⟩ (.int .i64 f0)).setCell ⟨w.heap.size, 5, none⟩ (.int .i64 f1)) = W2 at *
  replace hf := hf.out
  clear z0 z1
  have q4 := bp.cell 4
  have q5 := bp.cell 5
  have hN4b := n2_bd (l := l) (fun x hx => inr_u8 (hr.rng x hx)) (i := 4) (by rw [hr.len]; omega)
  go_wp2_with fail
  refine (Num_any (seg l 4 2) _ 2 (c - 4) _ W2 (by omega) ((hrB.below bel).sub 4 2 (by omega))).mono ?_
  rw [show numOf (seg l 4 2) = n2 l 4 from rfl]
  generalize n2 l 4 = N4 at *
  rintro e w' ⟨rfl, rfl⟩
  go_upto_if 48 with fail
  go_cut [48] (fun s48 wx => s48 = .bool true ∧ W2 = wx)
  case first =>
    rcases hf with rfl | rfl | rfl
    · go_wp2_with fail
      go_meet
      exact ⟨rfl, rfl⟩
    · go_wp2_with fail
      go_meet
      exact ⟨rfl, rfl⟩
    · go_wp2_with fail
      go_meet
      exact ⟨rfl, rfl⟩
  case rest =>
    obtain ⟨rfl, rfl⟩ := hcut
    clear hf hf1 hf2 q4 q5 hsm hr hN4b
    replace hcs := hcs.out
    replace hA2 := hA2.out
    rcases hcs with ⟨he, hR⟩ | ⟨he, hcs⟩
    · rw [if_neg he] at hgt
      clear hok hbad
      generalize partE (l.drop 8) = E at *
      replace hR := Lib.hid hR
      have e1 : (E != 0) = true := by simpa using he
      have hz : Hd.z.val = .agg #[.int .i64 0, .int .i64 0, .int .i64 0, .int .i64 0, .int .u32 0, .int .u32 0] := rfl
      rw [hz] at hgt
      replace hgt := Lib.hid hgt
      go_wp2_with fail
      refine (hgt.out _ bel).mono ?_
      rintro e w' ⟨rfl, hb⟩
      replace bk := bk.bel hb
      replace bh := bh.bel hb
      replace bp := bp.bel hb
      replace bel := bel_after bel hb
      clear hb
      have bkl := bk.lt
      go_wp2_with (first | (refine wpList_stRow rfl rfl rfl rfl rfl (Blk.new _ _ _) rhd_size rfl (by simp [Value.oneCell']) ?_; have by_ := (Blk.new w' 77 #[.int .i64 0, .int .i64 0, .int .i64 0, .int .i64 0, .int .u32 0, .int .u32 0]).setRow #[.int .i64 0, .int .i64 0, .int .i64 0, .int .i64 0, .int .u32 0, .int .u32 0]; replace bk := (bk.alloc (.cells #[.int .i64 0, .int .i64 0, .int .i64 0, .int .i64 0, .int .u32 0, .int .u32 0] 77)).setRow_far (g' := w'.heap.size) (by have := bk.lt; omega) #[.int .i64 0, .int .i64 0, .int .i64 0, .int .i64 0, .int .u32 0, .int .u32 0]; replace bh := (bh.alloc (.cells #[.int .i64 0, .int .i64 0, .int .i64 0, .int .i64 0, .int .u32 0, .int .u32 0] 77)).setRow_far (g' := w'.heap.size) (by have := bh.lt; omega) #[.int .i64 0, .int .i64 0, .int .i64 0, .int .i64 0, .int .u32 0, .int .u32 0]; replace bp := (bp.alloc (.cells #[.int .i64 0, .int .i64 0, .int .i64 0, .int .i64 0, .int .u32 0, .int .u32 0] 77)).setRow_far (g' := w'.heap.size) (by have := bp.lt; omega) #[.int .i64 0, .int .i64 0, .int .i64 0, .int .i64 0, .int .u32 0, .int .u32 0]; replace bel := below_setRow (bel.alloc bel.size (.cells #[.int .i64 0, .int .i64 0, .int .i64 0, .int .i64 0, .int .u32 0, .int .u32 0] 77)) bel.size #[.int .i64 0, .int .i64 0, .int .i64 0, .int .i64 0, .int .u32 0, .int .u32 0]; have hg3 : w.heap.size + 2 < w'.heap.size := (by have := bkl; omega); generalize (w'.alloc (.cells #[.int .i64 0, .int .i64 0, .int .i64 0, .int .i64 0, .int .u32 0, .int .u32 0] 77)).setRow w'.heap.size #[.int .i64 0, .int .i64 0, .int .i64 0, .int .i64 0, .int .u32 0, .int .u32 0] = W3 at *; generalize w'.heap.size = g3 at *) | (refine wpList_stRow rfl rfl rfl rfl rfl bk rpt_size rfl (by simp [Value.oneCell', Pt.z, Hd.z, portsP]) ?_))
      refine bodyPost_ret (results_row2 rfl _ rfl (bk.setRow _) Try.underlying97 rpt_size) rfl ⟨?_, below_setRow bel (by omega) _⟩
      rw [hR.out]
      rfl
    have hk := hok he
    rw [if_pos he, he] at hgt
    clear hok
    obtain ⟨m, y1, y2, y3, y4, y5, hy⟩ : ∃ (m : Nat) (y1 y2 y3 y4 y5 : Int), hdOf (l.drop 8) = ⟨(m : Int), y1, y2, y3, y4, y5⟩ := ⟨(hdOf (l.drop 8)).size.toNat, _, _, _, _, _, by rw [Int.toNat_of_nonneg (by omega)]⟩
    rw [hy] at hgt hcs hk
    replace hy := Lib.hid hy
    simp only [Hd.val] at hgt
    simp only [Int.toNat_natCast, List.drop_drop] at hcs hk
    replace hgt := Lib.hid hgt
    obtain ⟨k, hk8⟩ : ∃ k : Nat, 8 + m = k := ⟨_, rfl⟩
    rw [hk8] at hcs
    have hk9 : 8 + (m : Int) = (k : Int) := by omega
    obtain ⟨A3, hA3, hr3⟩ := hrB.cut (m := k) (cap := c) (by omega) (by omega)
    replace hA3 : (if c = k then some ⟨b, o, none⟩ else some ⟨b, o + k, none⟩) = A3 := by have hk0 : (k = 0) = False := (by simp; omega); rw [← hA3]; simp [Addr.add, hk0]
    rcases hcs with ⟨hlt, rfl⟩ | ⟨hge, hlt, rfl⟩ | ⟨hge, hle, hcs⟩
    · have d1 : decide (len - k < 8) = true := by simp; omega
      have d2 : decide (((len - k : Nat) : Int) < 8) = true := by simp; omega
      clear hlt
      go_wp2_with fail
      refine (hgt.out _ bel).mono ?_
      rintro e w' ⟨rfl, hb⟩
      replace bk := bk.bel hb
      replace bh := bh.bel hb
      replace bp := bp.bel hb
      replace bel := bel_after bel hb
      clear hb
      have bkl := bk.lt
      go_wp2_with (first | (refine wpList_stRow rfl rfl rfl rfl rfl (Blk.new _ _ _) rhd_size rfl (by simp [Value.oneCell']) ?_; have by_ := (Blk.new w' 77 #[.int .i64 0, .int .i64 0, .int .i64 0, .int .i64 0, .int .u32 0, .int .u32 0]).setRow #[.int .i64 (m : Int), .int .i64 y1, .int .i64 y2, .int .i64 y3, .int .u32 y4, .int .u32 y5]; replace bk := (bk.alloc (.cells #[.int .i64 0, .int .i64 0, .int .i64 0, .int .i64 0, .int .u32 0, .int .u32 0] 77)).setRow_far (g' := w'.heap.size) (by have := bk.lt; omega) #[.int .i64 (m : Int), .int .i64 y1, .int .i64 y2, .int .i64 y3, .int .u32 y4, .int .u32 y5]; replace bh := (bh.alloc (.cells #[.int .i64 0, .int .i64 0, .int .i64 0, .int .i64 0, .int .u32 0, .int .u32 0] 77)).setRow_far (g' := w'.heap.size) (by have := bh.lt; omega) #[.int .i64 (m : Int), .int .i64 y1, .int .i64 y2, .int .i64 y3, .int .u32 y4, .int .u32 y5]; replace bp := (bp.alloc (.cells #[.int .i64 0, .int .i64 0, .int .i64 0, .int .i64 0, .int .u32 0, .int .u32 0] 77)).setRow_far (g' := w'.heap.size) (by have := bp.lt; omega) #[.int .i64 (m : Int), .int .i64 y1, .int .i64 y2, .int .i64 y3, .int .u32 y4, .int .u32 y5]; replace bel := below_setRow (bel.alloc bel.size (.cells #[.int .i64 0, .int .i64 0, .int .i64 0, .int .i64 0, .int .u32 0, .int .u32 0] 77)) bel.size #[.int .i64 (m : Int), .int .i64 y1, .int .i64 y2, .int .i64 y3, .int .u32 y4, .int .u32 y5]; have hg3 : w.heap.size + 2 < w'.heap.size := (by have := bkl; omega); generalize (w'.alloc (.cells #[.int .i64 0, .int .i64 0, .int .i64 0, .int .i64 0, .int .u32 0, .int .u32 0] 77)).setRow w'.heap.size #[.int .i64 (m : Int), .int .i64 y1, .int .i64 y2, .int .i64 y3, .int .u32 y4, .int .u32 y5] = W3 at *; generalize w'.heap.size = g3 at *; have q0 := by_.cell 0; have q1 := by_.cell 1; have q3 := by_.cell 3) | (refine wpList_stRow rfl rfl rfl rfl rfl bk rpt_size rfl (by simp [Value.oneCell', Pt.z, Hd.z, portsP]) ?_))
      exact bodyPost_ret (results_row2 rfl _ rfl (bk.setRow _) Try.underlying97 rpt_size) rfl ⟨rfl, below_setRow bel (by omega) _⟩
    · have d1 : decide (len - k < 8) = false := by simp; omega
      have d2 : decide (((len - k : Nat) : Int) < 8) = false := by simp; omega
      have d3 : decide (y1 < (m : Int) + 8) = true := by simp; omega
      clear hlt
      go_wp2_with fail
      refine (hgt.out _ bel).mono ?_
      rintro e w' ⟨rfl, hb⟩
      replace bk := bk.bel hb
      replace bh := bh.bel hb
      replace bp := bp.bel hb
      replace bel := bel_after bel hb
      clear hb
      have bkl := bk.lt
      go_wp2_with (first | (refine wpList_stRow rfl rfl rfl rfl rfl (Blk.new _ _ _) rhd_size rfl (by simp [Value.oneCell']) ?_; have by_ := (Blk.new w' 77 #[.int .i64 0, .int .i64 0, .int .i64 0, .int .i64 0, .int .u32 0, .int .u32 0]).setRow #[.int .i64 (m : Int), .int .i64 y1, .int .i64 y2, .int .i64 y3, .int .u32 y4, .int .u32 y5]; replace bk := (bk.alloc (.cells #[.int .i64 0, .int .i64 0, .int .i64 0, .int .i64 0, .int .u32 0, .int .u32 0] 77)).setRow_far (g' := w'.heap.size) (by have := bk.lt; omega) #[.int .i64 (m : Int), .int .i64 y1, .int .i64 y2, .int .i64 y3, .int .u32 y4, .int .u32 y5]; replace bh := (bh.alloc (.cells #[.int .i64 0, .int .i64 0, .int .i64 0, .int .i64 0, .int .u32 0, .int .u32 0] 77)).setRow_far (g' := w'.heap.size) (by have := bh.lt; omega) #[.int .i64 (m : Int), .int .i64 y1, .int .i64 y2, .int .i64 y3, .int .u32 y4, .int .u32 y5]; replace bp := (bp.alloc (.cells #[.int .i64 0, .int .i64 0, .int .i64 0, .int .i64 0, .int .u32 0, .int .u32 0] 77)).setRow_far (g' := w'.heap.size) (by have := bp.lt; omega) #[.int .i64 (m : Int), .int .i64 y1, .int .i64 y2, .int .i64 y3, .int .u32 y4, .int .u32 y5]; replace bel := below_setRow (bel.alloc bel.size (.cells #[.int .i64 0, .int .i64 0, .int .i64 0, .int .i64 0, .int .u32 0, .int .u32 0] 77)) bel.size #[.int .i64 (m : Int), .int .i64 y1, .int .i64 y2, .int .i64 y3, .int .u32 y4, .int .u32 y5]; have hg3 : w.heap.size + 2 < w'.heap.size := (by have := bkl; omega); generalize (w'.alloc (.cells #[.int .i64 0, .int .i64 0, .int .i64 0, .int .i64 0, .int .u32 0, .int .u32 0] 77)).setRow w'.heap.size #[.int .i64 (m : Int), .int .i64 y1, .int .i64 y2, .int .i64 y3, .int .u32 y4, .int .u32 y5] = W3 at *; generalize w'.heap.size = g3 at *; have q0 := by_.cell 0; have q1 := by_.cell 1; have q3 := by_.cell 3) | (refine wpList_stRow rfl rfl rfl rfl rfl bk rpt_size rfl (by simp [Value.oneCell', Pt.z, Hd.z, portsP]) ?_))
      exact bodyPost_ret (results_row2 rfl _ rfl (bk.setRow _) Try.underlying97 rpt_size) rfl ⟨rfl, below_setRow bel (by omega) _⟩
    · exact absurd ⟨he, by rw [hy.out]; exact hge, by rw [hy.out]; exact hle⟩ hbad.out
end Go.Proofs.Ytjaacmecniijgaa
