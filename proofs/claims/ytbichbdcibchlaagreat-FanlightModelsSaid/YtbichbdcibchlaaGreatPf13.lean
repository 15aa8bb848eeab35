/- Contracts and plain facts. -/
import Derived.Test.YtbichbdcibchlaaGreatPf10
import Derived.Test.YtbichbdcibchlaaGreatPf01
import Derived.Test.YtbichbdcibchlaaGreatPf05
import Derived.Test.YtbichbdcibchlaaGreatPf11
import Derived.Test.YtbichbdcibchlaaGreatPf12
namespace Go.Proofs.YtbichbdcibchlaaGreat
set_option linter.unusedVariables false
set_option linter.unusedSimpArgs false
set_option maxRecDepth 100000
set_option maxHeartbeats 16000000
open Go.RowKit
theorem rPGet_tcp (m n : Nat) (h2 h4 h5 : Int) (l : List Int) (A : Option Addr) (b o len c : Nat) (w : World) (hlc : len ≤ c) (hcm : c ≤ 9223372036854775807) (hl : len ≤ 60000) (hm1 : 20 ≤ m) (hm2 : m ≤ 60) (hm3 : m ≤ n) (hm4 : n ≤ len) (hA2 : (if c = m then some ⟨b, o, none⟩ else some ⟨b, o + m, none⟩) = A) (hr : Rd .u8 w w.heap.size A (n - m) l) (hs : 0 ≤ h4 ∧ h4 ≤ 4294967295) (hd : 0 ≤ h5 ∧ h5 ≤ 4294967295) :
  Calls Tryz.prog 23 #[(⟨(m : Int), (n : Int), h2, 6, h4, h5⟩ : Hd).val, .slice (some ⟨b, o, none⟩) len c] w (Tells w (tcpR ⟨(m : Int), (n : Int), h2, 6, h4, h5⟩ l)) := by
 have hcs := tcpR_cases ⟨(m : Int), (n : Int), h2, 6, h4, h5⟩ l
 rw [hr.len] at hcs
 generalize tcpR ⟨(m : Int), (n : Int), h2, 6, h4, h5⟩ l = R at *
 unfold Hd.val Tells
 simp only at hcs ⊢
 have d1 : decide ((m : Int) < 20) = false := by simp; omega
 have d2 : decide (60 < (m : Int)) = false := by simp; omega
 rcases hcs with ⟨hlt, rfl⟩ | hcs
 ·have d3 : decide (n - m < 20) = true := by simpa using hlt
  have d4 : decide (((n - m : Nat) : Int) < 20) = true := by simp; omega
  clear hr
  go_enter Tryz.func23, Tryz.ntmps23
  go_upto_region 1 with fail
  have bh := (Blk.new w 52 (A4 (m : Int) (n : Int) h2 6 h4 h5)).alloc (.cells Z0 54)
  have bk := Blk.new (w.alloc (.cells (A4 (m : Int) (n : Int) h2 6 h4 h5) 52)) 54 Z0
  rw [show (w.alloc (.cells (A4 (m : Int) (n : Int) h2 6 h4 h5) 52)).heap.size = w.heap.size + 1 by simp] at bk
  have bel : Below w.heap.size w ((w.alloc (.cells (A4 (m : Int) (n : Int) h2 6 h4 h5) 52)).alloc (.cells Z0 54)) := (bel_alloc _ _).alloc (by simp) _
  generalize ((w.alloc (.cells (A4 (m : Int) (n : Int) h2 6 h4 h5) 52)).alloc (.cells Z0 54)) = W at *
  have q0 := bh.cell 0
  have q1 := bh.cell 1
  have q3 := bh.cell 3
  go_wp2_with (first | (refine wpList_stRow rfl rfl rfl rfl rfl (Blk.new _ _ _) rpt_size rfl (by simp [Value.oneCell']) ?_; have bp := (Blk.new W 54 Z0).setRow Z7; have hg3 : w.heap.size + 1 < W.heap.size := bk.lt; replace bk := (bk.alloc (.cells Z0 54)).setRow_far (g' := W.heap.size) (by omega) Z7; replace bh := (bh.alloc (.cells Z0 54)).setRow_far (g' := W.heap.size) (by omega) Z7; replace bel := below_setRow (bel.alloc bel.size (.cells Z0 54)) bel.size Z7; generalize (W.alloc (.cells Z0 54)).setRow W.heap.size Z7 = W1 at *; generalize W.heap.size = g3 at *; have q3 := bh.cell 3) | (refine wpList_stRow rfl rfl rfl rfl rfl bk rpt_size rfl (by simp [Value.oneCell', Pt.z, Hd.z, portsP]) ?_))
  exact bodyPost_ret (results_row2 rfl _ rfl (bk.setRow _) Tryz.underlying54 rpt_size) rfl ⟨rfl, below_setRow bel (by omega) _⟩
 have h8 : 20 ≤ n - m := by rcases hcs with ⟨h, _⟩ | ⟨h, _⟩ | ⟨h, _⟩ | ⟨h, _⟩ <;> exact h
 have hcm1 : (c = m) = False := by simp; omega
 rw [if_neg (by omega)] at hA2
 subst hA2
 have d3 : decide (n - m < 20) = false := by simp; omega
 have d4 : decide (((n - m : Nat) : Int) < 20) = false := by simp; omega
 have hlr : ∀ x, x ∈ l → 0 ≤ x ∧ x ≤ 255 := fun x hx => inr_u8 (hr.rng x hx)
 have hll := hr.len
 have hb0 := n2_bd (i := 0) hlr (by omega)
 have hb2 := n2_bd (i := 2) hlr (by omega)
 have hrd := fun w' (hb : Below w.heap.size w w') => (hr.below hb).more hb.size
 have hn0 := fun w' (hb : Below w.heap.size w w') => Num_any (seg l 0 2) (some ⟨b, o + m, none⟩) 2 (c - m) _ w' (by omega) ((hrd _ hb).sub 0 2 (by omega))
 have hn2 := fun w' (hb : Below w.heap.size w w') => Num_any (seg l 2 2) (some ⟨b, o + m + 2, none⟩) 2 (c - m - 2) _ w' (by omega) ((hrd _ hb).sub 2 2 (by omega))
 have hps := fun w' (hb : Below w.heap.size w w') => Pseudo_any h4 h5 6 l (some ⟨b, o + m, none⟩) (n - m) (c - m) _ w' (hrd _ hb) (Nat.le_refl _) hs hd (by omega) (by omega)
 have hc12 := fun w' hb => (hrd w' hb).cell 12 (by omega)
 have hc13 := fun w' hb => (hrd w' hb).cell 13 (by omega)
 rw [show numOf (seg l 0 2) = n2 l 0 from rfl] at hn0
 rw [show numOf (seg l 2 2) = n2 l 2 from rfl] at hn2
 have hP : ∀ x, (portsP { Pt.z with proto := 6, flags := x } l 0 2).val = .agg (A0 6 (n2 l 0) (n2 l 2) x 0 0 false 0 0 0 0 0 0 0 false) := fun x => rfl
 obtain ⟨N0, hN0⟩ : ∃ N, N = n2 l 0 := ⟨_, rfl⟩
 obtain ⟨N2, hN2⟩ : ∃ N, N = n2 l 2 := ⟨_, rfl⟩
 obtain ⟨f12, hx6⟩ : ∃ N, N = l.getD 12 0 := ⟨_, rfl⟩
 obtain ⟨f13, hx7⟩ : ∃ N, N = l.getD 13 0 := ⟨_, rfl⟩
 obtain ⟨S, hS⟩ : ∃ N, N = csum h4 h5 6 l := ⟨_, rfl⟩
 rw [← hS] at hcs hps
 rw [← hN0] at hn0 hb0
 rw [← hN2] at hn2 hb2
 rw [← hx6, ← hx7] at hcs
 simp only [← hN0, ← hN2] at hP
 simp only [← hx6] at hc12
 simp only [← hx7] at hc13
 clear hS hN0 hN2 hx6 hx7 hlr hll hrd hr
 replace hn0 := Lib.hid hn0
 replace hn2 := Lib.hid hn2
 replace hps := Lib.hid hps
 replace hP := Lib.hid hP
 replace hc12 := Lib.hid hc12
 replace hc13 := Lib.hid hc13
 rcases hcs with ⟨_, hq, rfl⟩ | ⟨_, hq, hq2, rfl⟩ | ⟨_, hq, hq2, hc, rfl⟩ | ⟨_, hq, hq2, hc, rfl⟩
 ·have e1 : decide (f12 / 16 * 4 < 20) = true := by simp; omega
  go_enter Tryz.func23, Tryz.ntmps23
  go_upto_region 1 with fail
  have bh := (Blk.new w 52 (A4 (m : Int) (n : Int) h2 6 h4 h5)).alloc (.cells Z0 54)
  have bk := Blk.new (w.alloc (.cells (A4 (m : Int) (n : Int) h2 6 h4 h5) 52)) 54 Z0
  rw [show (w.alloc (.cells (A4 (m : Int) (n : Int) h2 6 h4 h5) 52)).heap.size = w.heap.size + 1 by simp] at bk
  have bel : Below w.heap.size w ((w.alloc (.cells (A4 (m : Int) (n : Int) h2 6 h4 h5) 52)).alloc (.cells Z0 54)) := (bel_alloc _ _).alloc (by simp) _
  generalize ((w.alloc (.cells (A4 (m : Int) (n : Int) h2 6 h4 h5) 52)).alloc (.cells Z0 54)) = W at *
  have q0 := bh.cell 0
  have q1 := bh.cell 1
  have q3 := bh.cell 3
  go_upto_region 18 with (refine wpList_stRow rfl rfl rfl rfl rfl (Blk.new _ _ _) rpt_size rfl (by simp [Value.oneCell']) ?_; have bp := (Blk.new W 54 Z0).setRow Z7; have hg3 : w.heap.size + 1 < W.heap.size := bk.lt; replace bk := (bk.alloc (.cells Z0 54)).setRow_far (g' := W.heap.size) (by omega) Z7; replace bh := (bh.alloc (.cells Z0 54)).setRow_far (g' := W.heap.size) (by omega) Z7; replace bel := below_setRow (bel.alloc bel.size (.cells Z0 54)) bel.size Z7; generalize (W.alloc (.cells Z0 54)).setRow W.heap.size Z7 = W1 at *; generalize W.heap.size = g3 at *; have q3 := bh.cell 3)
  obtain ⟨c12, r12⟩ := hc12.out _ bel
  replace r12 := inr_u8 r12
  have q14 := bp.cell 14
  go_upto_region 19 with fail
  clear c12
  go_wp2_with (refine wpList_stRow rfl rfl rfl rfl rfl bk rpt_size rfl (by simp [Value.oneCell', Pt.z, Hd.z, portsP]) ?_)
  exact bodyPost_ret (results_row2 rfl _ rfl (bk.setRow _) Tryz.underlying54 rpt_size) rfl ⟨rfl, below_setRow bel (by omega) _⟩
 ·have e1 : decide (f12 / 16 * 4 < 20) = false := by simp; omega
  have e2 : decide (((n - m : Nat) : Int) < f12 / 16 * 4) = true := by simp; omega
  go_enter Tryz.func23, Tryz.ntmps23
  go_upto_region 1 with fail
  have bh := (Blk.new w 52 (A4 (m : Int) (n : Int) h2 6 h4 h5)).alloc (.cells Z0 54)
  have bk := Blk.new (w.alloc (.cells (A4 (m : Int) (n : Int) h2 6 h4 h5) 52)) 54 Z0
  rw [show (w.alloc (.cells (A4 (m : Int) (n : Int) h2 6 h4 h5) 52)).heap.size = w.heap.size + 1 by simp] at bk
  have bel : Below w.heap.size w ((w.alloc (.cells (A4 (m : Int) (n : Int) h2 6 h4 h5) 52)).alloc (.cells Z0 54)) := (bel_alloc _ _).alloc (by simp) _
  generalize ((w.alloc (.cells (A4 (m : Int) (n : Int) h2 6 h4 h5) 52)).alloc (.cells Z0 54)) = W at *
  have q0 := bh.cell 0
  have q1 := bh.cell 1
  have q3 := bh.cell 3
  go_upto_region 18 with (refine wpList_stRow rfl rfl rfl rfl rfl (Blk.new _ _ _) rpt_size rfl (by simp [Value.oneCell']) ?_; have bp := (Blk.new W 54 Z0).setRow Z7; have hg3 : w.heap.size + 1 < W.heap.size := bk.lt; replace bk := (bk.alloc (.cells Z0 54)).setRow_far (g' := W.heap.size) (by omega) Z7; replace bh := (bh.alloc (.cells Z0 54)).setRow_far (g' := W.heap.size) (by omega) Z7; replace bel := below_setRow (bel.alloc bel.size (.cells Z0 54)) bel.size Z7; generalize (W.alloc (.cells Z0 54)).setRow W.heap.size Z7 = W1 at *; generalize W.heap.size = g3 at *; have q3 := bh.cell 3)
  obtain ⟨c12, r12⟩ := hc12.out _ bel
  replace r12 := inr_u8 r12
  have q14 := bp.cell 14
  go_upto_region 19 with fail
  clear c12
  go_wp2_with (refine wpList_stRow rfl rfl rfl rfl rfl bk rpt_size rfl (by simp [Value.oneCell', Pt.z, Hd.z, portsP]) ?_)
  exact bodyPost_ret (results_row2 rfl _ rfl (bk.setRow _) Tryz.underlying54 rpt_size) rfl ⟨rfl, below_setRow bel (by omega) _⟩
 ·have e1 : decide (f12 / 16 * 4 < 20) = false := by simp; omega
  have e2 : decide (((n - m : Nat) : Int) < f12 / 16 * 4) = false := by simp; omega
  have e3 : (S != 0) = true := by simpa using hc
  go_enter Tryz.func23, Tryz.ntmps23
  go_upto_region 1 with fail
  have bh := (Blk.new w 52 (A4 (m : Int) (n : Int) h2 6 h4 h5)).alloc (.cells Z0 54)
  have bk := Blk.new (w.alloc (.cells (A4 (m : Int) (n : Int) h2 6 h4 h5) 52)) 54 Z0
  rw [show (w.alloc (.cells (A4 (m : Int) (n : Int) h2 6 h4 h5) 52)).heap.size = w.heap.size + 1 by simp] at bk
  have bel : Below w.heap.size w ((w.alloc (.cells (A4 (m : Int) (n : Int) h2 6 h4 h5) 52)).alloc (.cells Z0 54)) := (bel_alloc _ _).alloc (by simp) _
  generalize ((w.alloc (.cells (A4 (m : Int) (n : Int) h2 6 h4 h5) 52)).alloc (.cells Z0 54)) = W at *
  have q0 := bh.cell 0
  have q1 := bh.cell 1
  have q3 := bh.cell 3
  go_upto_region 18 with (refine wpList_stRow rfl rfl rfl rfl rfl (Blk.new _ _ _) rpt_size rfl (by simp [Value.oneCell']) ?_; have bp := (Blk.new W 54 Z0).setRow Z7; have hg3 : w.heap.size + 1 < W.heap.size := bk.lt; replace bk := (bk.alloc (.cells Z0 54)).setRow_far (g' := W.heap.size) (by omega) Z7; replace bh := (bh.alloc (.cells Z0 54)).setRow_far (g' := W.heap.size) (by omega) Z7; replace bel := below_setRow (bel.alloc bel.size (.cells Z0 54)) bel.size Z7; generalize (W.alloc (.cells Z0 54)).setRow W.heap.size Z7 = W1 at *; generalize W.heap.size = g3 at *; have q3 := bh.cell 3)
  obtain ⟨c12, r12⟩ := hc12.out _ bel
  replace r12 := inr_u8 r12
  have q14 := bp.cell 14
  go_upto_region 19 with fail
  clear c12
  have q4 := bh.cell 4
  have q5 := bh.cell 5
  go_wp2_with fail
  refine (hps.out _ bel).mono ?_
  rintro e W3 ⟨rfl, hb⟩
  replace bp := bp.bel hb
  replace bk := bk.bel hb
  replace bh := bh.bel hb
  replace bel := bel_after bel hb
  clear hb q4 q5 q14
  go_wp2_with (refine wpList_stRow rfl rfl rfl rfl rfl bk rpt_size rfl (by simp [Value.oneCell', Pt.z, Hd.z, portsP]) ?_)
  exact bodyPost_ret (results_row2 rfl _ rfl (bk.setRow _) Tryz.underlying54 rpt_size) rfl ⟨rfl, below_setRow bel (by omega) _⟩
 ·have e1 : decide (f12 / 16 * 4 < 20) = false := by simp; omega
  have e2 : decide (((n - m : Nat) : Int) < f12 / 16 * 4) = false := by simp; omega
  subst hc
  go_enter Tryz.func23, Tryz.ntmps23
  go_upto_region 1 with fail
  have bh := (Blk.new w 52 (A4 (m : Int) (n : Int) h2 6 h4 h5)).alloc (.cells Z0 54)
  have bk := Blk.new (w.alloc (.cells (A4 (m : Int) (n : Int) h2 6 h4 h5) 52)) 54 Z0
  rw [show (w.alloc (.cells (A4 (m : Int) (n : Int) h2 6 h4 h5) 52)).heap.size = w.heap.size + 1 by simp] at bk
  have bel : Below w.heap.size w ((w.alloc (.cells (A4 (m : Int) (n : Int) h2 6 h4 h5) 52)).alloc (.cells Z0 54)) := (bel_alloc _ _).alloc (by simp) _
  generalize ((w.alloc (.cells (A4 (m : Int) (n : Int) h2 6 h4 h5) 52)).alloc (.cells Z0 54)) = W at *
  have q0 := bh.cell 0
  have q1 := bh.cell 1
  have q3 := bh.cell 3
  go_upto_region 18 with (refine wpList_stRow rfl rfl rfl rfl rfl (Blk.new _ _ _) rpt_size rfl (by simp [Value.oneCell']) ?_; have bp := (Blk.new W 54 Z0).setRow Z7; have hg3 : w.heap.size + 1 < W.heap.size := bk.lt; replace bk := (bk.alloc (.cells Z0 54)).setRow_far (g' := W.heap.size) (by omega) Z7; replace bh := (bh.alloc (.cells Z0 54)).setRow_far (g' := W.heap.size) (by omega) Z7; replace bel := below_setRow (bel.alloc bel.size (.cells Z0 54)) bel.size Z7; generalize (W.alloc (.cells Z0 54)).setRow W.heap.size Z7 = W1 at *; generalize W.heap.size = g3 at *; have q3 := bh.cell 3)
  obtain ⟨c12, r12⟩ := hc12.out _ bel
  replace r12 := inr_u8 r12
  have q14 := bp.cell 14
  go_upto_region 19 with fail
  clear c12
  have q4 := bh.cell 4
  have q5 := bh.cell 5
  go_wp2_with fail
  refine (hps.out _ bel).mono ?_
  rintro e W3 ⟨rfl, hb⟩
  replace bp := bp.bel hb
  replace bk := bk.bel hb
  replace bh := bh.bel hb
  replace bel := bel_after bel hb
  clear hb q4 q5 q14
  obtain ⟨c13, r13⟩ := hc13.out _ bel
  replace r13 := inr_u8 r13
  have q3 := bp.cell 3
  have s3 := bp.frozen 3
  go_upto_region 26 with fail
  clear q3 s3 c13
  replace bh := bh.far (p := ⟨g3, 3, none⟩) (by show w.heap.size ≠ g3; omega) (.int .i64 f13)
  replace bk := bk.far (p := ⟨g3, 3, none⟩) (by show w.heap.size + 1 ≠ g3; omega) (.int .i64 f13)
  replace bel := bel.setCell (p := ⟨g3, 3, none⟩) (by show w.heap.size ≤ g3; omega) (.int .i64 f13)
  replace bp := bp.set_ 3 (.int .i64 f13)
  simp only [List.setIfInBounds_toArray, List.set_cons_succ, List.set_cons_zero] at bp
  generalize W3.setCell ⟨g3, 3, none⟩ (.int .i64 f13) = W4 at *
  go_upto_region 26 with fail
  have : Nonempty (Tw (fun w' => Below w.heap.size w w')) := ⟨⟨_, bel⟩⟩
  refine wp_region_plan (fun w' => Below w.heap.size w w') [(0, true), (1, true), (4, true), (5, true), (2, false), (3, true), (8, true), (6, false), (7, true), (9, false), (10, true), (11, false)] (by kernel_rfl) (by kernel_rfl) (by kernel_rfl) (by kernel_rfl) bel.drew ?_
  replace bp := bp.drew
  replace bk := bk.drew
  replace bel := bel.drew
  generalize W4.drew = W8 at *
  refine wpPl_qs 4 _ _ _ (by kernel_rfl) (by kernel_rfl) (by simp) ?_
  unfold clsS
  simp only [qq1, qq2, qq3, qq4, List.filterMap_cons, qq6, qq7, qq8, qq9]
  repeat (first | go_big_quiet_skip | (go_big_quiet_want; go_big_quiet_op; go_big_quiet_on) | refine id (?_ : wpQuiet _ _ _ _ (_ :: _) _))
  refine wpQuiet_nil ?_
  refine wpPl_e _ (by rfl) (by kernel_rfl) (fun K hK => ?_)
  go_simp
  refine (hn0.out _ bel).mono ?_
  rintro e w1 ⟨rfl, rfl⟩
  refine hK _ _ bel ?_
  clear hK K
  refine wpPl_qs 2 _ _ _ (by kernel_rfl) (by kernel_rfl) (by simp) ?_
  unfold clsS
  simp only [qq1, qq2, qq3, qq4, List.filterMap_cons, qq6, qq7, qq8, qq9]
  repeat (first | go_big_quiet_skip | (go_big_quiet_want; go_big_quiet_op; go_big_quiet_on) | refine id (?_ : wpQuiet _ _ _ _ (_ :: _) _))
  refine wpQuiet_nil ?_
  refine wpPl_e _ (by rfl) (by kernel_rfl) (fun K hK => ?_)
  go_simp
  refine (hn2.out _ bel).mono ?_
  rintro e w1 ⟨rfl, rfl⟩
  refine hK _ _ bel ?_
  clear hK K
  refine wpPl_qs 1 _ _ _ (by kernel_rfl) (by kernel_rfl) (by simp) ?_
  unfold clsS
  simp only [qq1, qq2, qq3, qq4, List.filterMap_cons, qq6, qq7, qq8, qq9]
  repeat (first | go_big_quiet_skip | (go_big_quiet_want; go_big_quiet_op; go_big_quiet_on) | refine id (?_ : wpQuiet _ _ _ _ (_ :: _) _))
  refine wpQuiet_nil ?_
  have q1 := bp.cell 1
  have r1 := bp.frozen 1
  refine wpPl_e _ (by rfl) (by kernel_rfl) (fun K hK => ?_)
  go_simp
  replace bk := bk.far (p := ⟨g3, 1, none⟩) (by show w.heap.size + 1 ≠ g3; omega) (.int .u16 N0)
  replace bel := bel.setCell (p := ⟨g3, 1, none⟩) (by show w.heap.size ≤ g3; omega) (.int .u16 N0)
  replace bp := bp.set_ 1 (.int .u16 N0)
  clear q1 r1
  refine hK _ _ bel ?_
  clear hK K
  refine wpPl_qs 1 _ _ _ (by kernel_rfl) (by kernel_rfl) (by simp) ?_
  unfold clsS
  simp only [qq1, qq2, qq3, qq4, List.filterMap_cons, qq6, qq7, qq8, qq9]
  repeat (first | go_big_quiet_skip | (go_big_quiet_want; go_big_quiet_op; go_big_quiet_on) | refine id (?_ : wpQuiet _ _ _ _ (_ :: _) _))
  refine wpQuiet_nil ?_
  have q2 := bp.cell 2
  have r2 := bp.frozen 2
  refine wpPl_e _ (by rfl) (by kernel_rfl) (fun K hK => ?_)
  go_simp
  replace bk := bk.far (p := ⟨g3, 2, none⟩) (by show w.heap.size + 1 ≠ g3; omega) (.int .u16 N2)
  replace bel := bel.setCell (p := ⟨g3, 2, none⟩) (by show w.heap.size ≤ g3; omega) (.int .u16 N2)
  replace bp := bp.set_ 2 (.int .u16 N2)
  clear q2 r2
  refine hK _ _ bel ?_
  clear hK K
  unfold wpPl
  refine NoPanic.normal ?_
  simp only [List.setIfInBounds_toArray, List.set_cons_succ, List.set_cons_zero] at bp
  generalize ((W8.setCell ⟨g3, 1, none⟩ (.int .u16 N0)).setCell ⟨g3, 2, none⟩ (.int .u16 N2)) = W9 at *
  go_wp2_with (first
   | (refine wpList_ldRow rfl rfl rfl bp Tryz.underlying54 rpt_size ?_)
   | (refine wpList_stRow rfl rfl rfl rfl rfl bk rpt_size rfl (by simp [Value.oneCell']) ?_))
  refine bodyPost_ret (results_row2 rfl _ rfl (bk.setRow _) Tryz.underlying54 rpt_size) rfl ⟨?_, below_setRow bel (by omega) _⟩
  exact congrArg (fun x => Ending.returned (.tuple #[x, .int .i64 0])) (hP.out f13).symm
theorem rPGet_any (h : Hd) (l : List Int) (A : Option Addr) (len c B : Nat) (w : World) (hr : Rd .u8 w B A len l) (hB : B ≤ w.heap.size) (hlc : len ≤ c) (hcm : c ≤ 9223372036854775807) (hl : len ≤ 60000) (hs : 0 ≤ h.src ∧ h.src ≤ 4294967295) (hd : 0 ≤ h.dst ∧ h.dst ≤ 4294967295) :
  Calls Tryz.prog 23 #[h.val, .slice A len c] w (Tells w (getR h l)) := by
 unfold getR
 rw [hr.len]
 by_cases hbad : h.size < 20 ∨ 60 < h.size ∨ h.len < h.size ∨ (len : Int) < h.len
 ·rw [if_pos hbad]; exact rPGet_bad h l A len c w hbad
 rw [if_neg hbad]
 obtain ⟨h0, h1, h2, h3, h4, h5⟩ := h
 simp only at hs hd hbad ⊢
 obtain ⟨m, rfl⟩ : ∃ m : Nat, h0 = (m : Int) := ⟨h0.toNat, by omega⟩
 obtain ⟨n, rfl⟩ : ∃ n : Nat, h1 = (n : Int) := ⟨h1.toNat, by omega⟩
 obtain ⟨b, o, rfl⟩ := hr.form (by omega)
 have hr2 := arg_Rd (m := m) (n := n) (hr.more hB) (by omega) (by omega) hlc
 rw [Int.toNat_natCast, show ((n : Int) - m).toNat = n - m by omega]
 by_cases h17 : h3 = 17
 ·subst h17
  rw [if_pos rfl]
  exact rPGet_udp m n h2 h4 h5 _ _ b o len c w hlc hcm hl (by omega) (by omega) (by omega) (by omega) rfl hr2 hs hd
 rw [if_neg h17]
 by_cases h6 : h3 = 6
 ·subst h6
  rw [if_pos rfl]
  exact rPGet_tcp m n h2 h4 h5 _ _ b o len c w hlc hcm hl (by omega) (by omega) (by omega) (by omega) rfl hr2 hs hd
 rw [if_neg h6]
 by_cases h1 : h3 = 1
 ·subst h1
  rw [if_pos rfl]
  exact rPGet_icmp m n h2 h4 h5 _ _ b o len c w hlc hcm hl (by omega) (by omega) (by omega) (by omega) rfl hr2
 rw [if_neg h1]
 exact rPGet_else m n h2 h3 h4 h5 _ b o len c w hlc hcm (by omega) (by omega) (by omega) (by omega) rfl h17 h6 h1
section
variable {P : Program}
end
theorem rfew_any (l : List Int) (A : Option Addr) (len c B : Nat) (w : World) (hr : Rd .u8 w B A len l) (hlc : len ≤ c) (hcm : c ≤ 9223372036854775807) :
  Calls Tryz.prog 88 #[.slice A len c] w fun e w' => (∃ c', e = .returned (.slice A (fewL l).length c') ∧ (fewL l).length ≤ c' ∧ c' ≤ 9223372036854775807 ∧ Rd .u8 w B A (fewL l).length (fewL l)) ∧ w = w' := by
 have hm : (fewL l).length = min 1400 len := by unfold fewL; rw [List.length_take, hr.len]
 have hrd : Rd .u8 w B A (fewL l).length (fewL l) := by
  have e : l.take (min 1400 len) = l.take 1400 := List.take_eq_take_iff.2 (by rw [hr.len]; omega)
  rw [hm]; unfold fewL; rw [← e]; exact hr.take (m := min 1400 len) (by omega)
 rw [hm] at hrd ⊢
 generalize fewL l = F at *
 clear hm
 by_cases h : len ≤ 1400
 ·have e : min 1400 len = len := by omega
  rw [e] at hrd ⊢
  clear e
  go_enter Tryz.func88, Tryz.ntmps88
  have hc : min (len : Int) 1400 = (len : Int) := by omega
  go_wp2
  go_ret
  refine ⟨⟨c, rfl, hlc, ?_⟩, rfl⟩
  first | exact ⟨hcm, hrd⟩ | exact hcm
 ·have e : min 1400 len = 1400 := by omega
  rw [e] at hrd ⊢
  clear e
  go_enter Tryz.func88, Tryz.ntmps88
  have hc : min (len : Int) 1400 = 1400 := by omega
  go_wp2
  go_ret
  refine ⟨⟨c, rfl, by omega, ?_⟩, rfl⟩
  first | exact ⟨hcm, hrd⟩ | exact hcm
theorem rUdp_any (s d a b : Int) (l : List Int) (A : Option Addr) (len c B : Nat) (w : World) (hr : Rd .u8 w B A len l) (hB : B ≤ w.heap.size) (hlc : len ≤ c) (hcm : c ≤ 9223372036854775807) (hs : 0 ≤ s ∧ s ≤ 4294967295) (hd : 0 ≤ d ∧ d ≤ 4294967295) (ha : 0 ≤ a ∧ a ≤ 65535) (hb : 0 ≤ b ∧ b ≤ 65535) :
  Calls Tryz.prog 69 #[.int .u32 s, .int .u32 d, .int .u16 a, .int .u16 b, .slice A len c] w (Gives w (udpL s d a b l)) := by
 unfold udpL
 obtain ⟨i0, hi, hz0, hz1, hz2⟩ := info_parts info_u8_
 have hrB := hr.more hB
 have hfew := fun w' hr => rfew_any l A len c w.heap.size w' hr hlc hcm
 have hFl := fewL_len l
 have hFx : ∀ x, x ∈ fewL l → 0 ≤ x ∧ x ≤ 255 := fun x hx => inr_u8 (hr.rng x (fewL_mem hx))
 obtain ⟨F, hF⟩ : ∃ F, F = fewL l := ⟨_, rfl⟩
 rw [← hF] at hfew hFl hFx ⊢
 obtain ⟨m, hm⟩ : ∃ m, m = F.length := ⟨_, rfl⟩
 rw [← hm] at hfew hFl
 replace hfew := Lib.hid hfew
 replace hF := Lib.hid hF
 obtain ⟨L, hL⟩ : ∃ L, L = udpB a b F 0 := ⟨_, rfl⟩
 have hLl : L.length = 8 + m := by rw [hL, udpB_len, hm]
 rw [← hL]
 have hset := fun S => udpB_set a b F S
 rw [← hL] at hset
 have hps := fun (A' : Option Addr) (c' : Nat) (w' : World) (rd : Rd .u8 w' w'.heap.size A' (8 + m) L) => Pseudo_any s d 17 L A' (8 + m) c' _ w' rd (Nat.le_refl _) hs hd (by omega) (by omega)
 have hSb : (∀ x, x ∈ L → 0 ≤ x ∧ x ≤ 255) → 0 ≤ csum s d 17 L ∧ csum s d 17 L ≤ 65535 := fun h => csum_bd hs hd (by omega) (by omega) h
 obtain ⟨S, hS⟩ : ∃ S, S = csum s d 17 L := ⟨_, rfl⟩
 rw [← hS] at hps hSb ⊢
 obtain ⟨T, hT⟩ : ∃ T, T = nev S := ⟨_, rfl⟩
 rw [← hT]
 replace hset := Lib.hid (hset T)
 replace hT := Lib.hid hT
 replace hps := Lib.hid hps
 replace hLl := Lib.hid hLl
 replace hS := Lib.hid hS
 have eL : ((be2 a ++ be2 b) ++ be2 (8 + (m : Int)) ++ [0, 0]) ++ F = L := by rw [hL, hm]; simp [udpB]; rfl
 replace eL := Lib.hid eL
 replace hL := Lib.hid hL
 replace hm := Lib.hid hm
 go_enter Tryz.func69, Tryz.ntmps69
 go_wp2_with fail
 refine (hfew.out _ hrB).mono ?_
 rintro e w0 ⟨⟨c', rfl, hmc, hcm', rdF⟩, rfl⟩
 go_wp2_with fail
 refine (word_any a _ ha).mono ?_
 rintro e w1 ⟨rfl, hw1⟩
 have a1 := App.new_ w w.heap.size (be2 a) (be2_inr ha) (A16 (a / 256) (a % 256)) rfl 2 rfl (by omega) (Nat.le_refl _)
 rw [← hw1] at a1
 replace hw1 := Lib.hid hw1
 go_wp2_with fail
 refine (word_any (b) _ (by omega)).mono ?_
 rintro e w2 ⟨rfl, hw2⟩
 have x2 := Rd.new .u8 w1 5 (be2 (b)) (be2_inr (by omega)) (A16 ((b) / 256) ((b) % 256)) rfl 2 rfl
 have a2 := a1.alloc (.cells (A16 ((b) / 256) ((b) % 256)) 5)
 have hy2 : w2.heap.size = w1.heap.size + 1 := by rw [hw2]; simp
 rw [← hw2] at x2 a2
 replace hw2 := Lib.hid hw2
 have s2 := a2.bel.size
 go_wp2_with (at_builtin; (refine wpList_app _ rfl (.tmp 17) (.tmp 20) 36 rfl .u8 w.heap.size 5 i0 (.int .u8 0) 1 Tryz.underlying36 hi hz0 hz1 hz2 rfl _ (by rfl) _ a2.own (w1.heap.size + 1) _ 2 2 (by rfl) (be2 b) x2 (by simp [be2, be4]; try omega) (by decide) s2 ?_; intro v3 w3 own3 hg3 hb3; have a3 := a2.app own3 hg3 hb3; clear own3 hg3 hb3))
 refine (word_any (8 + (m : Int)) _ (by omega)).mono ?_
 rintro e w4 ⟨rfl, hw4⟩
 have x4 := Rd.new .u8 w3 5 (be2 (8 + (m : Int))) (be2_inr (by omega)) (A16 ((8 + (m : Int)) / 256) ((8 + (m : Int)) % 256)) rfl 2 rfl
 have a4 := a3.alloc (.cells (A16 ((8 + (m : Int)) / 256) ((8 + (m : Int)) % 256)) 5)
 have hy4 : w4.heap.size = w3.heap.size + 1 := by rw [hw4]; simp
 rw [← hw4] at x4 a4
 replace hw4 := Lib.hid hw4
 have s4 := a4.bel.size
 go_wp2_with (first
  | (at_builtin; (refine wpList_app _ rfl (.tmp 21) (.tmp 25) 36 rfl .u8 w.heap.size 5 i0 (.int .u8 0) 1 Tryz.underlying36 hi hz0 hz1 hz2 rfl _ (by rfl) _ a4.own (w3.heap.size + 1) _ 2 2 (by rfl) (be2 (8 + (m : Int))) x4 (by simp [be2, be4]; try omega) (by decide) s4 ?_; intro v5 w5 own5 hg5 hb5; have a5 := a4.app own5 hg5 hb5; clear own5 hg5 hb5))
  | (at_builtin; (have hx := Rd.new .u8 w5 5 [0, 0] (by intro y hy; simp at hy; subst hy; exact u8_inr (by omega)) (A16 0 0) rfl 2 rfl; refine wpList_app _ rfl (.tmp 26) (.tmp 27) 36 rfl .u8 w.heap.size 5 i0 (.int .u8 0) 1 Tryz.underlying36 hi hz0 hz1 hz2 rfl _ (by rfl) _ (a5.own.alloc _) (w5.heap.size + 1) _ 2 2 rfl [0, 0] hx (by simp [be2]) (by decide) (by have := a5.upd.size; simp; omega) ?_; intro v6 w6 own6 hg6 hb6; have a6 := (a5.alloc (.cells (A16 0 0) 5)).app own6 hg6 hb6; clear own6 hg6 hb6 hx; have rd6 := rdF.below a6.bel; have s6 := a6.bel.size))
  | (at_builtin; (refine wpList_app _ rfl (.tmp 29) (.tmp 30) 36 rfl .u8 w.heap.size 5 i0 (.int .u8 0) 1 Tryz.underlying36 hi hz0 hz1 hz2 rfl _ (by rfl) _ a6.own w.heap.size _ _ _ (by rfl) F rd6 (by simp [be2, be4]; try omega) (by decide) s6 ?_; intro v7 w7 own7 hg7 hb7; have a7 := a6.app own7 hg7 hb7; clear own7 hg7 hb7)))
 rw [eL.out] at a7
 have bel5 := a7.bel
 have own5 := a7.own
 clear a1 a2 a3 a4 a5 a6 a7 rd6 rdF eL x2 x4
 obtain ⟨g, c5, rfl, hc1, hc2, hg1, hg2⟩ := own5.formG hLl.out (by omega)
 have rd5 := own5.rd hLl.out
 have hSb := hSb (fun x hx => inr_u8 (own5.rng x hx))
 refine (hps.out _ c5 _ rd5).mono ?_
 rintro e w6 ⟨rfl, bel6⟩
 have bel8 := bel_after bel5 bel6
 have own8 := own5.below bel6
 clear bel5 bel6 rd5 own5
 by_cases hz : S = 0
 ·subst hz
  have hT2 : T = 65535 := by rw [hT.out]; rfl
  have h2 : (L.set 6 ((65535 : Int) / 256)).set (6 + 1) ((65535 : Int) % 256) = udpB a b F T := by rw [← hset.out, hT2]
  replace h2 := Lib.hid h2
  clear hT2
  have hgw : w.heap.size ≤ g := hg1
  have hSw : IntKind.u8.wrap ((65535 : Int)) = ((65535 : Int)) % 256 := IntKind.wrap_u8' _
  have own9 := (own8.set hLl.out 6 (x := ((65535 : Int)) / 256) (u8_inr (by omega))).set (by rw [List.length_set]; exact hLl.out) (6 + 1) (x := ((65535 : Int)) % 256) (u8_inr (by omega))
  have up9 := (Upd.one w6 g 6 (.int .u8 (((65535 : Int)) / 256))).trans (Upd.one _ g (6 + 1) (.int .u8 (((65535 : Int)) % 256)))
  obtain ⟨c0, f0, _⟩ := own8.at_ hLl.out (j := 6) (by omega)
  obtain ⟨c1, f1, _⟩ := own8.at_ hLl.out (j := 6 + 1) (by omega)
  go_wp2_with fail
  go_ret
  refine ⟨_, rfl, ?_, bel8.trans (up9.below bel8.size (fun x hx e => by omega))⟩
  rw [h2.out] at own9
  exact own9
 ·have hz2 : (S == 0) = false := by simpa using hz
  have hTS : T = S := by rw [hT.out]; unfold nev; rw [if_neg hz]
  have h2 : (L.set 6 (S / 256)).set (6 + 1) (S % 256) = udpB a b F T := by rw [← hset.out, hTS]
  replace h2 := Lib.hid h2
  clear hTS
  have hgw : w.heap.size ≤ g := hg1
  have hSw : IntKind.u8.wrap (S) = (S) % 256 := IntKind.wrap_u8' _
  have own9 := (own8.set hLl.out 6 (x := (S) / 256) (u8_inr (by omega))).set (by rw [List.length_set]; exact hLl.out) (6 + 1) (x := (S) % 256) (u8_inr (by omega))
  have up9 := (Upd.one w6 g 6 (.int .u8 ((S) / 256))).trans (Upd.one _ g (6 + 1) (.int .u8 ((S) % 256)))
  obtain ⟨c0, f0, _⟩ := own8.at_ hLl.out (j := 6) (by omega)
  obtain ⟨c1, f1, _⟩ := own8.at_ hLl.out (j := 6 + 1) (by omega)
  go_wp2_with fail
  go_ret
  refine ⟨_, rfl, ?_, bel8.trans (up9.below bel8.size (fun x hx e => by omega))⟩
  rw [h2.out] at own9
  exact own9
theorem rTcp_any (s d a b f : Int) (l : List Int) (A : Option Addr) (len c B : Nat) (w : World) (hr : Rd .u8 w B A len l) (hB : B ≤ w.heap.size) (hlc : len ≤ c) (hcm : c ≤ 9223372036854775807) (hs : 0 ≤ s ∧ s ≤ 4294967295) (hd : 0 ≤ d ∧ d ≤ 4294967295) (ha : 0 ≤ a ∧ a ≤ 65535) (hb : 0 ≤ b ∧ b ≤ 65535) :
  Calls Tryz.prog 70 #[.int .u32 s, .int .u32 d, .int .u16 a, .int .u16 b, .int .i64 f, .slice A len c] w (Gives w (tcpL s d a b f l)) := by
 unfold tcpL
 obtain ⟨i0, hi, hz0, hz1, hz2⟩ := info_parts info_u8_
 have hrB := hr.more hB
 have hfew := fun w' hr => rfew_any l A len c w.heap.size w' hr hlc hcm
 have hFl := fewL_len l
 have hFx : ∀ x, x ∈ fewL l → 0 ≤ x ∧ x ≤ 255 := fun x hx => inr_u8 (hr.rng x (fewL_mem hx))
 obtain ⟨F, hF⟩ : ∃ F, F = fewL l := ⟨_, rfl⟩
 rw [← hF] at hfew hFl hFx ⊢
 obtain ⟨m, hm⟩ : ∃ m, m = F.length := ⟨_, rfl⟩
 rw [← hm] at hfew hFl
 replace hfew := Lib.hid hfew
 replace hF := Lib.hid hF
 obtain ⟨L, hL⟩ : ∃ L, L = tcpB a b f F 0 := ⟨_, rfl⟩
 have hLl : L.length = 20 + m := by rw [hL, tcpB_len, hm]
 rw [← hL]
 have hset := fun S => tcpB_set a b f F S
 rw [← hL] at hset
 have hps := fun (A' : Option Addr) (c' : Nat) (w' : World) (rd : Rd .u8 w' w'.heap.size A' (20 + m) L) => Pseudo_any s d 6 L A' (20 + m) c' _ w' rd (Nat.le_refl _) hs hd (by omega) (by omega)
 have hSb : (∀ x, x ∈ L → 0 ≤ x ∧ x ≤ 255) → 0 ≤ csum s d 6 L ∧ csum s d 6 L ≤ 65535 := fun h => csum_bd hs hd (by omega) (by omega) h
 obtain ⟨S, hS⟩ : ∃ S, S = csum s d 6 L := ⟨_, rfl⟩
 rw [← hS] at hps hSb ⊢
 replace hset := Lib.hid (hset S)
 replace hps := Lib.hid hps
 replace hLl := Lib.hid hLl
 replace hS := Lib.hid hS
 have eL : ((be2 a ++ be2 b) ++ [0, 0, 0, 0, 0, 0, 0, 0, 80, f % 256, 32, 0, 0, 0, 0, 0]) ++ F = L := by rw [hL]; simp [tcpB, be2]
 replace eL := Lib.hid eL
 replace hL := Lib.hid hL
 replace hm := Lib.hid hm
 have hfw : IntKind.u8.wrap f = f % 256 := IntKind.wrap_u8' f
 have hfb : 0 ≤ f % 256 ∧ f % 256 ≤ 255 := by omega
 have h16 : ∀ y, y ∈ [0, 0, 0, 0, 0, 0, 0, 0, 80, f % 256, 32, 0, 0, 0, 0, 0] → inr .u8 y := fun y hy => u8_inr (by simp at hy; omega)
 replace h16 := Lib.hid h16
 go_enter Tryz.func70, Tryz.ntmps70
 go_wp2_with fail
 refine (word_any a _ ha).mono ?_
 rintro e w1 ⟨rfl, hw1⟩
 have a1 := App.new_ w w.heap.size (be2 a) (be2_inr ha) (A16 (a / 256) (a % 256)) rfl 2 rfl (by omega) (Nat.le_refl _)
 rw [← hw1] at a1
 replace hw1 := Lib.hid hw1
 go_wp2_with fail
 refine (word_any (b) _ (by omega)).mono ?_
 rintro e w2 ⟨rfl, hw2⟩
 have x2 := Rd.new .u8 w1 5 (be2 (b)) (be2_inr (by omega)) (A16 ((b) / 256) ((b) % 256)) rfl 2 rfl
 have a2 := a1.alloc (.cells (A16 ((b) / 256) ((b) % 256)) 5)
 have hy2 : w2.heap.size = w1.heap.size + 1 := by rw [hw2]; simp
 rw [← hw2] at x2 a2
 replace hw2 := Lib.hid hw2
 have s2 := a2.bel.size
 go_wp2_with (first
  | (at_builtin; (refine wpList_app _ rfl (.tmp 17) (.tmp 20) 36 rfl .u8 w.heap.size 5 i0 (.int .u8 0) 1 Tryz.underlying36 hi hz0 hz1 hz2 rfl _ (by rfl) _ a2.own (w1.heap.size + 1) _ 2 2 (by rfl) (be2 b) x2 (by simp [be2, be4]; try omega) (by decide) s2 ?_; intro v3 w3 own3 hg3 hb3; have a3 := a2.app own3 hg3 hb3; clear own3 hg3 hb3))
  | (at_builtin; (have hx := Rd.new .u8 w3 5 [0, 0, 0, 0, 0, 0, 0, 0, 80, f % 256, 32, 0, 0, 0, 0, 0] h16.out (A17 0 0 0 0 0 0 0 0 80 (f % 256) 32 0 0 0 0 0) rfl 16 rfl; refine wpList_app _ rfl (.tmp 21) (.tmp 24) 36 rfl .u8 w.heap.size 5 i0 (.int .u8 0) 1 Tryz.underlying36 hi hz0 hz1 hz2 rfl _ (by rfl) _ (a3.own.alloc _) (w3.heap.size + 1) _ 16 16 rfl [0, 0, 0, 0, 0, 0, 0, 0, 80, f % 256, 32, 0, 0, 0, 0, 0] hx (by simp [be2]) (by decide) (by have := a3.upd.size; simp; omega) ?_; intro v6 w6 own6 hg6 hb6; have a6 := (a3.alloc (.cells (A17 0 0 0 0 0 0 0 0 80 (f % 256) 32 0 0 0 0 0) 5)).app own6 hg6 hb6; clear own6 hg6 hb6 hx; have rd6 := hrB.below a6.bel; have s6 := a6.bel.size)))
 refine (hfew.out _ rd6).mono ?_
 rintro e w0 ⟨⟨c', rfl, hmc, hcm', rdF⟩, rfl⟩
 go_wp2_with (at_builtin; (refine wpList_app _ rfl (.tmp 26) (.tmp 28) 36 rfl .u8 w.heap.size 5 i0 (.int .u8 0) 1 Tryz.underlying36 hi hz0 hz1 hz2 rfl _ (by rfl) _ a6.own w.heap.size _ _ _ (by rfl) F rdF (by simp [be2, be4]; try omega) (by decide) s6 ?_; intro v7 w7 own7 hg7 hb7; have a7 := a6.app own7 hg7 hb7; clear own7 hg7 hb7))
 rw [eL.out] at a7
 have bel5 := a7.bel
 have own5 := a7.own
 clear a1 a2 a3 a6 a7 rd6 rdF eL x2
 obtain ⟨g, c5, rfl, hc1, hc2, hg1, hg2⟩ := own5.formG hLl.out (by omega)
 have rd5 := own5.rd hLl.out
 have hSb := hSb (fun x hx => inr_u8 (own5.rng x hx))
 refine (hps.out _ c5 _ rd5).mono ?_
 rintro e w6 ⟨rfl, bel6⟩
 have bel8 := bel_after bel5 bel6
 have own8 := own5.below bel6
 clear bel5 bel6 rd5 own5
 have hgw : w.heap.size ≤ g := hg1
 have hSw : IntKind.u8.wrap (S) = (S) % 256 := IntKind.wrap_u8' _
 have own9 := (own8.set hLl.out 16 (x := (S) / 256) (u8_inr (by omega))).set (by rw [List.length_set]; exact hLl.out) (16 + 1) (x := (S) % 256) (u8_inr (by omega))
 have up9 := (Upd.one w6 g 16 (.int .u8 ((S) / 256))).trans (Upd.one _ g (16 + 1) (.int .u8 ((S) % 256)))
 obtain ⟨c0, f0, _⟩ := own8.at_ hLl.out (j := 16) (by omega)
 obtain ⟨c1, f1, _⟩ := own8.at_ hLl.out (j := 16 + 1) (by omega)
 go_wp2_with fail
 go_ret
 refine ⟨_, rfl, ?_, bel8.trans (up9.below bel8.size (fun x hx e => by omega))⟩
 rw [hset.out] at own9
 exact own9
theorem rEcho_any (r : Bool) (a : Int) (l : List Int) (A : Option Addr) (len c B : Nat) (w : World) (hr : Rd .u8 w B A len l) (hB : B ≤ w.heap.size) (hlc : len ≤ c) (hcm : c ≤ 9223372036854775807) (ha : 0 ≤ a ∧ a ≤ 65535) :
  Calls Tryz.prog 71 #[.bool r, .int .u16 a, .slice A len c] w (Gives w (echoL r a l)) := by
 unfold echoL
 obtain ⟨i0, hi, hz0, hz1, hz2⟩ := info_parts info_u8_
 have hrB := hr.more hB
 have hfew := fun w' hr => rfew_any l A len c w.heap.size w' hr hlc hcm
 have hFl := fewL_len l
 have hFx : ∀ x, x ∈ fewL l → 0 ≤ x ∧ x ≤ 255 := fun x hx => inr_u8 (hr.rng x (fewL_mem hx))
 obtain ⟨F, hF⟩ : ∃ F, F = fewL l := ⟨_, rfl⟩
 rw [← hF] at hfew hFl hFx ⊢
 obtain ⟨m, hm⟩ : ∃ m, m = F.length := ⟨_, rfl⟩
 rw [← hm] at hfew hFl
 replace hfew := Lib.hid hfew
 replace hF := Lib.hid hF
 have hkc : r = true ∧ (if r then (0 : Int) else 8) = 0 ∨ r = false ∧ (if r then (0 : Int) else 8) = 8 := by cases r <;> simp
 obtain ⟨k, hk⟩ : ∃ k, k = (if r then (0 : Int) else 8) := ⟨_, rfl⟩
 rw [← hk] at hkc ⊢
 clear hk
 have hkb : 0 ≤ k ∧ k ≤ 255 := by rcases hkc with ⟨_, h⟩ | ⟨_, h⟩ <;> omega
 obtain ⟨L, hL⟩ : ∃ L, L = echoB k a F 0 := ⟨_, rfl⟩
 have hLl : L.length = 8 + m := by rw [hL, echoB_len, hm]
 rw [← hL]
 have hset := fun S => echoB_set k a F S
 rw [← hL] at hset
 have hps := fun (A' : Option Addr) (c' : Nat) (w' : World) (rd : Rd .u8 w' w'.heap.size A' (8 + m) L) => rOf_any L A' (8 + m) c' _ w' (by omega) rd
 have hSb : (∀ x, x ∈ L → 0 ≤ x ∧ x ≤ 255) → 0 ≤ sumOf L ∧ sumOf L ≤ 65535 := fun h => sumOf_bd h
 obtain ⟨S, hS⟩ : ∃ S, S = sumOf L := ⟨_, rfl⟩
 rw [← hS] at hps hSb ⊢
 replace hset := Lib.hid (hset S)
 replace hps := Lib.hid hps
 replace hLl := Lib.hid hLl
 replace hS := Lib.hid hS
 have eL : [k, 0, 0, 0, a / 256, a % 256, 0, 0] ++ F = L := by rw [hL]; simp [echoB, be2]
 have h8 : ∀ y, y ∈ [k, 0, 0, 0, a / 256, a % 256, 0, 0] → inr .u8 y := fun y hy => u8_inr (by simp at hy; omega)
 replace h8 := Lib.hid h8
 replace eL := Lib.hid eL
 replace hL := Lib.hid hL
 replace hm := Lib.hid hm
 rcases hkc with ⟨rfl, hk⟩ | ⟨rfl, hk⟩
 ·subst hk
  go_enter Tryz.func71, Tryz.ntmps71
  go_wp2_with fail
  have own0 := Own.new .u8 w 5 w.heap.size (Nat.le_refl _) [0, 0, 0, 0, a / 256, a % 256, 0, 0] h8.out (A15 0 0 0 0 (a / 256) (a % 256) 0 0) rfl 8 rfl (by show 8 ≤ maxLen; decide)
  have bel0 : Below w.heap.size w (w.alloc (.cells (A15 0 0 0 0 (a / 256) (a % 256) 0 0) 5)) := bel_alloc _ _
  generalize w.alloc (.cells (A15 0 0 0 0 (a / 256) (a % 256) 0 0) 5) = W0 at *
  have hW0 := bel0.size
  refine (hfew.out _ (hrB.below bel0)).mono ?_
  rintro e w0 ⟨⟨c', rfl, hmc, hcm', rdF⟩, rfl⟩
  go_wp2_with (at_builtin; (refine wpList_app _ rfl (.tmp 17) (.tmp 19) 36 rfl .u8 w.heap.size 5 i0 (.int .u8 0) 1 Tryz.underlying36 hi hz0 hz1 hz2 rfl _ (by rfl) _ own0 w.heap.size _ _ _ (by rfl) F rdF (by simp; omega) (by decide) hW0 ?_; intro v9 w6 own9 hg9 hb9; have a9 := (App.refl own0).app own9 hg9 hb9; clear own9 hg9 hb9))
  rw [eL.out] at a9
  have bel8 := a9.bel0 bel0 (Nat.le_refl _)
  have own8 := a9.own
  clear a9 rdF eL own0
  obtain ⟨g, c5, rfl, hc1, hc2, hg1, hg2⟩ := own8.formG hLl.out (by omega)
  have rd5 := own8.rd hLl.out
  have hSb := hSb (fun x hx => inr_u8 (own8.rng x hx))
  refine (hps.out _ c5 _ rd5).mono ?_
  rintro e w6' ⟨rfl, rfl⟩
  clear rd5
  have hgw : w.heap.size ≤ g := hg1
  have hSw : IntKind.u8.wrap (S) = (S) % 256 := IntKind.wrap_u8' _
  have own9 := (own8.set hLl.out 2 (x := (S) / 256) (u8_inr (by omega))).set (by rw [List.length_set]; exact hLl.out) (2 + 1) (x := (S) % 256) (u8_inr (by omega))
  have up9 := (Upd.one w6 g 2 (.int .u8 ((S) / 256))).trans (Upd.one _ g (2 + 1) (.int .u8 ((S) % 256)))
  obtain ⟨c0, f0, _⟩ := own8.at_ hLl.out (j := 2) (by omega)
  obtain ⟨c1, f1, _⟩ := own8.at_ hLl.out (j := 2 + 1) (by omega)
  go_wp2_with fail
  go_ret
  refine ⟨_, rfl, ?_, bel8.trans (up9.below bel8.size (fun x hx e => by omega))⟩
  rw [hset.out] at own9
  exact own9
 ·subst hk
  go_enter Tryz.func71, Tryz.ntmps71
  go_wp2_with fail
  have own0 := Own.new .u8 w 5 w.heap.size (Nat.le_refl _) [8, 0, 0, 0, a / 256, a % 256, 0, 0] h8.out (A15 8 0 0 0 (a / 256) (a % 256) 0 0) rfl 8 rfl (by show 8 ≤ maxLen; decide)
  have bel0 : Below w.heap.size w (w.alloc (.cells (A15 8 0 0 0 (a / 256) (a % 256) 0 0) 5)) := bel_alloc _ _
  generalize w.alloc (.cells (A15 8 0 0 0 (a / 256) (a % 256) 0 0) 5) = W0 at *
  have hW0 := bel0.size
  refine (hfew.out _ (hrB.below bel0)).mono ?_
  rintro e w0 ⟨⟨c', rfl, hmc, hcm', rdF⟩, rfl⟩
  go_wp2_with (at_builtin; (refine wpList_app _ rfl (.tmp 17) (.tmp 19) 36 rfl .u8 w.heap.size 5 i0 (.int .u8 0) 1 Tryz.underlying36 hi hz0 hz1 hz2 rfl _ (by rfl) _ own0 w.heap.size _ _ _ (by rfl) F rdF (by simp; omega) (by decide) hW0 ?_; intro v9 w6 own9 hg9 hb9; have a9 := (App.refl own0).app own9 hg9 hb9; clear own9 hg9 hb9))
  rw [eL.out] at a9
  have bel8 := a9.bel0 bel0 (Nat.le_refl _)
  have own8 := a9.own
  clear a9 rdF eL own0
  obtain ⟨g, c5, rfl, hc1, hc2, hg1, hg2⟩ := own8.formG hLl.out (by omega)
  have rd5 := own8.rd hLl.out
  have hSb := hSb (fun x hx => inr_u8 (own8.rng x hx))
  refine (hps.out _ c5 _ rd5).mono ?_
  rintro e w6' ⟨rfl, rfl⟩
  clear rd5
  have hgw : w.heap.size ≤ g := hg1
  have hSw : IntKind.u8.wrap (S) = (S) % 256 := IntKind.wrap_u8' _
  have own9 := (own8.set hLl.out 2 (x := (S) / 256) (u8_inr (by omega))).set (by rw [List.length_set]; exact hLl.out) (2 + 1) (x := (S) % 256) (u8_inr (by omega))
  have up9 := (Upd.one w6 g 2 (.int .u8 ((S) / 256))).trans (Upd.one _ g (2 + 1) (.int .u8 ((S) % 256)))
  obtain ⟨c0, f0, _⟩ := own8.at_ hLl.out (j := 2) (by omega)
  obtain ⟨c1, f1, _⟩ := own8.at_ hLl.out (j := 2 + 1) (by omega)
  go_wp2_with fail
  go_ret
  refine ⟨_, rfl, ?_, bel8.trans (up9.below bel8.size (fun x hx e => by omega))⟩
  rw [hset.out] at own9
  exact own9
theorem rFault_any (k a : Int) (l : List Int) (A : Option Addr) (len c B : Nat) (w : World) (hr : Rd .u8 w B A len l) (hB : B ≤ w.heap.size) (hlc : len ≤ c) (hcm : c ≤ 9223372036854775807) :
  Calls Tryz.prog 72 #[.int .i64 k, .int .i64 a, .slice A len c] w (Gives w (faultL k a l)) := by
 unfold faultL
 obtain ⟨i0, hi, hz0, hz1, hz2⟩ := info_parts info_u8_
 have hrB := hr.more hB
 have hfew := fun w' hr => rfew_any l A len c w.heap.size w' hr hlc hcm
 have hFl := fewL_len l
 have hFx : ∀ x, x ∈ fewL l → 0 ≤ x ∧ x ≤ 255 := fun x hx => inr_u8 (hr.rng x (fewL_mem hx))
 obtain ⟨F, hF⟩ : ∃ F, F = fewL l := ⟨_, rfl⟩
 rw [← hF] at hfew hFl hFx ⊢
 obtain ⟨m, hm⟩ : ∃ m, m = F.length := ⟨_, rfl⟩
 rw [← hm] at hfew hFl
 replace hfew := Lib.hid hfew
 replace hF := Lib.hid hF
 obtain ⟨L, hL⟩ : ∃ L, L = faultB k a F 0 := ⟨_, rfl⟩
 have hLl : L.length = 8 + m := by rw [hL, faultB_len, hm]
 rw [← hL]
 have hset := fun S => faultB_set k a F S
 rw [← hL] at hset
 have hps := fun (A' : Option Addr) (c' : Nat) (w' : World) (rd : Rd .u8 w' w'.heap.size A' (8 + m) L) => rOf_any L A' (8 + m) c' _ w' (by omega) rd
 have hSb : (∀ x, x ∈ L → 0 ≤ x ∧ x ≤ 255) → 0 ≤ sumOf L ∧ sumOf L ≤ 65535 := fun h => sumOf_bd h
 obtain ⟨S, hS⟩ : ∃ S, S = sumOf L := ⟨_, rfl⟩
 rw [← hS] at hps hSb ⊢
 replace hset := Lib.hid (hset S)
 replace hps := Lib.hid hps
 replace hLl := Lib.hid hLl
 replace hS := Lib.hid hS
 have eL : [k % 256, a % 256, 0, 0, 0, 0, 0, 0] ++ F = L := by rw [hL]; simp [faultB, be2]
 have h8 : ∀ y, y ∈ [k % 256, a % 256, 0, 0, 0, 0, 0, 0] → inr .u8 y := fun y hy => u8_inr (by simp at hy; omega)
 replace h8 := Lib.hid h8
 replace eL := Lib.hid eL
 replace hL := Lib.hid hL
 replace hm := Lib.hid hm
 have hkw : IntKind.u8.wrap k = k % 256 := IntKind.wrap_u8' k
 have haw : IntKind.u8.wrap a = a % 256 := IntKind.wrap_u8' a
 go_enter Tryz.func72, Tryz.ntmps72
 go_wp2_with fail
 have own0 := Own.new .u8 w 5 w.heap.size (Nat.le_refl _) [k % 256, a % 256, 0, 0, 0, 0, 0, 0] h8.out (A15 (k % 256) (a % 256) 0 0 0 0 0 0) rfl 8 rfl (by show 8 ≤ maxLen; decide)
 have bel0 : Below w.heap.size w (w.alloc (.cells (A15 (k % 256) (a % 256) 0 0 0 0 0 0) 5)) := bel_alloc _ _
 generalize w.alloc (.cells (A15 (k % 256) (a % 256) 0 0 0 0 0 0) 5) = W0 at *
 have hW0 := bel0.size
 refine (hfew.out _ (hrB.below bel0)).mono ?_
 rintro e w0 ⟨⟨c', rfl, hmc, hcm', rdF⟩, rfl⟩
 go_wp2_with (at_builtin; (refine wpList_app _ rfl (.tmp 13) (.tmp 15) 36 rfl .u8 w.heap.size 5 i0 (.int .u8 0) 1 Tryz.underlying36 hi hz0 hz1 hz2 rfl _ (by rfl) _ own0 w.heap.size _ _ _ (by rfl) F rdF (by simp; omega) (by decide) hW0 ?_; intro v9 w6 own9 hg9 hb9; have a9 := (App.refl own0).app own9 hg9 hb9; clear own9 hg9 hb9))
 rw [eL.out] at a9
 have bel8 := a9.bel0 bel0 (Nat.le_refl _)
 have own8 := a9.own
 clear a9 rdF eL own0
 obtain ⟨g, c5, rfl, hc1, hc2, hg1, hg2⟩ := own8.formG hLl.out (by omega)
 have rd5 := own8.rd hLl.out
 have hSb := hSb (fun x hx => inr_u8 (own8.rng x hx))
 refine (hps.out _ c5 _ rd5).mono ?_
 rintro e w6' ⟨rfl, rfl⟩
 clear rd5
 have hgw : w.heap.size ≤ g := hg1
 have hSw : IntKind.u8.wrap (S) = (S) % 256 := IntKind.wrap_u8' _
 have own9 := (own8.set hLl.out 2 (x := (S) / 256) (u8_inr (by omega))).set (by rw [List.length_set]; exact hLl.out) (2 + 1) (x := (S) % 256) (u8_inr (by omega))
 have up9 := (Upd.one w6 g 2 (.int .u8 ((S) / 256))).trans (Upd.one _ g (2 + 1) (.int .u8 ((S) % 256)))
 obtain ⟨c0, f0, _⟩ := own8.at_ hLl.out (j := 2) (by omega)
 obtain ⟨c1, f1, _⟩ := own8.at_ hLl.out (j := 2 + 1) (by omega)
 go_wp2_with fail
 go_ret
 refine ⟨_, rfl, ?_, bel8.trans (up9.below bel8.size (fun x hx e => by omega))⟩
 rw [hset.out] at own9
 exact own9
def carL (k : Nat) (s d a b f : Int) (l : List Int) : List Int :=
 if k = 0 then udpL s d a b l else if k = 1 then tcpL s d a b f l else if k = 2 then echoL false a l else if k = 3 then echoL true a l else
 if k = 4 then faultL 3 (f.tmod 16) (putL 9 17 d s (udpL d s b a l)) else if k = 5 then faultL 11 0 ((putL 9 6 d s (tcpL d s b a 2 l)).take (28 + l.length / 2)) else faultL 3 1 (putL 9 1 d s (echoL false b l))
def carP (k : Nat) : Int := if k = 0 then 17 else if k = 1 then 6 else 1
def frameL (k : Nat) (s d a b f : Int) (l : List Int) : List Int := putL 64 (carP k) s d (carL k s d a b f l)
theorem udpL_len (s d a b : Int) (l : List Int) : (udpL s d a b l).length = 8 + (fewL l).length := udpB_len _ _ _ _
theorem tcpL_len (s d a b f : Int) (l : List Int) : (tcpL s d a b f l).length = 20 + (fewL l).length := tcpB_len _ _ _ _ _
theorem echoL_len (r : Bool) (a : Int) (l : List Int) : (echoL r a l).length = 8 + (fewL l).length := echoB_len _ _ _ _
theorem faultL_len (k c : Int) (l : List Int) : (faultL k c l).length = 8 + (fewL l).length := faultB_len _ _ _ _
theorem few_short {l : List Int} (h : l.length ≤ 1400) : fewL l = l := List.take_of_length_le h
theorem carL_len (k : Nat) (s d a b f : Int) (l : List Int) (hl : l.length ≤ 40) : 8 ≤ (carL k s d a b f l).length ∧ (carL k s d a b f l).length ≤ 110 := by
 have hf : fewL l = l := few_short (by omega)
 unfold carL
 split
 ·rw [udpL_len, hf]; omega
 split
 ·rw [tcpL_len, hf]; omega
 split
 ·rw [echoL_len, hf]; omega
 split
 ·rw [echoL_len, hf]; omega
 split
 ·have : (putL 9 17 d s (udpL d s b a l)).length = 28 + l.length := by rw [put_len, udpL_len, hf]; omega
  rw [faultL_len, few_short (by omega), this]; omega
 split
 ·have : ((putL 9 6 d s (tcpL d s b a 2 l)).take (28 + l.length / 2)).length = 28 + l.length / 2 := by rw [List.length_take, put_len, tcpL_len, hf]; omega
  rw [faultL_len, few_short (by omega), this]; omega
 ·have : (putL 9 1 d s (echoL false b l)).length = 28 + l.length := by rw [put_len, echoL_len, hf]; omega
  rw [faultL_len, few_short (by omega), this]; omega
def CarRes (w : World) (p : Int) (l : List Int) (e : Ending) (w' : World) : Prop := ∃ v', e = .returned (.tuple #[v', .int .i64 p]) ∧ Own .u8 5 w' w.heap.size v' l ∧ Below w.heap.size w w'
theorem Own.mono_ {k : IntKind} {e : TypeId} {w : World} {base base' : Nat} {v : Value} {l : List Int} (h : Own k e w base v l) (hb : base' ≤ base) : Own k e w base' v l := by
 refine ⟨⟨h.row.1, ?_⟩, h.rng⟩
 rcases h.row.2 with h1 | ⟨g, cap, cur, h1, h2, h3⟩
 ·exact .inl h1
 ·exact .inr ⟨g, cap, cur, h1, Nat.le_trans hb h2, h3⟩
theorem Carried_any (wt s d a b f : Int) (l : List Int) (A : Option Addr) (len cap k : Nat) (w : World) (hr : Rd .u8 w w.heap.size A len l) (hlc : len ≤ cap) (hcm : cap ≤ 9223372036854775807) (hs : 0 ≤ s ∧ s ≤ 4294967295) (hd : 0 ≤ d ∧ d ≤ 4294967295) (ha : 0 ≤ a ∧ a ≤ 65535) (hb : 0 ≤ b ∧ b ≤ 65535)
  (hk : (IntKind.u64.wrap wt).tmod 7 = (k : Int)) (hk7 : k < 7) :
  Calls Tryz.prog 46 #[.agg (A10 wt s d a b f A len cap)] w (CarRes w (carP k) (carL k s d a b f (l.take 40))) := by
 obtain ⟨m, hmn, hm1, hm2⟩ := minc 40 (by omega) len
 have hr2 := hr.take hm1
 have hLe : l.take m = l.take 40 := List.take_eq_take_iff.2 (by rw [hr.len]; omega)
 rw [hLe] at hr2
 obtain ⟨L, hL⟩ : ∃ L, L = l.take 40 := ⟨_, rfl⟩
 rw [← hL] at hr2 ⊢
 clear hL hr hLe
 have hv : Value.int .u64 ((IntKind.u64.wrap wt).tmod 7) = .int .u64 (k : Int) := by rw [hk]
 clear hk
 have hL40 : L.length = m := hr2.len
 have hrd := fun w' (hb : Below w.heap.size w w') => (hr2.below hb).more hb.size
 clear hr2
 replace hrd := Lib.hid hrd
 replace hL40 := Lib.hid hL40
 have hkc : k = 0 ∨ k = 1 ∨ k = 2 ∨ k = 3 ∨ k = 4 ∨ k = 5 ∨ k = 6 := by omega
 rcases hkc with rfl | rfl | rfl | rfl | rfl | rfl | rfl
 ·show Calls _ _ _ _ (CarRes w 17 (udpL s d a b L))
  go_enter Tryz.func46, Tryz.ntmps46
  go_upto_region 1 with fail
  have bn := Blk.new w 80 (A10 wt s d a b f A len cap)
  have bel := bel_alloc w (.cells (A10 wt s d a b f A len cap) 80)
  generalize w.alloc (.cells (A10 wt s d a b f A len cap) 80) = W at *
  have q0 := bn.cell 0
  have q1 := bn.cell 1
  have q2 := bn.cell 2
  have q3 := bn.cell 3
  have q4 := bn.cell 4
  have q5 := bn.cell 5
  have q6 := bn.cell 6
  go_wp2_with fail
  refine (rUdp_any s d a b L A m cap _ W (hrd.out _ bel) (Nat.le_refl _) (by omega) hcm hs hd ha hb).mono ?_
  rintro e w2 ⟨v2, rfl, own2, bel2⟩
  have own3 := own2.mono_ bel.size
  clear own2
  replace bel := bel_after bel bel2
  clear bel2 q0 q1 q2 q3 q4 q5 q6 bn
  go_wp2
  exact bodyPost_ret (v := .tuple #[v2, .int .i64 17]) (by simp [results, Tryz.results46, go_sem]) rfl ⟨_, rfl, own3, bel⟩
 ·show Calls _ _ _ _ (CarRes w 6 (tcpL s d a b f L))
  go_enter Tryz.func46, Tryz.ntmps46
  go_upto_region 1 with fail
  have bn := Blk.new w 80 (A10 wt s d a b f A len cap)
  have bel := bel_alloc w (.cells (A10 wt s d a b f A len cap) 80)
  generalize w.alloc (.cells (A10 wt s d a b f A len cap) 80) = W at *
  have q0 := bn.cell 0
  have q1 := bn.cell 1
  have q2 := bn.cell 2
  have q3 := bn.cell 3
  have q4 := bn.cell 4
  have q5 := bn.cell 5
  have q6 := bn.cell 6
  go_wp2_with fail
  refine (rTcp_any s d a b f L A m cap _ W (hrd.out _ bel) (Nat.le_refl _) (by omega) hcm hs hd ha hb).mono ?_
  rintro e w2 ⟨v2, rfl, own2, bel2⟩
  have own3 := own2.mono_ bel.size
  clear own2
  replace bel := bel_after bel bel2
  clear bel2 q0 q1 q2 q3 q4 q5 q6 bn
  go_wp2
  exact bodyPost_ret (v := .tuple #[v2, .int .i64 6]) (by simp [results, Tryz.results46, go_sem]) rfl ⟨_, rfl, own3, bel⟩
 ·show Calls _ _ _ _ (CarRes w 1 (echoL false a L))
  go_enter Tryz.func46, Tryz.ntmps46
  go_upto_region 1 with fail
  have bn := Blk.new w 80 (A10 wt s d a b f A len cap)
  have bel := bel_alloc w (.cells (A10 wt s d a b f A len cap) 80)
  generalize w.alloc (.cells (A10 wt s d a b f A len cap) 80) = W at *
  have q0 := bn.cell 0
  have q1 := bn.cell 1
  have q2 := bn.cell 2
  have q3 := bn.cell 3
  have q4 := bn.cell 4
  have q5 := bn.cell 5
  have q6 := bn.cell 6
  go_wp2_with fail
  refine (rEcho_any false a L A m cap _ W (hrd.out _ bel) (Nat.le_refl _) (by omega) hcm ha).mono ?_
  rintro e w2 ⟨v2, rfl, own2, bel2⟩
  have own3 := own2.mono_ bel.size
  clear own2
  replace bel := bel_after bel bel2
  clear bel2 q0 q1 q2 q3 q4 q5 q6 bn
  go_wp2
  exact bodyPost_ret (v := .tuple #[v2, .int .i64 1]) (by simp [results, Tryz.results46, go_sem]) rfl ⟨_, rfl, own3, bel⟩
 ·show Calls _ _ _ _ (CarRes w 1 (echoL true a L))
  go_enter Tryz.func46, Tryz.ntmps46
  go_upto_region 1 with fail
  have bn := Blk.new w 80 (A10 wt s d a b f A len cap)
  have bel := bel_alloc w (.cells (A10 wt s d a b f A len cap) 80)
  generalize w.alloc (.cells (A10 wt s d a b f A len cap) 80) = W at *
  have q0 := bn.cell 0
  have q1 := bn.cell 1
  have q2 := bn.cell 2
  have q3 := bn.cell 3
  have q4 := bn.cell 4
  have q5 := bn.cell 5
  have q6 := bn.cell 6
  go_wp2_with fail
  refine (rEcho_any true a L A m cap _ W (hrd.out _ bel) (Nat.le_refl _) (by omega) hcm ha).mono ?_
  rintro e w2 ⟨v2, rfl, own2, bel2⟩
  have own3 := own2.mono_ bel.size
  clear own2
  replace bel := bel_after bel bel2
  clear bel2 q0 q1 q2 q3 q4 q5 q6 bn
  go_wp2
  exact bodyPost_ret (v := .tuple #[v2, .int .i64 1]) (by simp [results, Tryz.results46, go_sem]) rfl ⟨_, rfl, own3, bel⟩
 ·show Calls _ _ _ _ (CarRes w 1 (faultL 3 (f.tmod 16) (putL 9 17 d s (udpL d s b a L))))
  have hl1 : (udpL d s b a L).length = 8 + m := by rw [udpL_len, few_short (by rw [hL40.out]; omega), hL40.out]
  have hl2 : (putL 9 17 d s (udpL d s b a L)).length = 28 + m := by rw [put_len, hl1]; omega
  replace hl1 := Lib.hid hl1
  replace hl2 := Lib.hid hl2
  go_enter Tryz.func46, Tryz.ntmps46
  go_upto_region 1 with fail
  have bn := Blk.new w 80 (A10 wt s d a b f A len cap)
  have bel := bel_alloc w (.cells (A10 wt s d a b f A len cap) 80)
  generalize w.alloc (.cells (A10 wt s d a b f A len cap) 80) = W at *
  have q0 := bn.cell 0
  have q1 := bn.cell 1
  have q2 := bn.cell 2
  have q3 := bn.cell 3
  have q4 := bn.cell 4
  have q5 := bn.cell 5
  have q6 := bn.cell 6
  go_upto_region 12 with fail
  clear q0 q1 q2 q3 q4 q5 q6
  have z1 : ∀ t : Tw (fun w' => Blk w' w.heap.size 80 (A10 wt s d a b f A len cap)), t.w.cell? ⟨w.heap.size, 1, none⟩ = some (.int .u32 s) := fun t => t.h.cell 1
  have z2 : ∀ t : Tw (fun w' => Blk w' w.heap.size 80 (A10 wt s d a b f A len cap)), t.w.cell? ⟨w.heap.size, 2, none⟩ = some (.int .u32 d) := fun t => t.h.cell 2
  have z3 : ∀ t : Tw (fun w' => Blk w' w.heap.size 80 (A10 wt s d a b f A len cap)), t.w.cell? ⟨w.heap.size, 3, none⟩ = some (.int .u16 a) := fun t => t.h.cell 3
  have z4 : ∀ t : Tw (fun w' => Blk w' w.heap.size 80 (A10 wt s d a b f A len cap)), t.w.cell? ⟨w.heap.size, 4, none⟩ = some (.int .u16 b) := fun t => t.h.cell 4
  have : Nonempty (Tw (fun w' => Blk w' w.heap.size 80 (A10 wt s d a b f A len cap))) := ⟨⟨_, bn⟩⟩
  refine wp_region_plan (fun w' => Blk w' w.heap.size 80 (A10 wt s d a b f A len cap)) [(0, true), (1, true), (2, true), (3, true), (4, true), (5, true), (6, true), (7, true), (8, true), (9, true), (10, true), (11, true), (12, true), (13, true), (14, false), (15, false), (16, true), (17, true), (18, true), (19, true), (20, true)] (by kernel_rfl) (by kernel_rfl) (by kernel_rfl) (by kernel_rfl) bn.drew ?_
  replace bn := bn.drew
  replace bel := bel.drew
  generalize W.drew = W1 at *
  refine wpPl_qs 14 _ _ _ (by kernel_rfl) (by kernel_rfl) (by simp) ?_
  unfold clsS
  simp only [qq1, qq2, qq3, qq4, List.filterMap_cons, qq6, qq7, qq8, qq9]
  repeat (first | go_big_quiet_skip | (go_big_quiet_want; go_big_quiet_op; go_big_quiet_on) | refine id (?_ : wpQuiet _ _ _ _ (_ :: _) _))
  refine wpQuiet_nil ?_
  refine wpPl_e _ (by rfl) (by kernel_rfl) (fun K hK => ?_)
  go_simp
  refine (rUdp_any d s b a L A m cap _ W1 (hrd.out _ bel) (Nat.le_refl _) (by omega) hcm hd hs hb ha).mono ?_
  rintro e w2 ⟨v2, rfl, own2, bel2⟩
  replace own2 := own2.mono_ bel.size
  replace bn := bn.bel bel2
  replace bel := bel_after bel bel2
  clear bel2
  refine hK _ _ bn ?_
  clear hK K
  obtain ⟨A2, c2, rfl, hc1, hc2, rd2⟩ := own2.form hl1.out
  unfold maxLen at hc2
  clear own2
  refine wpPl_e _ (by rfl) (by kernel_rfl) (fun K hK => ?_)
  go_simp
  refine (rPut_any 0 0 9 17 d s _ A2 _ c2 _ w2 rd2 (Nat.le_refl _) (by omega) (by omega) hd hs (by omega)).mono ?_
  rintro e w3 ⟨v3, rfl, own3, bel3⟩
  replace own3 := own3.mono_ bel.size
  replace bn := bn.bel bel3
  replace bel := bel_after bel bel3
  clear bel3 rd2
  refine hK _ _ bn ?_
  clear hK K
  refine wpPl_qs 5 _ _ _ (by kernel_rfl) (by kernel_rfl) (by simp) ?_
  unfold clsS
  simp only [qq1, qq2, qq3, qq4, List.filterMap_cons, qq6, qq7, qq8, qq9]
  repeat (first | go_big_quiet_skip | (go_big_quiet_want; go_big_quiet_op; go_big_quiet_on) | refine id (?_ : wpQuiet _ _ _ _ (_ :: _) _))
  refine wpQuiet_nil ?_
  unfold wpPl
  refine NoPanic.normal ?_
  clear z1 z2 z3 z4 this
  have q5 := bn.cell 5
  obtain ⟨A3, c3, rfl, hc3, hc4, rd3⟩ := own3.form hl2.out
  unfold maxLen at hc4
  clear own3
  go_wp2_with fail
  refine (rFault_any 3 (f.tmod 16) _ A3 _ c3 _ w3 rd3 (Nat.le_refl _) hc3 (by omega)).mono ?_
  rintro e w2 ⟨v2, rfl, own2, bel2⟩
  have own3 := own2.mono_ bel.size
  clear own2
  replace bel := bel_after bel bel2
  clear bel2 q5 bn
  go_wp2
  exact bodyPost_ret (v := .tuple #[v2, .int .i64 1]) (by simp [results, Tryz.results46, go_sem]) rfl ⟨_, rfl, own3, bel⟩
 ·show Calls _ _ _ _ (CarRes w 1 (faultL 11 0 ((putL 9 6 d s (tcpL d s b a 2 L)).take (28 + L.length / 2))))
  have hl1 : (tcpL d s b a 2 L).length = 20 + m := by rw [tcpL_len, few_short (by rw [hL40.out]; omega), hL40.out]
  have hl2 : (putL 9 6 d s (tcpL d s b a 2 L)).length = 40 + m := by rw [put_len, hl1]; omega
  rw [hL40.out]
  replace hl1 := Lib.hid hl1
  replace hl2 := Lib.hid hl2
  obtain ⟨n, hn⟩ : ∃ n : Nat, n = 28 + m / 2 := ⟨_, rfl⟩
  rw [← hn]
  have hn1 : n ≤ 40 + m := by omega
  have hn2 : 28 + (m : Int) / 2 = (n : Int) := by omega
  have hn4 : (n : Int) ≤ 80 := by omega
  clear hn
  go_enter Tryz.func46, Tryz.ntmps46
  go_upto_region 1 with fail
  have bn := Blk.new w 80 (A10 wt s d a b f A len cap)
  have bel := bel_alloc w (.cells (A10 wt s d a b f A len cap) 80)
  generalize w.alloc (.cells (A10 wt s d a b f A len cap) 80) = W at *
  have q0 := bn.cell 0
  have q1 := bn.cell 1
  have q2 := bn.cell 2
  have q3 := bn.cell 3
  have q4 := bn.cell 4
  have q5 := bn.cell 5
  have q6 := bn.cell 6
  go_upto_region 15 with fail
  clear q0 q1 q2 q3 q4 q5 q6
  have z1 : ∀ t : Tw (fun w' => Blk w' w.heap.size 80 (A10 wt s d a b f A len cap)), t.w.cell? ⟨w.heap.size, 1, none⟩ = some (.int .u32 s) := fun t => t.h.cell 1
  have z2 : ∀ t : Tw (fun w' => Blk w' w.heap.size 80 (A10 wt s d a b f A len cap)), t.w.cell? ⟨w.heap.size, 2, none⟩ = some (.int .u32 d) := fun t => t.h.cell 2
  have z3 : ∀ t : Tw (fun w' => Blk w' w.heap.size 80 (A10 wt s d a b f A len cap)), t.w.cell? ⟨w.heap.size, 3, none⟩ = some (.int .u16 a) := fun t => t.h.cell 3
  have z4 : ∀ t : Tw (fun w' => Blk w' w.heap.size 80 (A10 wt s d a b f A len cap)), t.w.cell? ⟨w.heap.size, 4, none⟩ = some (.int .u16 b) := fun t => t.h.cell 4
  have : Nonempty (Tw (fun w' => Blk w' w.heap.size 80 (A10 wt s d a b f A len cap))) := ⟨⟨_, bn⟩⟩
  refine wp_region_plan (fun w' => Blk w' w.heap.size 80 (A10 wt s d a b f A len cap)) [(0, true), (1, true), (2, true), (3, true), (4, true), (5, true), (6, true), (7, true), (8, true), (9, true), (10, true), (11, true), (12, true), (13, true), (14, false), (15, false), (16, true), (17, true), (18, true), (19, true), (20, true)] (by kernel_rfl) (by kernel_rfl) (by kernel_rfl) (by kernel_rfl) bn.drew ?_
  replace bn := bn.drew
  replace bel := bel.drew
  generalize W.drew = W1 at *
  refine wpPl_qs 14 _ _ _ (by kernel_rfl) (by kernel_rfl) (by simp) ?_
  unfold clsS
  simp only [qq1, qq2, qq3, qq4, List.filterMap_cons, qq6, qq7, qq8, qq9]
  repeat (first | go_big_quiet_skip | (go_big_quiet_want; go_big_quiet_op; go_big_quiet_on) | refine id (?_ : wpQuiet _ _ _ _ (_ :: _) _))
  refine wpQuiet_nil ?_
  refine wpPl_e _ (by rfl) (by kernel_rfl) (fun K hK => ?_)
  go_simp
  refine (rTcp_any d s b a 2 L A m cap _ W1 (hrd.out _ bel) (Nat.le_refl _) (by omega) hcm hd hs hb ha).mono ?_
  rintro e w2 ⟨v2, rfl, own2, bel2⟩
  replace own2 := own2.mono_ bel.size
  replace bn := bn.bel bel2
  replace bel := bel_after bel bel2
  clear bel2
  refine hK _ _ bn ?_
  clear hK K
  obtain ⟨A2, c2, rfl, hc1, hc2, rd2⟩ := own2.form hl1.out
  unfold maxLen at hc2
  clear own2
  refine wpPl_e _ (by rfl) (by kernel_rfl) (fun K hK => ?_)
  go_simp
  refine (rPut_any 0 0 9 6 d s _ A2 _ c2 _ w2 rd2 (Nat.le_refl _) (by omega) (by omega) hd hs (by omega)).mono ?_
  rintro e w3 ⟨v3, rfl, own3, bel3⟩
  replace own3 := own3.mono_ bel.size
  replace bn := bn.bel bel3
  replace bel := bel_after bel bel3
  clear bel3 rd2
  refine hK _ _ bn ?_
  clear hK K
  refine wpPl_qs 5 _ _ _ (by kernel_rfl) (by kernel_rfl) (by simp) ?_
  unfold clsS
  simp only [qq1, qq2, qq3, qq4, List.filterMap_cons, qq6, qq7, qq8, qq9]
  repeat (first | go_big_quiet_skip | (go_big_quiet_want; go_big_quiet_op; go_big_quiet_on) | refine id (?_ : wpQuiet _ _ _ _ (_ :: _) _))
  refine wpQuiet_nil ?_
  unfold wpPl
  refine NoPanic.normal ?_
  clear z1 z2 z3 z4 this
  have q5 := bn.cell 5
  obtain ⟨A3, c3, rfl, hc3, hc4, rd3⟩ := own3.form hl2.out
  unfold maxLen at hc4
  clear own3
  go_wp2_with fail
  refine (rFault_any 11 0 _ A3 _ c3 _ w3 (rd3.take hn1) (Nat.le_refl _) (by omega) (by omega)).mono ?_
  rintro e w2 ⟨v2, rfl, own2, bel2⟩
  have own3 := own2.mono_ bel.size
  clear own2
  replace bel := bel_after bel bel2
  clear bel2 q5 bn
  go_wp2
  exact bodyPost_ret (v := .tuple #[v2, .int .i64 1]) (by simp [results, Tryz.results46, go_sem]) rfl ⟨_, rfl, own3, bel⟩
 ·show Calls _ _ _ _ (CarRes w 1 (faultL 3 1 (putL 9 1 d s (echoL false b L))))
  have hl1 : (echoL false b L).length = 8 + m := by rw [echoL_len, few_short (by rw [hL40.out]; omega), hL40.out]
  have hl2 : (putL 9 1 d s (echoL false b L)).length = 28 + m := by rw [put_len, hl1]; omega
  replace hl1 := Lib.hid hl1
  replace hl2 := Lib.hid hl2
  go_enter Tryz.func46, Tryz.ntmps46
  go_upto_region 1 with fail
  have bn := Blk.new w 80 (A10 wt s d a b f A len cap)
  have bel := bel_alloc w (.cells (A10 wt s d a b f A len cap) 80)
  generalize w.alloc (.cells (A10 wt s d a b f A len cap) 80) = W at *
  have q0 := bn.cell 0
  have q1 := bn.cell 1
  have q2 := bn.cell 2
  have q3 := bn.cell 3
  have q4 := bn.cell 4
  have q5 := bn.cell 5
  have q6 := bn.cell 6
  go_upto_region 17 with fail
  clear q0 q1 q2 q3 q4 q5 q6
  have z1 : ∀ t : Tw (fun w' => Blk w' w.heap.size 80 (A10 wt s d a b f A len cap)), t.w.cell? ⟨w.heap.size, 1, none⟩ = some (.int .u32 s) := fun t => t.h.cell 1
  have z2 : ∀ t : Tw (fun w' => Blk w' w.heap.size 80 (A10 wt s d a b f A len cap)), t.w.cell? ⟨w.heap.size, 2, none⟩ = some (.int .u32 d) := fun t => t.h.cell 2
  have z3 : ∀ t : Tw (fun w' => Blk w' w.heap.size 80 (A10 wt s d a b f A len cap)), t.w.cell? ⟨w.heap.size, 3, none⟩ = some (.int .u16 a) := fun t => t.h.cell 3
  have z4 : ∀ t : Tw (fun w' => Blk w' w.heap.size 80 (A10 wt s d a b f A len cap)), t.w.cell? ⟨w.heap.size, 4, none⟩ = some (.int .u16 b) := fun t => t.h.cell 4
  have : Nonempty (Tw (fun w' => Blk w' w.heap.size 80 (A10 wt s d a b f A len cap))) := ⟨⟨_, bn⟩⟩
  refine wp_region_plan (fun w' => Blk w' w.heap.size 80 (A10 wt s d a b f A len cap)) [(0, true), (1, true), (2, true), (3, true), (4, true), (5, true), (6, true), (7, true), (8, false), (9, false), (10, true), (11, true), (12, true), (13, true), (14, true)] (by kernel_rfl) (by kernel_rfl) (by kernel_rfl) (by kernel_rfl) bn.drew ?_
  replace bn := bn.drew
  replace bel := bel.drew
  generalize W.drew = W1 at *
  refine wpPl_qs 8 _ _ _ (by kernel_rfl) (by kernel_rfl) (by simp) ?_
  unfold clsS
  simp only [qq1, qq2, qq3, qq4, List.filterMap_cons, qq6, qq7, qq8, qq9]
  repeat (first | go_big_quiet_skip | (go_big_quiet_want; go_big_quiet_op; go_big_quiet_on) | refine id (?_ : wpQuiet _ _ _ _ (_ :: _) _))
  refine wpQuiet_nil ?_
  refine wpPl_e _ (by rfl) (by kernel_rfl) (fun K hK => ?_)
  go_simp
  refine (rEcho_any false b L A m cap _ W1 (hrd.out _ bel) (Nat.le_refl _) (by omega) hcm hb).mono ?_
  rintro e w2 ⟨v2, rfl, own2, bel2⟩
  replace own2 := own2.mono_ bel.size
  replace bn := bn.bel bel2
  replace bel := bel_after bel bel2
  clear bel2
  refine hK _ _ bn ?_
  clear hK K
  obtain ⟨A2, c2, rfl, hc1, hc2, rd2⟩ := own2.form hl1.out
  unfold maxLen at hc2
  clear own2
  refine wpPl_e _ (by rfl) (by kernel_rfl) (fun K hK => ?_)
  go_simp
  refine (rPut_any 0 0 9 1 d s _ A2 _ c2 _ w2 rd2 (Nat.le_refl _) (by omega) (by omega) hd hs (by omega)).mono ?_
  rintro e w3 ⟨v3, rfl, own3, bel3⟩
  replace own3 := own3.mono_ bel.size
  replace bn := bn.bel bel3
  replace bel := bel_after bel bel3
  clear bel3 rd2
  refine hK _ _ bn ?_
  clear hK K
  refine wpPl_qs 5 _ _ _ (by kernel_rfl) (by kernel_rfl) (by simp) ?_
  unfold clsS
  simp only [qq1, qq2, qq3, qq4, List.filterMap_cons, qq6, qq7, qq8, qq9]
  repeat (first | go_big_quiet_skip | (go_big_quiet_want; go_big_quiet_op; go_big_quiet_on) | refine id (?_ : wpQuiet _ _ _ _ (_ :: _) _))
  refine wpQuiet_nil ?_
  unfold wpPl
  refine NoPanic.normal ?_
  clear z1 z2 z3 z4 this
  have q5 := bn.cell 5
  obtain ⟨A3, c3, rfl, hc3, hc4, rd3⟩ := own3.form hl2.out
  unfold maxLen at hc4
  clear own3
  go_wp2_with fail
  refine (rFault_any 3 1 _ A3 _ c3 _ w3 rd3 (Nat.le_refl _) hc3 (by omega)).mono ?_
  rintro e w2 ⟨v2, rfl, own2, bel2⟩
  have own3 := own2.mono_ bel.size
  clear own2
  replace bel := bel_after bel bel2
  clear bel2 q5 bn
  go_wp2
  exact bodyPost_ret (v := .tuple #[v2, .int .i64 1]) (by simp [results, Tryz.results46, go_sem]) rfl ⟨_, rfl, own3, bel⟩
theorem sn_size : (Tryz.prog.info? 80).map (·.size) = some 7 := by kernel_rfl
theorem carP_bd (k : Nat) : 0 ≤ carP k ∧ carP k ≤ 255 := by
 unfold carP
 split
 ·omega
 ·split <;> omega
theorem Frame_any (wt s d a b f : Int) (l : List Int) (A : Option Addr) (len cap k : Nat) (w : World) (hr : Rd .u8 w w.heap.size A len l) (hlc : len ≤ cap) (hcm : cap ≤ 9223372036854775807) (hs : 0 ≤ s ∧ s ≤ 4294967295) (hd : 0 ≤ d ∧ d ≤ 4294967295) (ha : 0 ≤ a ∧ a ≤ 65535) (hb : 0 ≤ b ∧ b ≤ 65535)
  (hk : (IntKind.u64.wrap wt).tmod 7 = (k : Int)) (hk7 : k < 7) :
  Calls Tryz.prog 19 #[.agg (A10 wt s d a b f A len cap)] w (Gives w (frameL k s d a b f (l.take 40))) := by
 have hll := carL_len k s d a b f (l.take 40) (by rw [List.length_take]; omega)
 have hP := carP_bd k
 have hca := fun w' (h : Below w.heap.size w w') => Carried_any wt s d a b f l A len cap k w' ((hr.below h).more h.size) hlc hcm hs hd ha hb hk hk7
 unfold frameL
 obtain ⟨C, hC⟩ : ∃ C, C = carL k s d a b f (l.take 40) := ⟨_, rfl⟩
 obtain ⟨P, hPe⟩ : ∃ P, P = carP k := ⟨_, rfl⟩
 rw [← hC] at hll hca ⊢
 rw [← hPe] at hP hca ⊢
 clear hC hPe hk hr
 obtain ⟨n, hn⟩ : ∃ n, C.length = n := ⟨_, rfl⟩
 rw [hn] at hll
 replace hn := Lib.hid hn
 replace hca := Lib.hid hca
 go_enter Tryz.func19, Tryz.ntmps19
 go_upto_region 1 with fail
 have bn := Blk.new w 80 (A10 wt s d a b f A len cap)
 have bel := bel_alloc w (.cells (A10 wt s d a b f A len cap) 80)
 generalize w.alloc (.cells (A10 wt s d a b f A len cap) 80) = W at *
 go_wp2_with (refine wpList_ldRow rfl rfl rfl bn Tryz.underlying80 sn_size ?_)
 refine (hca.out _ bel).mono ?_
 rintro e w1 ⟨v1, rfl, own1, bel1⟩
 replace own1 := own1.mono_ bel.size
 replace bn := bn.bel bel1
 replace bel := bel_after bel bel1
 clear bel1
 obtain ⟨A1, c1, rfl, hc1, hc2, rd1⟩ := own1.form hn.out
 unfold maxLen at hc2
 clear own1
 have q1 := bn.cell 1
 have q2 := bn.cell 2
 go_wp2_with fail
 refine (rPut_any 0 0 64 P s d C A1 n c1 _ w1 rd1 (Nat.le_refl _) (by omega) hP hs hd (by omega)).mono ?_
 rintro e w2 ⟨v2, rfl, own2, bel2⟩
 replace own2 := own2.mono_ bel.size
 replace bel := bel_after bel bel2
 clear bel2 q1 q2 bn rd1
 go_wp2
 go_ret
 exact ⟨_, rfl, own2, bel⟩
def RightRes (w : World) (n : Nat) (e : Ending) (w' : World) : Prop := ∃ L : List Int, L.length = n ∧ Gives w L e w'
theorem Right_any (h : Hd) (l : List Int) (A : Option Addr) (len c : Nat) (w : World) (hr : Rd .u8 w w.heap.size A len l) (hl : len ≤ 60000) (hs : 0 ≤ h.src ∧ h.src ≤ 4294967295) (hd : 0 ≤ h.dst ∧ h.dst ≤ 4294967295) :
  Calls Tryz.prog 22 #[h.val, .slice A len c] w (RightRes w len) := by
 obtain ⟨i0, hi, hz0, hz1, hz2⟩ := info_parts info_u8_
 have hlen := Lib.hid hr.len
 obtain ⟨h0, h1, h2, h3, h4, h5⟩ := h
 unfold Hd.val
 simp only at hs hd ⊢
 by_cases g1 : h0 < 20
 ·go_enter Tryz.func22, Tryz.ntmps22
  go_upto_region 1 with fail
  have bh := Blk.new w 52 (A4 h0 h1 h2 h3 h4 h5)
  have bel := bel_alloc w (.cells (A4 h0 h1 h2 h3 h4 h5) 52)
  generalize w.alloc (.cells (A4 h0 h1 h2 h3 h4 h5) 52) = W at *
  have own0 := Own.new .u8 W 5 w.heap.size bel.size [] (by simp) #[] rfl 0 rfl (by simp)
  have hr2 := ((hr.below bel).alloc bel.size (.cells #[] 5))
  have bel0 := bel.alloc bel.size (.cells #[] 5)
  have hW := bel.size
  have bh0 := bh.alloc (.cells #[] 5)
  have hgh : w.heap.size < W.heap.size := bh.lt
  go_upto_region 2 with (at_builtin; refine wpList_app _ rfl (.tmp 9) (.tmp 10) 36 rfl .u8 w.heap.size 5 i0 (.int .u8 0) 1 Tryz.underlying36 hi hz0 hz1 hz2 rfl (.slice (some ⟨W.heap.size, 0, none⟩) 0 0) rfl [] own0 w.heap.size _ _ _ rfl l hr2 (by simp; omega) (by decide) (by simp; omega) ?_; intro v1 w1 own1 hg1 hv1; rw [List.nil_append] at own1; have bel1 : Below w.heap.size w w1 := bel0.grown hg1 (by simp; omega) (fun k h => by simp [Value.ownBlock] at h; omega); replace bh := bh0.grown hg1 (by simp [Value.ownBlock]; omega); clear hg1 own0 hr2 bel0 bh0)
  have q0 := bh.cell 0
  have q1 := bh.cell 1
  have q3 := bh.cell 3
  go_wp2
  go_ret
  exact ⟨l, hlen.out, _, rfl, own1, bel1⟩
 by_cases g2 : h1 < h0
 ·go_enter Tryz.func22, Tryz.ntmps22
  go_upto_region 1 with fail
  have bh := Blk.new w 52 (A4 h0 h1 h2 h3 h4 h5)
  have bel := bel_alloc w (.cells (A4 h0 h1 h2 h3 h4 h5) 52)
  generalize w.alloc (.cells (A4 h0 h1 h2 h3 h4 h5) 52) = W at *
  have own0 := Own.new .u8 W 5 w.heap.size bel.size [] (by simp) #[] rfl 0 rfl (by simp)
  have hr2 := ((hr.below bel).alloc bel.size (.cells #[] 5))
  have bel0 := bel.alloc bel.size (.cells #[] 5)
  have hW := bel.size
  have bh0 := bh.alloc (.cells #[] 5)
  have hgh : w.heap.size < W.heap.size := bh.lt
  go_upto_region 2 with (at_builtin; refine wpList_app _ rfl (.tmp 9) (.tmp 10) 36 rfl .u8 w.heap.size 5 i0 (.int .u8 0) 1 Tryz.underlying36 hi hz0 hz1 hz2 rfl (.slice (some ⟨W.heap.size, 0, none⟩) 0 0) rfl [] own0 w.heap.size _ _ _ rfl l hr2 (by simp; omega) (by decide) (by simp; omega) ?_; intro v1 w1 own1 hg1 hv1; rw [List.nil_append] at own1; have bel1 : Below w.heap.size w w1 := bel0.grown hg1 (by simp; omega) (fun k h => by simp [Value.ownBlock] at h; omega); replace bh := bh0.grown hg1 (by simp [Value.ownBlock]; omega); clear hg1 own0 hr2 bel0 bh0)
  have q0 := bh.cell 0
  have q1 := bh.cell 1
  have q3 := bh.cell 3
  go_wp2
  go_ret
  exact ⟨l, hlen.out, _, rfl, own1, bel1⟩
 by_cases g3 : (len : Int) < h1
 ·go_enter Tryz.func22, Tryz.ntmps22
  go_upto_region 1 with fail
  have bh := Blk.new w 52 (A4 h0 h1 h2 h3 h4 h5)
  have bel := bel_alloc w (.cells (A4 h0 h1 h2 h3 h4 h5) 52)
  generalize w.alloc (.cells (A4 h0 h1 h2 h3 h4 h5) 52) = W at *
  have own0 := Own.new .u8 W 5 w.heap.size bel.size [] (by simp) #[] rfl 0 rfl (by simp)
  have hr2 := ((hr.below bel).alloc bel.size (.cells #[] 5))
  have bel0 := bel.alloc bel.size (.cells #[] 5)
  have hW := bel.size
  have bh0 := bh.alloc (.cells #[] 5)
  have hgh : w.heap.size < W.heap.size := bh.lt
  go_upto_region 2 with (at_builtin; refine wpList_app _ rfl (.tmp 9) (.tmp 10) 36 rfl .u8 w.heap.size 5 i0 (.int .u8 0) 1 Tryz.underlying36 hi hz0 hz1 hz2 rfl (.slice (some ⟨W.heap.size, 0, none⟩) 0 0) rfl [] own0 w.heap.size _ _ _ rfl l hr2 (by simp; omega) (by decide) (by simp; omega) ?_; intro v1 w1 own1 hg1 hv1; rw [List.nil_append] at own1; have bel1 : Below w.heap.size w w1 := bel0.grown hg1 (by simp; omega) (fun k h => by simp [Value.ownBlock] at h; omega); replace bh := bh0.grown hg1 (by simp [Value.ownBlock]; omega); clear hg1 own0 hr2 bel0 bh0)
  have q0 := bh.cell 0
  have q1 := bh.cell 1
  have q3 := bh.cell 3
  obtain ⟨A1, c1, rfl, hc1, hc2, rd1⟩ := own1.form hlen.out
  go_wp2
  go_ret
  exact ⟨l, hlen.out, _, rfl, own1, bel1⟩
 obtain ⟨m, rfl⟩ : ∃ m : Nat, h0 = (m : Int) := ⟨h0.toNat, by omega⟩
 obtain ⟨n, rfl⟩ : ∃ n : Nat, h1 = (n : Int) := ⟨h1.toNat, by omega⟩
 have hm1 : 20 ≤ m := by omega
 have hm3 : m ≤ n := by omega
 have hm4 : n ≤ len := by omega
 have d1 : decide ((m : Int) < 20) = false := by simp; omega
 have d2 : decide ((n : Int) < m) = false := by simp; omega
 have d3 : decide ((len : Int) < n) = false := by simp; omega
 clear g1 g2 g3
 by_cases h17 : h3 = 17
 ·subst h17
  by_cases g4 : n - m < 8
  ·have d4 : decide (((n - m : Nat) : Int) < 8) = true := by simp; omega
   go_enter Tryz.func22, Tryz.ntmps22
   go_upto_region 1 with fail
   have bh := Blk.new w 52 (A4 (m : Int) (n : Int) h2 17 h4 h5)
   have bel := bel_alloc w (.cells (A4 (m : Int) (n : Int) h2 17 h4 h5) 52)
   generalize w.alloc (.cells (A4 (m : Int) (n : Int) h2 17 h4 h5) 52) = W at *
   have own0 := Own.new .u8 W 5 w.heap.size bel.size [] (by simp) #[] rfl 0 rfl (by simp)
   have hr2 := ((hr.below bel).alloc bel.size (.cells #[] 5))
   have bel0 := bel.alloc bel.size (.cells #[] 5)
   have hW := bel.size
   have bh0 := bh.alloc (.cells #[] 5)
   have hgh : w.heap.size < W.heap.size := bh.lt
   go_upto_region 2 with (at_builtin; refine wpList_app _ rfl (.tmp 9) (.tmp 10) 36 rfl .u8 w.heap.size 5 i0 (.int .u8 0) 1 Tryz.underlying36 hi hz0 hz1 hz2 rfl (.slice (some ⟨W.heap.size, 0, none⟩) 0 0) rfl [] own0 w.heap.size _ _ _ rfl l hr2 (by simp; omega) (by decide) (by simp; omega) ?_; intro v1 w1 own1 hg1 hv1; rw [List.nil_append] at own1; have bel1 : Below w.heap.size w w1 := bel0.grown hg1 (by simp; omega) (fun k h => by simp [Value.ownBlock] at h; omega); replace bh := bh0.grown hg1 (by simp [Value.ownBlock]; omega); clear hg1 own0 hr2 bel0 bh0)
   have q0 := bh.cell 0
   have q1 := bh.cell 1
   have q3 := bh.cell 3
   obtain ⟨g, c1, rfl, hc1, hc2, hgb, hgw⟩ := own1.formG hlen.out (by omega)
   unfold maxLen at hc2
   obtain ⟨A2, hA2⟩ : ∃ A2 : Option Addr, (if c1 = m then some ⟨g, 0, none⟩ else some ⟨g, m, none⟩) = A2 := ⟨_, rfl⟩
   go_wp2
   go_ret
   exact ⟨l, hlen.out, _, rfl, own1, bel1⟩
  have d4 : decide (((n - m : Nat) : Int) < 8) = false := by simp; omega
  go_enter Tryz.func22, Tryz.ntmps22
  go_upto_region 1 with fail
  have bh := Blk.new w 52 (A4 (m : Int) (n : Int) h2 17 h4 h5)
  have bel := bel_alloc w (.cells (A4 (m : Int) (n : Int) h2 17 h4 h5) 52)
  generalize w.alloc (.cells (A4 (m : Int) (n : Int) h2 17 h4 h5) 52) = W at *
  have own0 := Own.new .u8 W 5 w.heap.size bel.size [] (by simp) #[] rfl 0 rfl (by simp)
  have hr2 := ((hr.below bel).alloc bel.size (.cells #[] 5))
  have bel0 := bel.alloc bel.size (.cells #[] 5)
  have hW := bel.size
  have bh0 := bh.alloc (.cells #[] 5)
  have hgh : w.heap.size < W.heap.size := bh.lt
  go_upto_region 2 with (at_builtin; refine wpList_app _ rfl (.tmp 9) (.tmp 10) 36 rfl .u8 w.heap.size 5 i0 (.int .u8 0) 1 Tryz.underlying36 hi hz0 hz1 hz2 rfl (.slice (some ⟨W.heap.size, 0, none⟩) 0 0) rfl [] own0 w.heap.size _ _ _ rfl l hr2 (by simp; omega) (by decide) (by simp; omega) ?_; intro v1 w1 own1 hg1 hv1; rw [List.nil_append] at own1; have bel1 : Below w.heap.size w w1 := bel0.grown hg1 (by simp; omega) (fun k h => by simp [Value.ownBlock] at h; omega); replace bh := bh0.grown hg1 (by simp [Value.ownBlock]; omega); clear hg1 own0 hr2 bel0 bh0)
  have q0 := bh.cell 0
  have q1 := bh.cell 1
  have q3 := bh.cell 3
  obtain ⟨g, c1, rfl, hc1, hc2, hgb, hgw⟩ := own1.formG hlen.out (by omega)
  unfold maxLen at hc2
  have hcm1 : (c1 = m) = False := by simp; omega
  obtain ⟨k0, z0, _⟩ := own1.at_ hlen.out (j := m + 6) (by omega)
  obtain ⟨k1, z1, _⟩ := own1.at_ hlen.out (j := m + 6 + 1) (by omega)
  go_upto_region 16 with fail
  have hgne := own1.ne bh (by decide)
  have own2 := (own1.set hlen.out (m + 6) (x := 0) (u8_inr (by omega))).set (by rw [List.length_set]; exact hlen.out) (m + 7) (x := 0) (u8_inr (by omega))
  have bel2 := (bel1.setCell (p := ⟨g, m + 6, none⟩) hgb (.int .u8 0)).setCell (p := ⟨g, m + 7, none⟩) hgb (.int .u8 0)
  replace bh := (bh.far (p := ⟨g, m + 6, none⟩) hgne (.int .u8 0)).far (p := ⟨g, m + 7, none⟩) hgne (.int .u8 0)
  obtain ⟨L2, hL2, hLl⟩ : ∃ L2, L2 = (l.set (m + 6) 0).set (m + 7) 0 ∧ L2.length = len := ⟨_, rfl, by rw [List.length_set, List.length_set, hlen.out]⟩
  rw [← hL2] at own2
  clear hL2 own1 k0 k1 z0 z1 q0 q1 q3
  replace hLl := Lib.hid hLl
  generalize (w1.setCell ⟨g, m + 6, none⟩ (.int .u8 0)).setCell ⟨g, m + 7, none⟩ (.int .u8 0) = W2 at *
  have rd3 := (own2.rd hLl.out).sub m (n - m) (by omega)
  rw [Nat.zero_add] at rd3
  have hSb := sumOf_bd (fun x hx => inr_u8 (rd3.rng x hx))
  have q3 := bh.cell 3
  have q4 := bh.cell 4
  have q5 := bh.cell 5
  go_wp2_with fail
  refine (rOf_any (seg L2 m (n - m)) _ (n - m) (c1 - m) _ W2 (by omega) rd3).mono ?_
  rintro e W3 ⟨rfl, rfl⟩
  generalize sumOf (seg L2 m (n - m)) = S at *
  go_wp2_with fail
  refine (Pseudo_any h4 h5 17 (seg L2 m (n - m)) _ (n - m) (c1 - m) _ W2 rd3 (Nat.le_refl _) hs hd (by omega) (by omega)).mono ?_
  have hTb : 0 ≤ csum h4 h5 17 (seg L2 m (n - m)) ∧ csum h4 h5 17 (seg L2 m (n - m)) ≤ 65535 := csum_bd hs hd (by omega) (by rw [rd3.len]; omega) (fun x hx => inr_u8 (rd3.rng x hx))
  rintro e W3 ⟨rfl, hb⟩
  replace own2 := own2.below hb
  replace bel2 := bel_after bel2 hb
  clear hb rd3 q3 q4 q5 bh hSb
  generalize csum h4 h5 17 (seg L2 m (n - m)) = S at *
  have hSw : IntKind.u8.wrap S = S % 256 := IntKind.wrap_u8' _
  obtain ⟨k0, z0, _⟩ := own2.at_ hLl.out (j := m + 6) (by omega)
  obtain ⟨k1, z1, _⟩ := own2.at_ hLl.out (j := m + 7) (by omega)
  have own3 := (own2.set hLl.out (m + 6) (x := S / 256) (u8_inr (by omega))).set (by rw [List.length_set]; exact hLl.out) (m + 7) (x := S % 256) (u8_inr (by omega))
  have bel3 := (bel2.setCell (p := ⟨g, m + 6, none⟩) hgb (.int .u8 (S / 256))).setCell (p := ⟨g, m + 7, none⟩) hgb (.int .u8 (S % 256))
  go_wp2
  go_ret
  exact ⟨_, by rw [List.length_set, List.length_set, hLl.out], _, rfl, own3, bel3⟩
 by_cases h6 : h3 = 6
 ·subst h6
  by_cases g4 : n - m < 18
  ·have d4 : decide (((n - m : Nat) : Int) < 18) = true := by simp; omega
   go_enter Tryz.func22, Tryz.ntmps22
   go_upto_region 1 with fail
   have bh := Blk.new w 52 (A4 (m : Int) (n : Int) h2 6 h4 h5)
   have bel := bel_alloc w (.cells (A4 (m : Int) (n : Int) h2 6 h4 h5) 52)
   generalize w.alloc (.cells (A4 (m : Int) (n : Int) h2 6 h4 h5) 52) = W at *
   have own0 := Own.new .u8 W 5 w.heap.size bel.size [] (by simp) #[] rfl 0 rfl (by simp)
   have hr2 := ((hr.below bel).alloc bel.size (.cells #[] 5))
   have bel0 := bel.alloc bel.size (.cells #[] 5)
   have hW := bel.size
   have bh0 := bh.alloc (.cells #[] 5)
   have hgh : w.heap.size < W.heap.size := bh.lt
   go_upto_region 2 with (at_builtin; refine wpList_app _ rfl (.tmp 9) (.tmp 10) 36 rfl .u8 w.heap.size 5 i0 (.int .u8 0) 1 Tryz.underlying36 hi hz0 hz1 hz2 rfl (.slice (some ⟨W.heap.size, 0, none⟩) 0 0) rfl [] own0 w.heap.size _ _ _ rfl l hr2 (by simp; omega) (by decide) (by simp; omega) ?_; intro v1 w1 own1 hg1 hv1; rw [List.nil_append] at own1; have bel1 : Below w.heap.size w w1 := bel0.grown hg1 (by simp; omega) (fun k h => by simp [Value.ownBlock] at h; omega); replace bh := bh0.grown hg1 (by simp [Value.ownBlock]; omega); clear hg1 own0 hr2 bel0 bh0)
   have q0 := bh.cell 0
   have q1 := bh.cell 1
   have q3 := bh.cell 3
   obtain ⟨g, c1, rfl, hc1, hc2, hgb, hgw⟩ := own1.formG hlen.out (by omega)
   unfold maxLen at hc2
   obtain ⟨A2, hA2⟩ : ∃ A2 : Option Addr, (if c1 = m then some ⟨g, 0, none⟩ else some ⟨g, m, none⟩) = A2 := ⟨_, rfl⟩
   go_wp2
   go_ret
   exact ⟨l, hlen.out, _, rfl, own1, bel1⟩
  have d4 : decide (((n - m : Nat) : Int) < 18) = false := by simp; omega
  go_enter Tryz.func22, Tryz.ntmps22
  go_upto_region 1 with fail
  have bh := Blk.new w 52 (A4 (m : Int) (n : Int) h2 6 h4 h5)
  have bel := bel_alloc w (.cells (A4 (m : Int) (n : Int) h2 6 h4 h5) 52)
  generalize w.alloc (.cells (A4 (m : Int) (n : Int) h2 6 h4 h5) 52) = W at *
  have own0 := Own.new .u8 W 5 w.heap.size bel.size [] (by simp) #[] rfl 0 rfl (by simp)
  have hr2 := ((hr.below bel).alloc bel.size (.cells #[] 5))
  have bel0 := bel.alloc bel.size (.cells #[] 5)
  have hW := bel.size
  have bh0 := bh.alloc (.cells #[] 5)
  have hgh : w.heap.size < W.heap.size := bh.lt
  go_upto_region 2 with (at_builtin; refine wpList_app _ rfl (.tmp 9) (.tmp 10) 36 rfl .u8 w.heap.size 5 i0 (.int .u8 0) 1 Tryz.underlying36 hi hz0 hz1 hz2 rfl (.slice (some ⟨W.heap.size, 0, none⟩) 0 0) rfl [] own0 w.heap.size _ _ _ rfl l hr2 (by simp; omega) (by decide) (by simp; omega) ?_; intro v1 w1 own1 hg1 hv1; rw [List.nil_append] at own1; have bel1 : Below w.heap.size w w1 := bel0.grown hg1 (by simp; omega) (fun k h => by simp [Value.ownBlock] at h; omega); replace bh := bh0.grown hg1 (by simp [Value.ownBlock]; omega); clear hg1 own0 hr2 bel0 bh0)
  have q0 := bh.cell 0
  have q1 := bh.cell 1
  have q3 := bh.cell 3
  obtain ⟨g, c1, rfl, hc1, hc2, hgb, hgw⟩ := own1.formG hlen.out (by omega)
  unfold maxLen at hc2
  have hcm1 : (c1 = m) = False := by simp; omega
  obtain ⟨k0, z0, _⟩ := own1.at_ hlen.out (j := m + 16) (by omega)
  obtain ⟨k1, z1, _⟩ := own1.at_ hlen.out (j := m + 16 + 1) (by omega)
  go_upto_region 16 with fail
  have hgne := own1.ne bh (by decide)
  have own2 := (own1.set hlen.out (m + 16) (x := 0) (u8_inr (by omega))).set (by rw [List.length_set]; exact hlen.out) (m + 17) (x := 0) (u8_inr (by omega))
  have bel2 := (bel1.setCell (p := ⟨g, m + 16, none⟩) hgb (.int .u8 0)).setCell (p := ⟨g, m + 17, none⟩) hgb (.int .u8 0)
  replace bh := (bh.far (p := ⟨g, m + 16, none⟩) hgne (.int .u8 0)).far (p := ⟨g, m + 17, none⟩) hgne (.int .u8 0)
  obtain ⟨L2, hL2, hLl⟩ : ∃ L2, L2 = (l.set (m + 16) 0).set (m + 17) 0 ∧ L2.length = len := ⟨_, rfl, by rw [List.length_set, List.length_set, hlen.out]⟩
  rw [← hL2] at own2
  clear hL2 own1 k0 k1 z0 z1 q0 q1 q3
  replace hLl := Lib.hid hLl
  generalize (w1.setCell ⟨g, m + 16, none⟩ (.int .u8 0)).setCell ⟨g, m + 17, none⟩ (.int .u8 0) = W2 at *
  have rd3 := (own2.rd hLl.out).sub m (n - m) (by omega)
  rw [Nat.zero_add] at rd3
  have hSb := sumOf_bd (fun x hx => inr_u8 (rd3.rng x hx))
  have q3 := bh.cell 3
  have q4 := bh.cell 4
  have q5 := bh.cell 5
  go_wp2_with fail
  refine (rOf_any (seg L2 m (n - m)) _ (n - m) (c1 - m) _ W2 (by omega) rd3).mono ?_
  rintro e W3 ⟨rfl, rfl⟩
  generalize sumOf (seg L2 m (n - m)) = S at *
  go_wp2_with fail
  refine (Pseudo_any h4 h5 6 (seg L2 m (n - m)) _ (n - m) (c1 - m) _ W2 rd3 (Nat.le_refl _) hs hd (by omega) (by omega)).mono ?_
  have hTb : 0 ≤ csum h4 h5 6 (seg L2 m (n - m)) ∧ csum h4 h5 6 (seg L2 m (n - m)) ≤ 65535 := csum_bd hs hd (by omega) (by rw [rd3.len]; omega) (fun x hx => inr_u8 (rd3.rng x hx))
  rintro e W3 ⟨rfl, hb⟩
  replace own2 := own2.below hb
  replace bel2 := bel_after bel2 hb
  clear hb rd3 q3 q4 q5 bh hSb
  generalize csum h4 h5 6 (seg L2 m (n - m)) = S at *
  have hSw : IntKind.u8.wrap S = S % 256 := IntKind.wrap_u8' _
  obtain ⟨k0, z0, _⟩ := own2.at_ hLl.out (j := m + 16) (by omega)
  obtain ⟨k1, z1, _⟩ := own2.at_ hLl.out (j := m + 17) (by omega)
  have own3 := (own2.set hLl.out (m + 16) (x := S / 256) (u8_inr (by omega))).set (by rw [List.length_set]; exact hLl.out) (m + 17) (x := S % 256) (u8_inr (by omega))
  have bel3 := (bel2.setCell (p := ⟨g, m + 16, none⟩) hgb (.int .u8 (S / 256))).setCell (p := ⟨g, m + 17, none⟩) hgb (.int .u8 (S % 256))
  go_wp2
  go_ret
  exact ⟨_, by rw [List.length_set, List.length_set, hLl.out], _, rfl, own3, bel3⟩
 by_cases h1 : h3 = 1
 ·subst h1
  by_cases g4 : n - m < 4
  ·have d4 : decide (((n - m : Nat) : Int) < 4) = true := by simp; omega
   go_enter Tryz.func22, Tryz.ntmps22
   go_upto_region 1 with fail
   have bh := Blk.new w 52 (A4 (m : Int) (n : Int) h2 1 h4 h5)
   have bel := bel_alloc w (.cells (A4 (m : Int) (n : Int) h2 1 h4 h5) 52)
   generalize w.alloc (.cells (A4 (m : Int) (n : Int) h2 1 h4 h5) 52) = W at *
   have own0 := Own.new .u8 W 5 w.heap.size bel.size [] (by simp) #[] rfl 0 rfl (by simp)
   have hr2 := ((hr.below bel).alloc bel.size (.cells #[] 5))
   have bel0 := bel.alloc bel.size (.cells #[] 5)
   have hW := bel.size
   have bh0 := bh.alloc (.cells #[] 5)
   have hgh : w.heap.size < W.heap.size := bh.lt
   go_upto_region 2 with (at_builtin; refine wpList_app _ rfl (.tmp 9) (.tmp 10) 36 rfl .u8 w.heap.size 5 i0 (.int .u8 0) 1 Tryz.underlying36 hi hz0 hz1 hz2 rfl (.slice (some ⟨W.heap.size, 0, none⟩) 0 0) rfl [] own0 w.heap.size _ _ _ rfl l hr2 (by simp; omega) (by decide) (by simp; omega) ?_; intro v1 w1 own1 hg1 hv1; rw [List.nil_append] at own1; have bel1 : Below w.heap.size w w1 := bel0.grown hg1 (by simp; omega) (fun k h => by simp [Value.ownBlock] at h; omega); replace bh := bh0.grown hg1 (by simp [Value.ownBlock]; omega); clear hg1 own0 hr2 bel0 bh0)
   have q0 := bh.cell 0
   have q1 := bh.cell 1
   have q3 := bh.cell 3
   obtain ⟨g, c1, rfl, hc1, hc2, hgb, hgw⟩ := own1.formG hlen.out (by omega)
   unfold maxLen at hc2
   obtain ⟨A2, hA2⟩ : ∃ A2 : Option Addr, (if c1 = m then some ⟨g, 0, none⟩ else some ⟨g, m, none⟩) = A2 := ⟨_, rfl⟩
   go_wp2
   go_ret
   exact ⟨l, hlen.out, _, rfl, own1, bel1⟩
  have d4 : decide (((n - m : Nat) : Int) < 4) = false := by simp; omega
  go_enter Tryz.func22, Tryz.ntmps22
  go_upto_region 1 with fail
  have bh := Blk.new w 52 (A4 (m : Int) (n : Int) h2 1 h4 h5)
  have bel := bel_alloc w (.cells (A4 (m : Int) (n : Int) h2 1 h4 h5) 52)
  generalize w.alloc (.cells (A4 (m : Int) (n : Int) h2 1 h4 h5) 52) = W at *
  have own0 := Own.new .u8 W 5 w.heap.size bel.size [] (by simp) #[] rfl 0 rfl (by simp)
  have hr2 := ((hr.below bel).alloc bel.size (.cells #[] 5))
  have bel0 := bel.alloc bel.size (.cells #[] 5)
  have hW := bel.size
  have bh0 := bh.alloc (.cells #[] 5)
  have hgh : w.heap.size < W.heap.size := bh.lt
  go_upto_region 2 with (at_builtin; refine wpList_app _ rfl (.tmp 9) (.tmp 10) 36 rfl .u8 w.heap.size 5 i0 (.int .u8 0) 1 Tryz.underlying36 hi hz0 hz1 hz2 rfl (.slice (some ⟨W.heap.size, 0, none⟩) 0 0) rfl [] own0 w.heap.size _ _ _ rfl l hr2 (by simp; omega) (by decide) (by simp; omega) ?_; intro v1 w1 own1 hg1 hv1; rw [List.nil_append] at own1; have bel1 : Below w.heap.size w w1 := bel0.grown hg1 (by simp; omega) (fun k h => by simp [Value.ownBlock] at h; omega); replace bh := bh0.grown hg1 (by simp [Value.ownBlock]; omega); clear hg1 own0 hr2 bel0 bh0)
  have q0 := bh.cell 0
  have q1 := bh.cell 1
  have q3 := bh.cell 3
  obtain ⟨g, c1, rfl, hc1, hc2, hgb, hgw⟩ := own1.formG hlen.out (by omega)
  unfold maxLen at hc2
  have hcm1 : (c1 = m) = False := by simp; omega
  obtain ⟨k0, z0, _⟩ := own1.at_ hlen.out (j := m + 2) (by omega)
  obtain ⟨k1, z1, _⟩ := own1.at_ hlen.out (j := m + 2 + 1) (by omega)
  go_upto_region 16 with fail
  have hgne := own1.ne bh (by decide)
  have own2 := (own1.set hlen.out (m + 2) (x := 0) (u8_inr (by omega))).set (by rw [List.length_set]; exact hlen.out) (m + 3) (x := 0) (u8_inr (by omega))
  have bel2 := (bel1.setCell (p := ⟨g, m + 2, none⟩) hgb (.int .u8 0)).setCell (p := ⟨g, m + 3, none⟩) hgb (.int .u8 0)
  replace bh := (bh.far (p := ⟨g, m + 2, none⟩) hgne (.int .u8 0)).far (p := ⟨g, m + 3, none⟩) hgne (.int .u8 0)
  obtain ⟨L2, hL2, hLl⟩ : ∃ L2, L2 = (l.set (m + 2) 0).set (m + 3) 0 ∧ L2.length = len := ⟨_, rfl, by rw [List.length_set, List.length_set, hlen.out]⟩
  rw [← hL2] at own2
  clear hL2 own1 k0 k1 z0 z1 q0 q1 q3
  replace hLl := Lib.hid hLl
  generalize (w1.setCell ⟨g, m + 2, none⟩ (.int .u8 0)).setCell ⟨g, m + 3, none⟩ (.int .u8 0) = W2 at *
  have rd3 := (own2.rd hLl.out).sub m (n - m) (by omega)
  rw [Nat.zero_add] at rd3
  have hSb := sumOf_bd (fun x hx => inr_u8 (rd3.rng x hx))
  have q3 := bh.cell 3
  have q4 := bh.cell 4
  have q5 := bh.cell 5
  go_wp2_with fail
  refine (rOf_any (seg L2 m (n - m)) _ (n - m) (c1 - m) _ W2 (by omega) rd3).mono ?_
  rintro e W3 ⟨rfl, rfl⟩
  generalize sumOf (seg L2 m (n - m)) = S at *
  have hSw : IntKind.u8.wrap S = S % 256 := IntKind.wrap_u8' _
  obtain ⟨k0, z0, _⟩ := own2.at_ hLl.out (j := m + 2) (by omega)
  obtain ⟨k1, z1, _⟩ := own2.at_ hLl.out (j := m + 3) (by omega)
  have own3 := (own2.set hLl.out (m + 2) (x := S / 256) (u8_inr (by omega))).set (by rw [List.length_set]; exact hLl.out) (m + 3) (x := S % 256) (u8_inr (by omega))
  have bel3 := (bel2.setCell (p := ⟨g, m + 2, none⟩) hgb (.int .u8 (S / 256))).setCell (p := ⟨g, m + 3, none⟩) hgb (.int .u8 (S % 256))
  go_wp2
  go_ret
  exact ⟨_, by rw [List.length_set, List.length_set, hLl.out], _, rfl, own3, bel3⟩
 have e17 : (h3 == 17) = false := by simpa using h17
 have e6 : (h3 == 6) = false := by simpa using h6
 have e1 : (h3 == 1) = false := by simpa using h1
 go_enter Tryz.func22, Tryz.ntmps22
 go_upto_region 1 with fail
 have bh := Blk.new w 52 (A4 (m : Int) (n : Int) h2 h3 h4 h5)
 have bel := bel_alloc w (.cells (A4 (m : Int) (n : Int) h2 h3 h4 h5) 52)
 generalize w.alloc (.cells (A4 (m : Int) (n : Int) h2 h3 h4 h5) 52) = W at *
 have own0 := Own.new .u8 W 5 w.heap.size bel.size [] (by simp) #[] rfl 0 rfl (by simp)
 have hr2 := ((hr.below bel).alloc bel.size (.cells #[] 5))
 have bel0 := bel.alloc bel.size (.cells #[] 5)
 have hW := bel.size
 have bh0 := bh.alloc (.cells #[] 5)
 have hgh : w.heap.size < W.heap.size := bh.lt
 go_upto_region 2 with (at_builtin; refine wpList_app _ rfl (.tmp 9) (.tmp 10) 36 rfl .u8 w.heap.size 5 i0 (.int .u8 0) 1 Tryz.underlying36 hi hz0 hz1 hz2 rfl (.slice (some ⟨W.heap.size, 0, none⟩) 0 0) rfl [] own0 w.heap.size _ _ _ rfl l hr2 (by simp; omega) (by decide) (by simp; omega) ?_; intro v1 w1 own1 hg1 hv1; rw [List.nil_append] at own1; have bel1 : Below w.heap.size w w1 := bel0.grown hg1 (by simp; omega) (fun k h => by simp [Value.ownBlock] at h; omega); replace bh := bh0.grown hg1 (by simp [Value.ownBlock]; omega); clear hg1 own0 hr2 bel0 bh0)
 have q0 := bh.cell 0
 have q1 := bh.cell 1
 have q3 := bh.cell 3
 obtain ⟨g, c1, rfl, hc1, hc2, hgb, hgw⟩ := own1.formG hlen.out (by omega)
 unfold maxLen at hc2
 obtain ⟨A2, hA2⟩ : ∃ A2 : Option Addr, (if c1 = m then some ⟨g, 0, none⟩ else some ⟨g, m, none⟩) = A2 := ⟨_, rfl⟩
 go_wp2
 go_ret
 exact ⟨l, hlen.out, _, rfl, own1, bel1⟩
theorem fld_ints {P : Program} {W : World} {k : IntKind} {e : TypeId} {fs : Array Field} {m i : Nat} {f : Field} {cs : List Value} (hf : ∀ (i : Nat) (f : Field), fs[i]? = some f → Rdg P W m f.type ((cs.drop f.offset).take (P.cellsOf f.type)))
  (hi : fs[i]? = some f) (ht : P.underlying f.type = some (.slice e)) (he : P.underlying e = some (.int k)) (hCe : P.cellsOf e = 1) (hC : P.cellsOf f.type = 1) :
  ∃ A len cap l, cs[f.offset]? = some (.slice A len cap) ∧ len ≤ cap ∧ cap ≤ maxLen ∧ Rd k W W.heap.size A len l := by
 have h := hf i f hi
 rw [hC] at h
 obtain ⟨A, len, cap, l, hcs, h3, h4, h5⟩ := rdg_ints ht he hCe h
 refine ⟨A, len, cap, l, ?_, h3, h4, h5⟩
 have : ((cs.drop f.offset).take 1)[0]? = some (.slice A len cap) := by rw [hcs]; rfl
 simpa using this
theorem frame_head {P s d : Int} {l : List Int} (hP : 0 ≤ P ∧ P ≤ 255) (hs : 0 ≤ s ∧ s ≤ 4294967295) (hd : 0 ≤ d ∧ d ≤ 4294967295) (hl : l.length ≤ 1480) : getE (putL 64 P s d l) = 0 ∧ hdIf (putL 64 P s d l) 0 = ⟨20, 20 + l.length, 64, P, s, d⟩ := by
 have h := put_get (t := 64) (p := P) (s := s) (d := d) (l := l) (by omega) hP hs hd hl []
 rw [List.append_nil] at h
 refine ⟨h.1, ?_⟩
 unfold hdIf
 rw [if_pos rfl, h.2]
def Cl (l : List Int) : Prop := ∃ q : Int, 0 < q ∧ sb true l = 65535 * q
theorem Cl.zero {l : List Int} (h : Cl l) : sumOf l = 0 := by obtain ⟨q, h1, h2⟩ := h; exact sumOf_null l q h1 h2
theorem cl_of (l l0 : List Int) (h0 : 0 ≤ sb true l0) (h : sb true l = sb true l0 + sumOf l0) : Cl l := by
 unfold sumOf at h
 unfold Cl
 rw [h]
 generalize sb true l0 = A at *
 by_cases hA : A = 0
 ·subst hA; exact ⟨1, by omega, by decide⟩
 ·have : fo A = (A - 1) % 65535 + 1 := by unfold fo; rw [if_neg hA]
  rw [this]; exact ⟨(A - 1) / 65535 + 1, by omega, by omega⟩
theorem cl_nev (l l0 : List Int) (h0 : 0 ≤ sb true l0) (h : sb true l = sb true l0 + nev (sumOf l0)) : Cl l := by
 unfold nev at h
 by_cases hz : sumOf l0 = 0
 ·rw [if_pos hz] at h
  unfold Cl
  rw [h]
  unfold sumOf at hz
  generalize sb true l0 = A at *
  by_cases hA : A = 0
  ·subst hA; exact absurd hz (by decide)
  ·have : fo A = (A - 1) % 65535 + 1 := by unfold fo; rw [if_neg hA]
   rw [this] at hz; exact ⟨(A - 1) / 65535 + 2, by omega, by omega⟩
 ·rw [if_neg hz] at h
  exact cl_of l l0 h0 h
theorem udpB_sb (a b : Int) (l : List Int) (S : Int) : sb true (udpB a b l S) = sb true (udpB a b l 0) + S := by
 simp only [udpB, be2, List.cons_append, List.nil_append, sb]; omega
theorem tcpB_sb (a b f : Int) (l : List Int) (S : Int) : sb true (tcpB a b f l S) = sb true (tcpB a b f l 0) + S := by
 simp only [tcpB, be2, List.cons_append, List.nil_append, sb]; omega
theorem echoB_sb (k a : Int) (l : List Int) (S : Int) : sb true (echoB k a l S) = sb true (echoB k a l 0) + S := by
 simp only [echoB, be2, List.cons_append, List.nil_append, sb]; omega
def Bytes8 (l : List Int) : Prop := ∀ x, x ∈ l → 0 ≤ x ∧ x ≤ 255
theorem b8 {l : List Int} (h : ∀ x, x ∈ l → 0 ≤ x ∧ x ≤ 255) : Bytes8 l := h
theorem Bytes8.app {a b : List Int} (ha : Bytes8 a) (hb : Bytes8 b) : Bytes8 (a ++ b) := fun x hx => (List.mem_append.1 hx).elim (ha x) (hb x)
theorem Bytes8.take {a : List Int} (ha : Bytes8 a) (n : Nat) : Bytes8 (a.take n) := fun x hx => ha x (List.mem_of_mem_take hx)
theorem udpB_bd {a b : Int} {l : List Int} {S : Int} (ha : 0 ≤ a ∧ a ≤ 65535) (hb : 0 ≤ b ∧ b ≤ 65535) (hl : Bytes8 l) (hn : l.length ≤ 65527) (hS : 0 ≤ S ∧ S ≤ 65535) : Bytes8 (udpB a b l S) :=
 ((((b8 (be2_bd a ha)).app (be2_bd b hb)).app (be2_bd _ (by omega))).app (be2_bd S hS)).app hl
theorem tcpB_bd {a b f : Int} {l : List Int} {S : Int} (ha : 0 ≤ a ∧ a ≤ 65535) (hb : 0 ≤ b ∧ b ≤ 65535) (hl : Bytes8 l) (hS : 0 ≤ S ∧ S ≤ 65535) : Bytes8 (tcpB a b f l S) :=
 (((((b8 (be2_bd a ha)).app (be2_bd b hb)).app (fun x hx => by simp at hx; omega)).app (be2_bd S hS)).app (fun x hx => by simp at hx; omega)).app hl
theorem echoB_bd {k a : Int} {l : List Int} {S : Int} (hk : 0 ≤ k ∧ k ≤ 255) (ha : 0 ≤ a ∧ a ≤ 65535) (hl : Bytes8 l) (hS : 0 ≤ S ∧ S ≤ 65535) : Bytes8 (echoB k a l S) :=
 (((Bytes8.app (fun x hx => by simp at hx; omega) (be2_bd S hS)).app (be2_bd a ha)).app (fun x hx => by simp at hx; omega)).app hl
theorem few_len (l : List Int) : (fewL l).length ≤ 1400 := by unfold fewL; rw [List.length_take]; omega
theorem few_bd {l : List Int} (h : Bytes8 l) : Bytes8 (fewL l) := h.take _
theorem nev_bd {s : Int} (h : 0 ≤ s ∧ s ≤ 65535) : 0 ≤ nev s ∧ nev s ≤ 65535 ∧ nev s ≠ 0 := by unfold nev; split <;> omega
section
variable {s d a b : Int} {l : List Int} (hs : 0 ≤ s ∧ s ≤ 4294967295) (hd : 0 ≤ d ∧ d ≤ 4294967295) (ha : 0 ≤ a ∧ a ≤ 65535) (hb : 0 ≤ b ∧ b ≤ 65535) (hl : Bytes8 l)
include hs hd ha hb hl
theorem udp_sum : 0 ≤ csum s d 17 (udpB a b (fewL l) 0) ∧ csum s d 17 (udpB a b (fewL l) 0) ≤ 65535 := by
 have hf := few_len l
 exact csum_bd hs hd (by omega) (by rw [udpB_len]; omega) (udpB_bd ha hb (few_bd hl) (by omega) (by omega))
theorem udp_cl (S : Int) (hS : S = nev (csum s d 17 (udpB a b (fewL l) 0))) : Cl (ph s d 17 (udpB a b (fewL l) S).length ++ udpB a b (fewL l) S) := by
 have hf := few_len l
 refine cl_nev _ (ph s d 17 (udpB a b (fewL l) 0).length ++ udpB a b (fewL l) 0) (sb_bd _ (Bytes8.app (ph_bd hs hd (by omega) (by rw [udpB_len]; omega)) (udpB_bd ha hb (few_bd hl) (by omega) (by omega))) true).1 ?_
 rw [sb_app _ _ (by rw [ph_len]), sb_app _ _ (by rw [ph_len]), udpB_len, udpB_len, udpB_sb, hS]
 unfold csum
 rw [udpB_len]
 omega
theorem tcp_cl (f S : Int) (hS : S = csum s d 6 (tcpB a b f (fewL l) 0)) : Cl (ph s d 6 (tcpB a b f (fewL l) S).length ++ tcpB a b f (fewL l) S) := by
 have hf := few_len l
 refine cl_of _ (ph s d 6 (tcpB a b f (fewL l) 0).length ++ tcpB a b f (fewL l) 0) (sb_bd _ (Bytes8.app (ph_bd hs hd (by omega) (by rw [tcpB_len]; omega)) (tcpB_bd ha hb (few_bd hl) (by omega))) true).1 ?_
 rw [sb_app _ _ (by rw [ph_len]), sb_app _ _ (by rw [ph_len]), tcpB_len, tcpB_len, tcpB_sb, hS]
 unfold csum
 rw [tcpB_len]
 omega
end
section
variable {k a c : Int} {l : List Int} (hl : Bytes8 l)
include hl
theorem echo_sum (hk : 0 ≤ k ∧ k ≤ 255) (ha : 0 ≤ a ∧ a ≤ 65535) : 0 ≤ sumOf (echoB k a (fewL l) 0) ∧ sumOf (echoB k a (fewL l) 0) ≤ 65535 := sumOf_bd (echoB_bd hk ha (few_bd hl) (by omega))
theorem echo_cl (hk : 0 ≤ k ∧ k ≤ 255) (ha : 0 ≤ a ∧ a ≤ 65535) : Cl (echoB k a (fewL l) (sumOf (echoB k a (fewL l) 0))) :=
 cl_of _ (echoB k a (fewL l) 0) (sb_bd _ (echoB_bd hk ha (few_bd hl) (by omega)) true).1 (echoB_sb _ _ _ _)
end
theorem seg_put (t p s d : Int) (x : List Int) : seg (putL t p s d x) 20 x.length = x := by
 unfold seg putL
 generalize sumOf (hd20 t p s d (20 + (x.length : Int)) 0) = S
 have hl : (hd20 t p s d (20 + (x.length : Int)) S).length = 20 := rfl
 rw [List.drop_left' hl, List.take_length]
def getX (p : Int) (h : Hd) (x : List Int) : PR := if p = 17 then udpR h x else if p = 6 then tcpR h x else if p = 1 then icmpR h x else (6, Pt.z)
theorem getR_put (t p s d : Int) (x : List Int) (h : Hd) (hh : h = ⟨20, 20 + x.length, t, p, s, d⟩) : getR h (putL t p s d x) = getX p h x := by
 have e1 : h.size = 20 := by rw [hh]
 have e2 : h.len = 20 + x.length := by rw [hh]
 have e3 : h.proto = p := by rw [hh]
 have e4 : (20 + (x.length : Int) - 20).toNat = x.length := by omega
 unfold getR
 rw [if_neg (by rw [e1, e2, put_len]; omega), e1, e2, e3, e4, show (20 : Int).toNat = 20 from rfl, seg_put]
 rfl
theorem udp_got {h : Hd} {a b S : Int} {l : List Int} (ha : 0 ≤ a ∧ a ≤ 65535) (hb : 0 ≤ b ∧ b ≤ 65535) (hS : 0 ≤ S ∧ S ≤ 65535) (hn : l.length ≤ 65527) (hc : S ≠ 0 → csum h.src h.dst 17 (udpB a b l S) = 0) :
  udpR h (udpB a b l S) = (0, { Pt.z with proto := 17, src := a, dst := b, bare := decide (S = 0) }) := by
 have hl := udpB_len a b l S
 have e0 : n2 (udpB a b l S) 0 = a := by rw [n2_eq _ _ (by omega)]; show a / 256 * 256 + a % 256 = a; omega
 have e2 : n2 (udpB a b l S) 2 = b := by rw [n2_eq _ _ (by omega)]; show b / 256 * 256 + b % 256 = b; omega
 have e4 : n2 (udpB a b l S) 4 = 8 + l.length := by rw [n2_eq _ _ (by omega)]; show (8 + (l.length : Int)) / 256 * 256 + (8 + (l.length : Int)) % 256 = _; omega
 have e6 : n2 (udpB a b l S) 6 = S := by rw [n2_eq _ _ (by omega)]; show S / 256 * 256 + S % 256 = S; omega
 unfold udpR
 rw [if_neg (by omega), e4, if_neg (by rw [hl]; omega), e6, if_neg (fun e => e.2 (hc e.1))]
 unfold portsP
 rw [e0, e2]
theorem tcp_got {h : Hd} {a b f S : Int} {l : List Int} (ha : 0 ≤ a ∧ a ≤ 65535) (hb : 0 ≤ b ∧ b ≤ 65535) (hc : csum h.src h.dst 6 (tcpB a b f l S) = 0) :
  tcpR h (tcpB a b f l S) = (0, { Pt.z with proto := 6, src := a, dst := b, flags := f % 256 }) := by
 have hl := tcpB_len a b f l S
 have e0 : n2 (tcpB a b f l S) 0 = a := by rw [n2_eq _ _ (by omega)]; show a / 256 * 256 + a % 256 = a; omega
 have e2 : n2 (tcpB a b f l S) 2 = b := by rw [n2_eq _ _ (by omega)]; show b / 256 * 256 + b % 256 = b; omega
 have e12 : (tcpB a b f l S).getD 12 0 = 80 := rfl
 have e13 : (tcpB a b f l S).getD 13 0 = f % 256 := rfl
 unfold tcpR
 rw [if_neg (by omega), e12, if_neg (by omega), if_neg (fun e => e hc)]
 unfold portsP
 rw [e0, e2, e13]
theorem echo_got {h : Hd} {k a S : Int} {l : List Int} (ha : 0 ≤ a ∧ a ≤ 65535) (hk : k = 0 ∨ k = 8) (hc : sumOf (echoB k a l S) = 0) :
  icmpR h (echoB k a l S) = (0, { Pt.z with proto := 1, kind := k, code := 0, src := a, dst := a }) := by
 have hl := echoB_len k a l S
 have e4 : n2 (echoB k a l S) 4 = a := by rw [n2_eq _ _ (by omega)]; show a / 256 * 256 + a % 256 = a; omega
 have e0 : (echoB k a l S).getD 0 0 = k := rfl
 have e1 : (echoB k a l S).getD 1 0 = 0 := rfl
 unfold icmpR
 rw [if_neg (by omega), if_neg (fun e => e hc), e0, if_pos hk, e1, if_neg (by decide)]
 unfold portsP
 rw [e4]
def wd (v : Int) : Int := v / 65536 + v % 65536
theorem sb_n2 {l : List Int} (hl : Bytes8 l) {i : Nat} (he : i % 2 = 0) (h : i + 2 ≤ l.length) : n2 l i ≤ sb true l := by
 have h1 := sb_put2 l i 0 he h
 have h2 := (sb_bd _ (put2_bd hl i (v := 0) (by omega)) true).1
 omega
theorem fo_full {n q : Int} (h0 : 0 < n) (h : n = 65535 * q) : fo n = 65535 := by unfold fo; rw [if_neg (by omega)]; omega
theorem full_of {n : Int} (h0 : 0 ≤ n) (h : fo n = 65535) : 0 < n ∧ ∃ q, n = 65535 * q := by
 unfold fo at h
 split at h
 ·omega
 ·exact ⟨by omega, n / 65535, by omega⟩
theorem cl_of_zero {l : List Int} (h8 : Bytes8 l) (h : sumOf l = 0) : Cl l := by
 have h0 := (sb_bd l h8 true).1
 obtain ⟨h1, q, h2⟩ := full_of h0 (by unfold sumOf at h; omega)
 exact ⟨q, by omega, h2⟩
theorem cl_mod {l l' : List Int} (h : Cl l) {q : Int} (e : sb true l' = sb true l + 65535 * q) (hp : 0 < sb true l') : Cl l' := by
 obtain ⟨q0, h0, h1⟩ := h
 exact ⟨q0 + q, by omega, by omega⟩
theorem b8_put2 {X : List Int} (h : Bytes8 X) (i : Nat) {v : Int} (hv : 0 ≤ v ∧ v ≤ 65535) : Bytes8 (put2 X i v) := put2_bd h i hv
theorem b8_put4 {X : List Int} (h : Bytes8 X) (i : Nat) {v : Int} (hv : 0 ≤ v ∧ v ≤ 4294967295) : Bytes8 (put4 X i v) := b8_put2 (b8_put2 h _ (by omega)) _ (by omega)
theorem b8_addrL {X : List Int} (h : Bytes8 X) (i : Nat) (src : Bool) {v : Int} (hi : i + 20 ≤ X.length) (hv : 0 ≤ v ∧ v ≤ 4294967295) : Bytes8 (addrL X i src v) := by
 have hp := addrAt_bd i src
 have h1 := b8_put4 h (addrAt i src) hv
 exact b8_put2 h1 _ (fixW_bd (n2_bd h1 (by rw [put4_len]; omega)) (n4_bd h (by omega)) hv)
theorem b8_echoW {X : List Int} (h : Bytes8 X) (i : Nat) {v : Int} (hi : i + 6 ≤ X.length) (hv : 0 ≤ v ∧ v ≤ 65535) : Bytes8 (echoW X i v) := by
 have h1 := b8_put2 h (i + 4) hv
 unfold echoW echoS
 exact b8_put2 h1 _ (nevS_bd (fixOf_bd (n2_bd h1 (by rw [put2_len]; omega)) (n2_bd h (by omega)) hv))
theorem b8_carW {X : List Int} (h : Bytes8 X) (i : Nat) (udp src : Bool) {port o a : Int} (hi : i + 4 ≤ X.length) (hp : 0 ≤ port ∧ port ≤ 65535) (ho : 0 ≤ o ∧ o ≤ 4294967295) (ha : 0 ≤ a ∧ a ≤ 4294967295) : Bytes8 (carW X i udp src port o a) := by
 have hpa : portAt i src + 2 ≤ X.length := by unfold portAt; split <;> omega
 have h1 := b8_put2 h (portAt i src) hp
 unfold carW
 split
 ·exact h1
 ·rename_i hc
  have hs : sumAt i udp + 2 ≤ X.length := by rcases Nat.lt_or_ge X.length (sumAt i udp + 2) with h | h; exact absurd (.inl h) hc; exact h
  have h2 := b8_put2 h1 (sumAt i udp) (fixW_bd (n2_bd h1 (by rw [put2_len]; omega)) ho ha)
  refine b8_put2 h2 _ ?_
  unfold carS
  split
  ·omega
  ·exact fixOf_bd (n2_bd h2 (by rw [put2_len, put2_len]; omega)) (n2_bd h hpa) hp
theorem n2_cong {l l' : List Int} {i : Nat} (h : l'.length = l.length) (hi : i + 2 ≤ l.length) (h0 : l'.getD i 0 = l.getD i 0) (h1 : l'.getD (i + 1) 0 = l.getD (i + 1) 0) : n2 l' i = n2 l i := by
 rw [n2_eq _ _ (by omega), n2_eq _ _ hi, h0, h1]
theorem n4_cong {l l' : List Int} {i : Nat} (h : l'.length = l.length) (hi : i + 4 ≤ l.length) (hg : ∀ k, i ≤ k → k < i + 4 → l'.getD k 0 = l.getD k 0) : n4 l' i = n4 l i := by
 rw [n4_eq _ _ (by omega), n4_eq _ _ hi, hg i (by omega) (by omega), hg (i + 1) (by omega) (by omega), hg (i + 2) (by omega) (by omega), hg (i + 3) (by omega) (by omega)]
/-! ### heads -/
def chH (h : Hd) (src : Bool) (a : Int) : Hd := { h with src := if src then a else h.src, dst := if src then h.dst else a }
def HdOk (A : List Int) (m : Nat) : Prop :=
 Bytes8 A ∧ 20 ≤ A.length ∧ (A.length : Int) = A.getD 0 0 % 16 * 4 ∧ A.getD 0 0 / 16 = 4 ∧ n2 A 2 = A.length + m ∧ A.length + m ≤ 1500 ∧ sumOf A = 0 ∧ n2 A 6 % 16384 = 0
theorem getE_zero {X : List Int} (h : getE X = 0) : 20 ≤ X.length ∧ X.getD 0 0 / 16 = 4 ∧ 20 ≤ X.getD 0 0 % 16 * 4 ∧ X.getD 0 0 % 16 * 4 ≤ X.length ∧ X.getD 0 0 % 16 * 4 ≤ n2 X 2 ∧ n2 X 2 ≤ 1500 ∧ n2 X 2 ≤ X.length ∧ sumOf (X.take (X.getD 0 0 % 16 * 4).toNat) = 0 ∧ n2 X 6 % 16384 = 0 := by
 unfold getE at h
 split at h
 ·rename_i h1; exact absurd h h1
 rename_i h1
 split at h
 ·cases h
 split at h
 ·cases h
 rename_i h2 h3
 unfold wholeE at h
 split at h
 ·cases h
 rename_i h4
 have := shape_cases X 1500
 omega
theorem getE_mk {X : List Int} (h0 : 20 ≤ X.length) (h1 : X.getD 0 0 / 16 = 4) (h2 : 20 ≤ X.getD 0 0 % 16 * 4) (h3 : X.getD 0 0 % 16 * 4 ≤ X.length) (h4 : X.getD 0 0 % 16 * 4 ≤ n2 X 2) (h5 : n2 X 2 ≤ 1500) (h6 : n2 X 2 ≤ X.length)
  (h7 : sumOf (X.take (X.getD 0 0 % 16 * 4).toNat) = 0) (h8 : n2 X 6 % 16384 = 0) : getE X = 0 := by
 have hs : shapeE X 1500 = 0 := by
  unfold shapeE
  rw [if_neg (by omega), if_neg (by omega), if_neg (by omega), if_neg (by omega)]
 unfold getE wholeE
 rw [if_neg (by omega), if_neg (by omega), if_neg (by omega), if_neg (by omega)]
theorem HdOk.got {A B : List Int} {m : Nat} (h : HdOk A m) (hB : B.length = m) : getE (A ++ B) = 0 ∧ hdOf (A ++ B) = ⟨A.length, A.length + m, A.getD 8 0, A.getD 9 0, n4 A 12, n4 A 16⟩ := by
 obtain ⟨h8, h20, hs, h4, h2, h15, hsum, h6⟩ := h
 have e0 : (A ++ B).getD 0 0 = A.getD 0 0 := getD_left (by omega)
 have e2 : n2 (A ++ B) 2 = n2 A 2 := n2_left (by omega)
 have e6 : n2 (A ++ B) 6 = n2 A 6 := n2_left (by omega)
 have hl : (A ++ B).length = A.length + m := by rw [List.length_append, hB]
 refine ⟨getE_mk (by omega) (by rw [e0]; exact h4) (by rw [e0]; omega) (by rw [e0]; omega) (by rw [e0, e2]; omega) (by rw [e2]; omega) (by rw [e2]; omega) ?_ (by rw [e6]; exact h6), ?_⟩
 ·rw [e0, ← hs, Int.toNat_natCast, List.take_left]; exact hsum
 ·unfold hdOf
  rw [e0, e2, getD_left (by omega), getD_left (by omega), n4_left (by omega), n4_left (by omega), ← hs, h2]
theorem n2_take {X : List Int} {i s : Nat} (h : i + 2 ≤ s) (hs : s ≤ X.length) : n2 (X.take s) i = n2 X i := by
 have := n2_left (A := X.take s) (B := X.drop s) (i := i) (by rw [List.length_take]; omega)
 rw [List.take_append_drop] at this
 exact this.symm
theorem getD_take_ {X : List Int} {i s : Nat} (h : i < s) (hs : s ≤ X.length) : (X.take s).getD i 0 = X.getD i 0 := by
 have := getD_left (A := X.take s) (B := X.drop s) (i := i) (by rw [List.length_take]; omega)
 rw [List.take_append_drop] at this
 exact this.symm
theorem HdOk.of {X : List Int} (h8 : Bytes8 X) (h : getE X = 0) : ∃ A B : List Int, HdOk A B.length ∧ Bytes8 B ∧ X.take (hdOf X).len.toNat = A ++ B ∧ (hdOf X).size = A.length ∧ (hdOf X).len = A.length + B.length ∧ hdOf X = hdOf (A ++ B) ∧ seg X (hdOf X).size.toNat ((hdOf X).len - (hdOf X).size).toNat = B ∧ A.length + B.length ≤ X.length := by
 obtain ⟨h0, h1, h2, h3, h4, h5, h6, h7, hp⟩ := getE_zero h
 have e1 : (hdOf X).size = X.getD 0 0 % 16 * 4 := rfl
 have e2 : (hdOf X).len = n2 X 2 := rfl
 obtain ⟨s, hs⟩ : ∃ s : Nat, X.getD 0 0 % 16 * 4 = (s : Int) := ⟨(X.getD 0 0 % 16 * 4).toNat, by omega⟩
 obtain ⟨n, hn⟩ : ∃ n : Nat, n2 X 2 = (n : Int) := ⟨(n2 X 2).toNat, by omega⟩
 have lA : (X.take s).length = s := by rw [List.length_take]; omega
 have lB : (seg X s (n - s)).length = n - s := seg_length _ _ _ (by omega)
 have hAB : X.take n = X.take s ++ seg X s (n - s) := by
  have := List.take_add (l := X) (i := s) (j := n - s)
  rw [show s + (n - s) = n by omega] at this
  exact this
 have hok : HdOk (X.take s) (seg X s (n - s)).length := by
  refine ⟨h8.take _, by omega, ?_, ?_, ?_, by omega, ?_, ?_⟩
  ·rw [lA, getD_take_ (by omega) (by omega)]; omega
  ·rw [getD_take_ (by omega) (by omega)]; exact h1
  ·rw [n2_take (by omega) (by omega), lA, lB]; omega
  ·rw [hs, Int.toNat_natCast] at h7; exact h7
  ·rw [n2_take (by omega) (by omega)]; exact hp
 refine ⟨X.take s, seg X s (n - s), hok, fun x hx => h8 x (seg_mem hx), ?_, by rw [e1, lA, hs], by rw [e2, lA, lB]; omega, ?_, ?_, by omega⟩
 ·rw [e2, hn, Int.toNat_natCast]; exact hAB
 ·have hg := (hok.got rfl).2
  rw [hg]
  have g4 : ∀ i, i + 4 ≤ s → n4 (X.take s) i = n4 X i := fun i hi => by
   have := n4_left (A := X.take s) (B := X.drop s) (i := i) (by omega)
   rw [List.take_append_drop] at this
   exact this.symm
  unfold hdOf
  rw [getD_take_ (by omega) (by omega), getD_take_ (by omega) (by omega), g4 _ (by omega), g4 _ (by omega), lA, lB, hs, hn]
  congr 1; omega
 ·rw [e1, e2, hs, hn, Int.toNat_natCast, show ((n : Int) - (s : Int)).toNat = n - s by omega]
theorem HdOk.addr {A : List Int} {m : Nat} (h : HdOk A m) (src : Bool) {v : Int} (hv : 0 ≤ v ∧ v ≤ 4294967295) : HdOk (addrL A 0 src v) m := by
 obtain ⟨h8, h20, hs, h4, h2, h15, hsum, h6⟩ := h
 have hp := addrAt_bd 0 src
 have hl : (addrL A 0 src v).length = A.length := addrL_len _ _ _ _
 have hf : ∀ k, k < 10 → (addrL A 0 src v).getD k 0 = A.getD k 0 := fun k hk => addrL_far (by omega) (by omega) (by omega)
 have h8' := b8_addrL h8 0 src (v := v) (by omega) hv
 refine ⟨h8', by omega, by rw [hl, hf 0 (by omega)]; exact hs, by rw [hf 0 (by omega)]; exact h4, by rw [n2_cong hl (by omega) (hf _ (by omega)) (hf _ (by omega)), hl]; exact h2, by omega, ?_, by rw [n2_cong hl (by omega) (hf _ (by omega)) (hf _ (by omega))]; exact h6⟩
 obtain ⟨q, hq⟩ := sb_addr A 0 src v rfl (by omega) h8 hv
 refine Cl.zero (cl_mod (cl_of_zero h8 hsum) hq ?_)
 have := sb_n2 h8' (i := 0) rfl (by omega)
 have e := n2_cong hl (i := 0) (by omega) (hf 0 (by omega)) (hf 1 (by omega))
 rw [e, n2_eq _ _ (by omega)] at this
 have b1 := n2_bd h8 (i := 0) (by omega)
 rw [n2_eq _ _ (by omega)] at b1
 have b2 : 0 ≤ A.getD (0 + 1) 0 := by
  have : A.getD 1 0 = A[1]'(by omega) := by rw [List.getD_eq_getElem?_getD, List.getElem?_eq_getElem (by omega)]; rfl
  rw [this]; exact (h8 _ (List.getElem_mem _)).1
 omega
theorem addr_12 {A : List Int} {src : Bool} {v : Int} (h : 20 ≤ A.length) (hv : 0 ≤ v ∧ v ≤ 4294967295) : n4 (addrL A 0 src v) 12 = (if src then v else n4 A 12) ∧ n4 (addrL A 0 src v) 16 = (if src then n4 A 16 else v) := by
 have hl : (addrL A 0 src v).length = A.length := addrL_len _ _ _ _
 have h1 := addrL_n4 (l := A) (i := 0) (src := src) (by omega) hv
 have h2 : ∀ k, (k < addrAt 0 src ∨ addrAt 0 src + 4 ≤ k) → 12 ≤ k → (addrL A 0 src v).getD k 0 = A.getD k 0 := fun k hk hk2 => addrL_far hk (by omega) (by omega)
 cases src
 ·exact ⟨n4_cong hl (by omega) (fun k a b => h2 k (by unfold addrAt; simp; omega) (by omega)), h1⟩
 ·exact ⟨h1, n4_cong hl (by omega) (fun k a b => h2 k (by unfold addrAt; simp; omega) (by omega))⟩
theorem HdOk.again {A B B' : List Int} (h : HdOk A B.length) (src : Bool) {v : Int} (hv : 0 ≤ v ∧ v ≤ 4294967295) (hB : B'.length = B.length) : getE (addrL A 0 src v ++ B') = 0 ∧ hdOf (addrL A 0 src v ++ B') = chH (hdOf (A ++ B)) src v := by
 have h1 := (h.addr src hv).got (B := B') hB
 have h20 := h.2.1
 have hl : (addrL A 0 src v).length = A.length := addrL_len _ _ _ _
 have hp := addrAt_bd 0 src
 refine ⟨h1.1, ?_⟩
 rw [h1.2, (h.got rfl).2, hl, addrL_far (by omega) (by omega) (by omega), addrL_far (by omega) (by omega) (by omega), (addr_12 (src := src) h20 hv).1, (addr_12 (src := src) h20 hv).2]
 rfl
theorem sb_ph {s d p : Int} {n : Nat} (hs : 0 ≤ s) (hd : 0 ≤ d) : sb true (ph s d p n) = wd s + wd d + p + n := by
 simp [ph, be4, be2, sb, wd]; omega
def chPorts (p : Pt) (echo src : Bool) (port : Int) : Pt := { p with src := if echo || src then port else p.src, dst := if echo || !src then port else p.dst }
section
variable {B : List Int} {src : Bool} {port o a : Int}
theorem carW_n2 {udp : Bool} {j : Nat} (hj : j + 2 ≤ sumAt 0 udp) (hl : j + 2 ≤ B.length) : n2 (carW B 0 udp src port o a) j = n2 (put2 B (portAt 0 src) port) j := by
 unfold carW
 split
 ·rfl
 ·rw [n2_put2_ne (by omega) (by rw [put2_len, put2_len]; omega), n2_put2_ne (by omega) (by rw [put2_len]; omega)]
theorem carW_ports {udp : Bool} (h : 8 ≤ B.length) (hp : 0 ≤ port ∧ port ≤ 65535) :
  n2 (carW B 0 udp src port o a) 0 = (if src then port else n2 B 0) ∧ n2 (carW B 0 udp src port o a) 2 = (if src then n2 B 2 else port) := by
 have hs : 6 ≤ sumAt 0 udp := by unfold sumAt; cases udp <;> simp
 rw [carW_n2 (by omega) (by omega), carW_n2 (by omega) (by omega)]
 cases src
 ·exact ⟨n2_put2_ne (by simp [portAt]) (by omega), n2_put2 (i := 2) (by omega) hp⟩
 ·exact ⟨n2_put2 (i := 0) (by omega) hp, n2_put2_ne (by simp [portAt]) (by omega)⟩
theorem carS_bd {Y : List Int} {q : Nat} {udp : Bool} {was : Int} (h8 : Bytes8 Y) (hq : q + 2 ≤ Y.length) (hw : 0 ≤ was ∧ was ≤ 65535) (hp : 0 ≤ port ∧ port ≤ 65535) (ho : 0 ≤ o ∧ o ≤ 4294967295) (ha : 0 ≤ a ∧ a ≤ 4294967295) :
  (0 ≤ carS Y q udp was port o a ∧ carS Y q udp was port o a ≤ 65535) ∧ (udp = true → carS Y q udp was port o a ≠ 0) := by
 have h1 := fixW_bd (n2_bd h8 (i := q) hq) ho ha
 have h2 := b8_put2 h8 q h1
 have h3 := fixOf_bd (n2_bd h2 (i := q) (by rw [put2_len]; omega)) hw hp
 unfold carS
 split
 ·exact ⟨by omega, fun _ => by omega⟩
 ·rename_i hc
  exact ⟨h3, fun hu e => hc ⟨hu, e⟩⟩
theorem csum_iff {s d p : Int} {l : List Int} (hs : 0 ≤ s) (hd : 0 ≤ d) (hp : 0 < p) (h8 : Bytes8 l) : csum s d p l = 0 ↔ ∃ q, wd s + wd d + p + l.length + sb true l = 65535 * q := by
 have h0 := (sb_bd l h8 true).1
 have hw : 0 ≤ wd s ∧ 0 ≤ wd d := by unfold wd; omega
 rw [csum_eq, sb_ph hs hd]
 constructor
 ·intro h
  obtain ⟨_, q, hq⟩ := full_of (n := wd s + wd d + p + l.length + sb true l) (by omega) (by omega)
  exact ⟨q, hq⟩
 ·rintro ⟨q, hq⟩
  have := fo_full (n := wd s + wd d + p + l.length + sb true l) (by omega) hq
  omega
theorem csum_again {h h' : Hd} {p : Int} {udp : Bool} (h8 : Bytes8 B) (hl : sumAt 0 udp + 2 ≤ B.length) (hp : 0 < p) (hport : 0 ≤ port ∧ port ≤ 65535) (ho : 0 ≤ o ∧ o ≤ 4294967295) (ha : 0 ≤ a ∧ a ≤ 4294967295)
  (hs : 0 ≤ h.src) (hd : 0 ≤ h.dst) (hs' : 0 ≤ h'.src) (hd' : 0 ≤ h'.dst) (hw : wd h'.src + wd h'.dst = wd h.src + wd h.dst - wd o + wd a) (hz : ¬ (udp = true ∧ n2 B (sumAt 0 udp) = 0)) (hc : csum h.src h.dst p B = 0) :
  csum h'.src h'.dst p (carW B 0 udp src port o a) = 0 := by
 have h4 : 4 ≤ B.length := by
  have : 6 ≤ sumAt 0 udp := by unfold sumAt; cases udp <;> simp
  omega
 obtain ⟨q, hq⟩ := (csum_iff hs hd hp h8).1 hc
 obtain ⟨k, hk⟩ := sb_car B 0 udp src port o a rfl hl h8 hport ho ha hz
 refine (csum_iff hs' hd' hp (b8_carW h8 0 udp src (by omega) hport ho ha)).2 ⟨q + k, ?_⟩
 rw [carW_len, hk]
 unfold wd at hw hq ⊢
 omega
theorem udp_again {h h' : Hd} {p : Pt} (h8 : Bytes8 B) (hport : 0 ≤ port ∧ port ≤ 65535) (ho : 0 ≤ o ∧ o ≤ 4294967295) (ha : 0 ≤ a ∧ a ≤ 4294967295)
  (hs : 0 ≤ h.src) (hd : 0 ≤ h.dst) (hs' : 0 ≤ h'.src) (hd' : 0 ≤ h'.dst) (hw : wd h'.src + wd h'.dst = wd h.src + wd h.dst - wd o + wd a) (hok : udpR h B = (0, p)) :
  udpR h' (carW B 0 true src port o a) = (0, chPorts p false src port) ∧ p.err = false ∧ p.proto = 17 ∧ 8 ≤ B.length ∧ p.bare = decide (n2 B 6 = 0) ∧ p.src = n2 B 0 ∧ p.dst = n2 B 2 := by
 unfold udpR at hok
 split at hok
 ·cases hok
 rename_i h1
 split at hok
 ·cases hok
 rename_i h2
 split at hok
 ·cases hok
 rename_i h3
 simp only [Prod.mk.injEq, true_and] at hok
 subst hok
 have hl := carW_len B 0 true src port o a
 have e4 : n2 (carW B 0 true src port o a) 4 = n2 B 4 := by
  rw [carW_n2 (by simp [sumAt]) (by omega), n2_put2_ne (by unfold portAt; cases src <;> simp) (by omega)]
 have e6 : n2 (carW B 0 true src port o a) 6 = 0 ↔ n2 B 6 = 0 := by
  have hpb : portAt 0 src + 2 ≤ 4 := by unfold portAt; cases src <;> simp
  have e0 : n2 (put2 B (portAt 0 src) port) 6 = n2 B 6 := n2_put2_ne (by omega) (by omega)
  have hY := b8_put2 h8 (portAt 0 src) hport
  unfold carW
  split
  ·rw [e0]
  ·rename_i hc
   have hb := carS_bd (Y := put2 B (portAt 0 src) port) (q := 6) (udp := true) (was := n2 B (portAt 0 src)) hY (by rw [put2_len]; omega) (n2_bd h8 (by omega)) hport ho ha
   have : n2 (put2 (put2 (put2 B (portAt 0 src) port) (sumAt 0 true) (fixW (n2 (put2 B (portAt 0 src) port) (sumAt 0 true)) o a)) (sumAt 0 true) (carS (put2 B (portAt 0 src) port) (sumAt 0 true) true (n2 B (portAt 0 src)) port o a)) 6 = _ := n2_put2 (i := 6) (by rw [put2_len, put2_len]; omega) hb.1
   rw [this]
   constructor
   ·intro h; exact absurd h (hb.2 rfl)
   ·intro h; exact absurd (.inr ⟨rfl, by rw [← h, ← e0]; rfl⟩) hc
 have hcs : n2 B 6 ≠ 0 → csum h'.src h'.dst 17 (carW B 0 true src port o a) = 0 := fun hz =>
  csum_again (p := 17) h8 (by simp [sumAt]; omega) (by omega) hport ho ha hs hd hs' hd' hw (by rintro ⟨_, h⟩; exact hz h) (by
   rcases Decidable.em (csum h.src h.dst 17 B = 0) with h | h
   ·exact h
   ·exact absurd ⟨hz, h⟩ h3)
 obtain ⟨p0, p2⟩ := carW_ports (B := B) (src := src) (o := o) (a := a) (udp := true) (port := port) (by omega) hport
 refine ⟨?_, rfl, rfl, by omega, rfl, rfl, rfl⟩
 unfold udpR
 rw [if_neg (by omega), if_neg (by rw [e4, hl]; omega), if_neg (by rintro ⟨x, y⟩; exact y (hcs (fun e => x (e6.2 e))))]
 simp only [portsP, chPorts, p0, p2, Prod.mk.injEq, true_and, Bool.false_or, Pt.mk.injEq]
 cases src <;> simp [e6]
theorem tcp_again {h h' : Hd} {p : Pt} (h8 : Bytes8 B) (hport : 0 ≤ port ∧ port ≤ 65535) (ho : 0 ≤ o ∧ o ≤ 4294967295) (ha : 0 ≤ a ∧ a ≤ 4294967295)
  (hs : 0 ≤ h.src) (hd : 0 ≤ h.dst) (hs' : 0 ≤ h'.src) (hd' : 0 ≤ h'.dst) (hw : wd h'.src + wd h'.dst = wd h.src + wd h.dst - wd o + wd a) (hok : tcpR h B = (0, p)) :
  tcpR h' (carW B 0 false src port o a) = (0, chPorts p false src port) ∧ p.err = false ∧ p.proto = 6 ∧ 20 ≤ B.length ∧ p.src = n2 B 0 ∧ p.dst = n2 B 2 := by
 unfold tcpR at hok
 split at hok
 ·cases hok
 rename_i h1
 split at hok
 ·cases hok
 rename_i h2
 split at hok
 ·cases hok
 rename_i h3
 simp only [Prod.mk.injEq, true_and] at hok
 subst hok
 have hl := carW_len B 0 false src port o a
 have hpb : portAt 0 src + 2 ≤ 4 := by unfold portAt; cases src <;> simp
 have hfar : ∀ j, 4 ≤ j → j < 16 → (carW B 0 false src port o a).getD j 0 = B.getD j 0 := fun j a b => carW_far (by omega) (by omega) (by simp [sumAt]; omega) (by simp [sumAt]; omega)
 have hcs := csum_again (p := 6) (udp := false) (src := src) h8 (by simp [sumAt]; omega) (by omega) hport ho ha hs hd hs' hd' hw (by simp) (by
   rcases Decidable.em (csum h.src h.dst 6 B = 0) with h | h
   ·exact h
   ·exact absurd h h3)
 obtain ⟨p0, p2⟩ := carW_ports (B := B) (src := src) (o := o) (a := a) (udp := false) (port := port) (by omega) hport
 refine ⟨?_, rfl, rfl, by omega, rfl, rfl⟩
 unfold tcpR
 rw [if_neg (by omega), if_neg (by rw [hfar 12 (by omega) (by omega), hl]; omega), if_neg (by rw [hcs]; simp), hfar 13 (by omega) (by omega)]
 simp only [portsP, chPorts, p0, p2, Prod.mk.injEq, true_and, Bool.false_or, Pt.mk.injEq]
 cases src <;> simp
end
section
variable {B : List Int} {src : Bool} {port o a : Int}
theorem b0 {l : List Int} (h : Bytes8 l) {k : Nat} (hk : k < l.length) : 0 ≤ l.getD k 0 ∧ l.getD k 0 ≤ 255 := by
 rw [List.getD_eq_getElem?_getD, List.getElem?_eq_getElem hk]
 exact h _ (List.getElem_mem _)
theorem echo_n2 (h : 6 ≤ B.length) (hp : 0 ≤ port ∧ port ≤ 65535) : n2 (echoW B 0 port) 4 = port := by
 unfold echoW echoS
 rw [n2_put2_ne (by omega) (by rw [put2_len]; omega)]
 exact n2_put2 (i := 4) (by omega) hp
theorem echoW_cl (h8 : Bytes8 B) (hl : 6 ≤ B.length) (hp : 0 ≤ port ∧ port ≤ 65535) (hc : sumOf B = 0) : sumOf (echoW B 0 port) = 0 := by
 obtain ⟨q, hq⟩ := sb_echo B 0 port rfl (by omega) h8 hp
 have e8 := b8_echoW h8 0 (v := port) (by omega) hp
 have hl' : (echoW B 0 port).length = B.length := by unfold echoW; rw [put2_len, put2_len]
 refine Cl.zero (cl_mod (cl_of_zero h8 hc) hq ?_)
 have h2 := sb_n2 e8 (i := 2) rfl (by omega)
 have h3 : n2 (echoW B 0 port) 2 ≠ 0 := by
  have h1 := b8_put2 h8 (0 + 4) hp
  have hb := nevS_bd (fixOf_bd (n2_bd h1 (i := 0 + 2) (by rw [put2_len]; omega)) (n2_bd h8 (i := 0 + 4) (by omega)) hp)
  unfold echoW echoS
  rw [n2_put2 (i := 0 + 2) (by rw [put2_len]; omega) hb]
  unfold nevS
  split <;> omega
 have h4 := n2_bd e8 (i := 2) (by omega)
 omega
theorem icmp_len {h : Hd} {p : Pt} (hok : icmpR h B = (0, p)) : 8 ≤ B.length ∧ sumOf B = 0 := by
 unfold icmpR at hok
 split at hok
 ·cases hok
 rename_i h1
 split at hok
 ·cases hok
 rename_i h2
 exact ⟨by omega, by
  rcases Decidable.em (sumOf B = 0) with h | h
  ·exact h
  ·exact absurd h h2⟩
theorem fault_err {p q : Pt} {at_ : Int} {b : List Int} (h : faultR p at_ b = (0, q)) : q.err = true := by
 unfold faultR at h
 split at h
 ·rename_i h1
  simp only [Prod.mk.injEq] at h
  exact absurd h.1 h1
 split at h
 ·cases h
 split at h
 ·simp only [Prod.mk.injEq, true_and] at h; rw [← h]; rfl
 split at h
 ·simp only [Prod.mk.injEq, true_and] at h; rw [← h]; rfl
 ·cases h
theorem echo_again {h h' : Hd} {p : Pt} (h8 : Bytes8 B) (hport : 0 ≤ port ∧ port ≤ 65535) (hok : icmpR h B = (0, p)) (he : p.err = false) :
  icmpR h' (echoW B 0 port) = (0, chPorts p true src port) ∧ p.proto = 1 ∧ p.src = n2 B 4 := by
 obtain ⟨h1, h2⟩ := icmp_len hok
 have hl' : (echoW B 0 port).length = B.length := by unfold echoW; rw [put2_len, put2_len]
 have f0 : (echoW B 0 port).getD 0 0 = B.getD 0 0 := echoW_far (by omega)
 have f1 : (echoW B 0 port).getD 1 0 = B.getD 1 0 := echoW_far (by omega)
 have hz := echoW_cl h8 (by omega) hport h2
 have h4 := echo_n2 (B := B) (by omega) hport
 unfold icmpR at hok ⊢
 rw [if_neg (by omega), if_neg (by simp [h2])] at hok
 rw [hl', if_neg (by omega), if_neg (by simp [hz]), f0, f1]
 split at hok
 ·rename_i hk
  rw [if_pos hk]
  split at hok
  ·cases hok
  ·rename_i hc
   rw [if_neg hc]
   simp only [Prod.mk.injEq, true_and] at hok
   subst hok
   refine ⟨?_, rfl, rfl⟩
   simp only [portsP, chPorts, h4, Bool.true_or, if_true]
 ·split at hok
  ·have := fault_err hok
   rw [he] at this; cases this
  ·cases hok
theorem partE_cong {l l' : List Int} (hl : l'.length = l.length) (h0 : l'.getD 0 0 = l.getD 0 0) (h2 : n2 l' 2 = n2 l 2) (h6 : n2 l' 6 = n2 l 6) : partE l' = partE l := by
 unfold partE shapeE wholeE
 rw [hl, h0, h2, h6]
theorem err_of {h : Hd} {p : Pt} (h8 : Bytes8 B) (hok : icmpR h B = (0, p)) (he : p.err = true) :
  ∃ E I J : List Int, B = E ++ (I ++ J) ∧ E.length = 8 ∧ 20 ≤ I.length ∧ I.length ≤ 60 ∧ 8 ≤ J.length ∧ Bytes8 E ∧ Bytes8 I ∧ Bytes8 J ∧ sumOf B = 0 ∧ p.inner.size = I.length ∧ p.pat = h.size + 8 ∧ p.proto = 1 ∧
   (B.getD 0 0 = 3 ∨ B.getD 0 0 = 11 ∨ B.getD 0 0 = 12) ∧ partE (I ++ J) = 0 ∧ p.inner = hdOf (I ++ J) ∧ (hdOf (I ++ J)).size + 8 ≤ (hdOf (I ++ J)).len ∧
   ((p.inner.proto = 17 ∨ p.inner.proto = 6) ∧ p.src = n2 J 0 ∧ p.dst = n2 J 2 ∨ p.inner.proto = 1 ∧ (J.getD 0 0 = 0 ∨ J.getD 0 0 = 8) ∧ p.src = n2 J 4 ∧ p.dst = n2 J 4) ∧
   p.flags = 0 ∧ p.kind = B.getD 0 0 ∧ p.code = B.getD 1 0 ∧ p.bare = false := by
 obtain ⟨h1, h2⟩ := icmp_len hok
 unfold icmpR at hok
 rw [if_neg (by omega), if_neg (by simp [h2])] at hok
 split at hok
 ·split at hok
  ·cases hok
  ·simp only [Prod.mk.injEq, true_and] at hok
   subst hok
   cases he
 split at hok
 rotate_left
 ·cases hok
 rename_i _ hk
 have hk' : B.getD 0 0 = 3 ∨ B.getD 0 0 = 11 ∨ B.getD 0 0 = 12 := hk
 unfold faultR at hok
 split at hok
 ·rename_i hp
  simp only [Prod.mk.injEq] at hok
  exact absurd hok.1 hp
 rename_i hp
 have hp0 : partE (B.drop 8) = 0 := by
  rcases Decidable.em (partE (B.drop 8) = 0) with h | h
  ·exact h
  ·exact absurd h hp
 split at hok
 ·cases hok
 rename_i hlen
 have hsh : shapeE (B.drop 8) 65535 = 0 := by
  unfold partE at hp0
  split at hp0
  ·rename_i hx; exact absurd hp0 hx
  ·rename_i hx
   rcases Decidable.em (shapeE (B.drop 8) 65535 = 0) with h | h
   ·exact h
   ·exact absurd h hx
 have hc := shape_cases (B.drop 8) 65535
 have e1 : (hdOf (B.drop 8)).size = (B.drop 8).getD 0 0 % 16 * 4 := rfl
 obtain ⟨s, hs⟩ : ∃ s : Nat, (hdOf (B.drop 8)).size = (s : Int) := ⟨(hdOf (B.drop 8)).size.toNat, by omega⟩
 have hs2 : 20 ≤ s ∧ s ≤ 60 := by omega
 have hb8 : ((B.drop 8).length : Int) - s ≥ 8 := by omega
 have lI : ((B.drop 8).take s).length = s := by rw [List.length_take]; omega
 have e0 : B.take 8 ++ ((B.drop 8).take s ++ (B.drop 8).drop s) = B := by rw [List.take_append_drop, List.take_append_drop]
 have e2 : (B.drop 8).take s ++ (B.drop 8).drop s = B.drop 8 := List.take_append_drop _ _
 have hd8 : Bytes8 (B.drop 8) := fun x hx => h8 x (List.mem_of_mem_drop hx)
 have hst : (hdOf (B.drop 8)).size.toNat = s := by omega
 rw [hst] at hok
 refine ⟨B.take 8, (B.drop 8).take s, (B.drop 8).drop s, e0.symm, by rw [List.length_take]; omega, by omega, by omega, by rw [List.length_drop]; omega, h8.take _, hd8.take _, fun x hx => hd8 x (List.mem_of_mem_drop hx), h2, ?_⟩
 rw [e2, lI]
 split at hok
 ·rename_i hpr
  simp only [Prod.mk.injEq, true_and] at hok
  subst hok
  exact ⟨hs, rfl, rfl, hk', hp0, rfl, by omega, .inl ⟨hpr, rfl, rfl⟩, rfl, rfl, rfl, rfl⟩
 ·split at hok
  ·rename_i hpr
   simp only [Prod.mk.injEq, true_and] at hok
   subst hok
   exact ⟨hs, rfl, rfl, hk', hp0, rfl, by omega, .inr ⟨hpr.1, hpr.2, rfl, rfl⟩, rfl, rfl, rfl, rfl⟩
  ·cases hok
end
theorem cl_put0 {C : List Int} (h8 : Bytes8 C) (hl : 4 ≤ C.length) : sumOf (put2 (put2 C 2 0) 2 (sumOf (put2 C 2 0))) = 0 := by
 have h1 := b8_put2 h8 2 (v := 0) (by omega)
 have h2 := sumOf_bd h1
 refine Cl.zero (cl_of _ (put2 C 2 0) (sb_bd _ h1 true).1 ?_)
 rw [sb_put2 _ _ _ rfl (by rw [put2_len]; omega), n2_put2 (by omega) (by omega)]
 omega
section
variable {E I J : List Int} {proto port addr : Int} {src : Bool}
theorem b8_carChg {old : Int} (h : Bytes8 J) (hl : 8 ≤ J.length) (hp : 0 ≤ port ∧ port ≤ 65535) (ho : 0 ≤ old ∧ old ≤ 4294967295) (ha : 0 ≤ addr ∧ addr ≤ 4294967295) : Bytes8 (carChg J proto src port old addr) := by
 unfold carChg
 split
 ·exact b8_echoW h 0 (by omega) hp
 ·exact b8_carW h 0 _ src (by omega) hp ho ha
theorem b8_errMid (hE : Bytes8 E) (hI : Bytes8 I) (hJ : Bytes8 J) (hI2 : 20 ≤ I.length) (hJ2 : 8 ≤ J.length) (hp : 0 ≤ port ∧ port ≤ 65535) (ha : 0 ≤ addr ∧ addr ≤ 4294967295) : Bytes8 (errMid E I J proto src port addr) := by
 have hb := addrAt_bd 0 src
 exact hE.app ((b8_addrL hI 0 src (by omega) ha).app (b8_carChg hJ hJ2 hp (n4_bd hI (by omega)) ha))
theorem b8_errChg (hE : Bytes8 E) (hI : Bytes8 I) (hJ : Bytes8 J) (hI2 : 20 ≤ I.length) (hJ2 : 8 ≤ J.length) (hp : 0 ≤ port ∧ port ≤ 65535) (ha : 0 ≤ addr ∧ addr ≤ 4294967295) : Bytes8 (errChg E I J proto src port addr) := by
 have h := b8_errMid (proto := proto) (src := src) hE hI hJ hI2 hJ2 hp ha
 have h1 := b8_put2 h 2 (v := 0) (by omega)
 exact b8_put2 h1 2 (sumOf_bd h1)
theorem errChg_split (hE : E.length = 8) : errChg E I J proto src port addr = put2 (put2 E 2 0) 2 (sumOf (put2 (errMid E I J proto src port addr) 2 0)) ++ (addrL I 0 src addr ++ carChg J proto src port (n4 I (addrAt 0 src)) addr) := by
 unfold errChg
 conv => lhs; arg 1; unfold errMid
 rw [put2_left (by omega), put2_left (by rw [put2_len]; omega)]
theorem carChg_ports {old : Int} (hJ : 8 ≤ J.length) (hp : 0 ≤ port ∧ port ≤ 65535) : (proto ≠ 1 → n2 (carChg J proto src port old addr) 0 = (if src then port else n2 J 0) ∧ n2 (carChg J proto src port old addr) 2 = (if src then n2 J 2 else port)) ∧
  (proto = 1 → n2 (carChg J proto src port old addr) 4 = port ∧ (carChg J proto src port old addr).getD 0 0 = J.getD 0 0) := by
 constructor
 ·intro h
  unfold carChg
  rw [if_neg h]
  exact carW_ports (by omega) hp
 ·intro h
  unfold carChg
  rw [if_pos h]
  exact ⟨echo_n2 (by omega) hp, echoW_far (by omega)⟩
theorem err_again {h h' : Hd} {p : Pt} (h8 : Bytes8 (E ++ (I ++ J))) (hE : E.length = 8) (hI : 20 ≤ I.length) (hJ : 8 ≤ J.length) (hport : 0 ≤ port ∧ port ≤ 65535) (ha : 0 ≤ addr ∧ addr ≤ 4294967295) (hsz : h'.size = h.size)
  (hp0 : partE (I ++ J) = 0) (hin : p.inner = hdOf (I ++ J)) (his : p.inner.size = I.length) (hlen : (hdOf (I ++ J)).size + 8 ≤ (hdOf (I ++ J)).len) (hk : (E ++ (I ++ J)).getD 0 0 = 3 ∨ (E ++ (I ++ J)).getD 0 0 = 11 ∨ (E ++ (I ++ J)).getD 0 0 = 12)
  (hpp : (p.inner.proto = 17 ∨ p.inner.proto = 6) ∧ p.src = n2 J 0 ∧ p.dst = n2 J 2 ∨ p.inner.proto = 1 ∧ (J.getD 0 0 = 0 ∨ J.getD 0 0 = 8) ∧ p.src = n2 J 4 ∧ p.dst = n2 J 4)
  (hpat : p.pat = h.size + 8) (h1 : p.proto = 1) (h2 : p.flags = 0) (h3 : p.kind = (E ++ (I ++ J)).getD 0 0) (h4 : p.code = (E ++ (I ++ J)).getD 1 0) (h5 : p.bare = false) (h6 : p.err = true) :
  icmpR h' (errChg E I J p.inner.proto src port addr) = (0, { chPorts p (p.inner.proto == 1) src port with inner := chH p.inner src addr }) := by
 have hE8 : Bytes8 E := fun x hx => h8 x (List.mem_append_left _ hx)
 have hI8 : Bytes8 I := fun x hx => h8 x (List.mem_append_right _ (List.mem_append_left _ hx))
 have hJ8 : Bytes8 J := fun x hx => h8 x (List.mem_append_right _ (List.mem_append_right _ hx))
 have hb := addrAt_bd 0 src
 have hlen' := errChg_len E I J p.inner.proto src port addr
 have hmid := b8_errMid (proto := p.inner.proto) (src := src) hE8 hI8 hJ8 hI hJ hport ha
 have hz : sumOf (errChg E I J p.inner.proto src port addr) = 0 := cl_put0 hmid (by rw [errMid_len]; omega)
 rw [errChg_split hE] at hz hlen' ⊢
 generalize hEe : put2 (put2 E 2 0) 2 (sumOf (put2 (errMid E I J p.inner.proto src port addr) 2 0)) = E' at *
 have lE : E'.length = 8 := by rw [← hEe, put2_len, put2_len]; exact hE
 have f0 : E'.getD 0 0 = E.getD 0 0 := by rw [← hEe, put2_far (by omega) (by omega), put2_far (by omega) (by omega)]
 have f1 : E'.getD 1 0 = E.getD 1 0 := by rw [← hEe, put2_far (by omega) (by omega), put2_far (by omega) (by omega)]
 have hlI := addrL_len I 0 src addr
 have g0 : ∀ k, k < 10 → (addrL I 0 src addr).getD k 0 = I.getD k 0 := fun k hk => addrL_far (by omega) (by omega) (by omega)
 have hlJ := carChg_len J p.inner.proto src port (n4 I (addrAt 0 src)) addr
 have hports := carChg_ports (J := J) (proto := p.inner.proto) (src := src) (port := port) (addr := addr) (old := n4 I (addrAt 0 src)) hJ hport
 have e12 := addr_12 (A := I) (src := src) (by omega) ha
 rw [getD_left (by omega)] at hk h3
 rw [getD_left (by omega)] at h4
 generalize carChg J p.inner.proto src port (n4 I (addrAt 0 src)) addr = J' at *
 generalize addrL I 0 src addr = I' at *
 have hd8 : (E' ++ (I' ++ J')).drop 8 = I' ++ J' := by rw [← lE, List.drop_left]
 have hIJ : (I' ++ J').length = (I ++ J).length := by rw [List.length_append, List.length_append]; omega
 have hpart : partE (I' ++ J') = 0 := by
  rw [partE_cong (l := I ++ J) hIJ (by rw [getD_left (by omega), getD_left (by omega)]; exact g0 0 (by omega)) (by rw [n2_left (by omega), n2_left (by omega)]; exact n2_cong hlI (by omega) (g0 _ (by omega)) (g0 _ (by omega)))
   (by rw [n2_left (by omega), n2_left (by omega)]; exact n2_cong hlI (by omega) (g0 _ (by omega)) (g0 _ (by omega)))]
  exact hp0
 have hhd : hdOf (I' ++ J') = chH (hdOf (I ++ J)) src addr := by
  unfold hdOf chH
  rw [getD_left (by omega), getD_left (by omega), getD_left (by omega), getD_left (by omega), getD_left (by omega), getD_left (by omega), g0 0 (by omega), g0 8 (by omega), g0 9 (by omega), n2_left (by omega), n2_left (by omega), n4_left (by omega), n4_left (by omega), n4_left (by omega), n4_left (by omega), e12.1, e12.2,
   n2_cong hlI (by omega) (g0 _ (by omega)) (g0 _ (by omega))]
 have hsz2 : (chH (hdOf (I ++ J)) src addr).size = (hdOf (I ++ J)).size := rfl
 have hln2 : (chH (hdOf (I ++ J)) src addr).len = (hdOf (I ++ J)).len := rfl
 have hpr2 : (chH (hdOf (I ++ J)) src addr).proto = (hdOf (I ++ J)).proto := rfl
 have hsI : (hdOf (I ++ J)).size = I.length := by rw [← hin]; exact his
 have hdr : (I' ++ J').drop I.length = J' := by rw [← hlI, List.drop_left]
 have hpr : (hdOf (I ++ J)).proto = p.inner.proto := by rw [hin]
 unfold icmpR
 rw [if_neg (by omega), if_neg (by simp [hz]), getD_left (by omega), getD_left (by omega), f0, f1, if_neg (by omega), if_pos hk, hd8]
 unfold faultR
 rw [hhd, if_neg (by simp [hpart]), hsz2, hln2, hpr2, hsI, Int.toNat_natCast, hdr, if_neg (by rw [List.length_append] at hIJ ⊢; rw [hsI] at hlen; omega), hpr, hsz, ← hpat, ← h3, ← h4]
 obtain ⟨q1, q2, q3, q4, q5, q6, q7, q8, q9, q10⟩ := p
 simp only at *
 subst h1 h2 h5 h6 hin
 rcases hpp with ⟨hp1, hs, hd⟩ | ⟨hp1, hj, hs, hd⟩
 ·have hne : (hdOf (I ++ J)).proto ≠ 1 := by omega
  rw [if_pos hp1]
  obtain ⟨r0, r2⟩ := hports.1 hne
  have hb1 : ((hdOf (I ++ J)).proto == 1) = false := by simpa using hne
  simp only [portsP, chPorts, Pt.z, hb1, r0, r2, hs, hd]
  cases src <;> rfl
 ·obtain ⟨r4, r0⟩ := hports.2 hp1
  have hb1 : ((hdOf (I ++ J)).proto == 1) = true := by simpa using hp1
  rw [if_neg (by omega), if_pos ⟨hp1, by rw [r0]; exact hj⟩]
  simp only [portsP, chPorts, Pt.z, hb1, r4]
  cases src <;> rfl
end
def chP (p : Pt) (out : Bool) (a port : Int) : Pt := if p.err = true then { chPorts p (p.inner.proto == 1) (!out) port with inner := chH p.inner (!out) a } else chPorts p (p.proto == 1) out port
theorem putF_off {F : Int → Int} {a n v k : Int} (h : putF F a n v k = 0) (hv : v ≠ 0) : ¬ (a ≤ k ∧ k < a + n) ∧ F k = 0 := by
 unfold putF at h
 split at h
 ·exact absurd h hv
 ·rename_i hc; exact ⟨hc, h⟩
theorem getR_mid {h : Hd} {X B : List Int} (h1 : 20 ≤ h.size ∧ h.size ≤ 60) (h2 : h.size ≤ h.len) (h3 : h.len ≤ X.length) (hB : seg X h.size.toNat (h.len - h.size).toNat = B) : getR h X = getX h.proto h B := by
 unfold getR getX
 rw [if_neg (by omega), hB]
theorem carChg_far {B : List Int} {proto port old a : Int} {src : Bool} {j : Nat} (h : proto = 1 → j < 2 ∨ 6 ≤ j) (h' : proto ≠ 1 → j ≠ portAt 0 src ∧ j ≠ portAt 0 src + 1 ∧ j ≠ sumAt 0 (proto == 17) ∧ j ≠ sumAt 0 (proto == 17) + 1) : (carChg B proto src port old a).getD j 0 = B.getD j 0 := by
 unfold carChg
 split
 ·rename_i h1; exact echoW_far (by have := h h1; omega)
 ·rename_i h1
  obtain ⟨a1, a2, a3, a4⟩ := h' h1
  exact carW_far a1 a2 a3 a4
theorem carW_bare {B : List Int} {port o a : Int} {src : Bool} (hl : 8 ≤ B.length) (h : n2 B 6 = 0) : carW B 0 true src port o a = put2 B (portAt 0 src) port := by
 have hpb : portAt 0 src + 2 ≤ 4 := by unfold portAt; cases src <;> simp
 have e0 : n2 (put2 B (portAt 0 src) port) 6 = n2 B 6 := n2_put2_ne (by omega) (by omega)
 unfold carW
 rw [if_pos (.inr ⟨rfl, by rw [show sumAt 0 true = 6 from rfl, e0]; exact h⟩)]
structure Again (X Y : List Int) (h : Hd) (p : Pt) (out : Bool) (a port : Int) : Prop where
 b8 : Bytes8 Y
 len : (Y.length : Int) = h.len
 getE : getE Y = 0
 hd : hdOf Y = chH h out a
 part : getR (hdOf Y) Y = (0, chP p out a port)
 far : ∀ k : Nat, k < Y.length → freeF h p out k = 0 → Y.getD k 0 = X.getD k 0
 sum : p.err = true → sumOf (seg Y p.pat.toNat p.inner.size.toNat) % 65535 = sumOf (seg X p.pat.toNat p.inner.size.toNat) % 65535
structure Pieces (X : List Int) (A B : List Int) : Prop where
 ok : HdOk A B.length
 b8 : Bytes8 B
 cut : X.take (hdOf X).len.toNat = A ++ B
 hd : hdOf X = ⟨A.length, A.length + B.length, A.getD 8 0, A.getD 9 0, n4 A 12, n4 A 16⟩
 mid : seg X (hdOf X).size.toNat ((hdOf X).len - (hdOf X).size).toNat = B
 le : A.length + B.length ≤ X.length
 sz : A.length ≤ 60
theorem pieces {X : List Int} (h8 : Bytes8 X) (hE : Go.Proofs.YtbichbdcibchlaaGreat.getE X = 0) : ∃ A B, Pieces X A B := by
 obtain ⟨A, B, ok, b8, cut, hs, hl, hh, hm, hle⟩ := HdOk.of h8 hE
 have hsz := ok.2.2.1
 exact ⟨A, B, ok, b8, cut, by rw [hh, (ok.got rfl).2], hm, hle, by omega⟩
theorem Pieces.getR {X A B : List Int} (h : Pieces X A B) : Go.Proofs.YtbichbdcibchlaaGreat.getR (hdOf X) X = getX (hdOf X).proto (hdOf X) B := by
 have e := h.hd
 have h20 := h.ok.2.1
 have := h.sz
 have := h.le
 refine getR_mid ?_ ?_ ?_ h.mid <;> rw [e] <;> simp only [] <;> omega
theorem Pieces.at_ {X A B : List Int} (h : Pieces X A B) {k : Nat} (hk : k < A.length + B.length) : (A ++ B).getD k 0 = X.getD k 0 := by
 rw [← h.cut]
 have e : (hdOf X).len.toNat = A.length + B.length := by rw [h.hd]; simp only []; omega
 rw [e]
 exact getD_take_ hk h.le
section
variable {X A B : List Int} {p : Pt} {out : Bool} {a port : Int}
theorem getX_to {h : Hd} {q : Pt} {pr : Int} (hok : getX pr h B = (0, q)) : pr = 17 ∧ udpR h B = (0, q) ∨ pr = 6 ∧ tcpR h B = (0, q) ∨ pr = 1 ∧ icmpR h B = (0, q) := by
 unfold getX at hok
 split at hok
 ·rename_i h1; exact .inl ⟨h1, hok⟩
 split at hok
 ·rename_i h1; exact .inr (.inl ⟨h1, hok⟩)
 split at hok
 ·rename_i h1; exact .inr (.inr ⟨h1, hok⟩)
 ·cases hok
theorem again_of {B' : List Int} (hp : Pieces X A B) (h8 : Bytes8 B') (hB' : B'.length = B.length) (ha : 0 ≤ a ∧ a ≤ 4294967295) {q : Pt} (hq : getX (hdOf X).proto (chH (hdOf X) out a) B' = (0, q)) :
  Bytes8 (addrL A 0 out a ++ B') ∧ ((addrL A 0 out a ++ B').length : Int) = (hdOf X).len ∧ Go.Proofs.YtbichbdcibchlaaGreat.getE (addrL A 0 out a ++ B') = 0 ∧ hdOf (addrL A 0 out a ++ B') = chH (hdOf X) out a ∧ Go.Proofs.YtbichbdcibchlaaGreat.getR (hdOf (addrL A 0 out a ++ B')) (addrL A 0 out a ++ B') = (0, q) := by
 obtain ⟨e1, e2⟩ := hp.ok.again out ha hB'
 have h20 := hp.ok.2.1
 have hA8 := b8_addrL hp.ok.1 0 out (v := a) (by omega) ha
 have hl : (addrL A 0 out a ++ B').length = A.length + B.length := by rw [List.length_append, addrL_len, hB']
 have hh : hdOf (A ++ B) = hdOf X := by rw [hp.hd, (hp.ok.got rfl).2]
 rw [hh] at e2
 have hd := hp.hd
 have hsz := hp.sz
 refine ⟨hA8.app h8, by rw [hl, hd]; simp only []; omega, e1, e2, ?_⟩
 rw [e2]
 have hs : (chH (hdOf X) out a).size = A.length := by rw [hd]; rfl
 have hn : (chH (hdOf X) out a).len = A.length + B.length := by rw [hd]; rfl
 rw [getR_mid (B := B') (by omega) (by omega) (by omega)]
 ·exact hq
 ·rw [hs, hn, Int.toNat_natCast, show ((A.length : Int) + B.length - A.length).toNat = B.length by omega]
  have := seg_right (addrL A 0 out a) B' 0 B.length
  rw [addrL_len] at this
  rw [show A.length = A.length + 0 from rfl, this]
  unfold seg
  rw [List.drop_zero, List.take_of_length_le (by omega)]
theorem head_far {k : Nat} (h20 : 20 ≤ A.length) (h1 : k < addrAt 0 out ∨ addrAt 0 out + 4 ≤ k) (h2 : k ≠ 10) (h3 : k ≠ 11) : (addrL A 0 out a).getD k 0 = A.getD k 0 := addrL_far h1 (by omega) (by omega)
theorem far_of {B' : List Int} (hp : Pieces X A B) (hB' : B'.length = B.length) {k : Nat} (hk : k < A.length + B.length) (h1 : k < addrAt 0 out ∨ addrAt 0 out + 4 ≤ k) (h2 : k ≠ 10) (h3 : k ≠ 11) (hb : ∀ j, k = A.length + j → B'.getD j 0 = B.getD j 0) :
  (addrL A 0 out a ++ B').getD k 0 = X.getD k 0 := by
 have h20 := hp.ok.2.1
 rw [← hp.at_ hk]
 rcases Nat.lt_or_ge k A.length with hlt | hge
 ·rw [getD_left (by rw [addrL_len]; omega), getD_left hlt, head_far h20 h1 h2 h3]
 ·obtain ⟨j, rfl⟩ : ∃ j, k = A.length + j := ⟨k - A.length, by omega⟩
  have e := getD_right (addrL A 0 out a) B' j
  rw [addrL_len] at e
  rw [e, getD_right, hb j rfl]
theorem outer_off {f : Int → Int} {k : Nat} (h : putF (fun k => if k = 11 then 3 else if k = 10 then 3 else 0) (if out = true then 12 else 16) 4 1 k = 0) : (k < addrAt 0 out ∨ addrAt 0 out + 4 ≤ k) ∧ k ≠ 10 ∧ k ≠ 11 := by
 obtain ⟨h1, h2⟩ := putF_off h (by omega)
 unfold addrAt
 split at h2
 ·omega
 split at h2
 ·omega
 cases out <;> simp at h1 ⊢ <;> omega
end
theorem Upd.row (w : World) (g : Nat) (t : Array Value) : Upd (fun k => k = g) w (w.setRow g t) := ⟨rfl, rfl, rfl, by simp, fun k _ hS => setRow_other w g k t hS⟩
theorem Own.upd {k : IntKind} {e : TypeId} {w w' : World} {base : Nat} {v : Value} {l : List Int} {S : Nat → Prop} (h : Own k e w base v l) (hu : Upd S w w') (hS : ∀ g, v.ownBlock = some g → ¬ S g) : Own k e w' base v l := by
 refine ⟨⟨h.row.1, ?_⟩, h.rng⟩
 rcases h.row.2 with h1 | ⟨g, cap, cur, h1, h2, h3, h4⟩
 ·exact .inl h1
 ·exact .inr ⟨g, cap, cur, h1, h2, (hu.block g (Array.getElem?_eq_some_iff.1 h3).1 (hS g (by rw [h1]; rfl))).trans h3, h4⟩
def f0 (out : Bool) : Int → Int := putF (fun k => if k = 11 then 3 else if k = 10 then 3 else 0) (if out then 12 else 16) 4 1
section
variable {h : Hd} {p : Pt} {out : Bool}
theorem freeF_bare (h1 : h.proto = 17) (hb : p.bare = true) : freeF h p out = putF (f0 out) (h.size + (if out then 0 else 2)) 2 2 := by unfold freeF f0; rw [if_pos h1, if_pos hb]
theorem freeF_udp (h1 : h.proto = 17) (hb : p.bare = false) : freeF h p out = putF (putF (f0 out) (h.size + (if out then 0 else 2)) 2 2) (h.size + 6) 2 3 := by unfold freeF f0; rw [if_pos h1, if_neg (by simp [hb])]
theorem freeF_tcp (h1 : h.proto = 6) : freeF h p out = putF (putF (f0 out) (h.size + (if out then 0 else 2)) 2 2) (h.size + 16) 2 3 := by unfold freeF f0; rw [if_neg (by omega), if_pos h1]
theorem freeF_echo (h1 : h.proto = 1) (he : p.err = false) : freeF h p out = putF (putF (f0 out) (h.size + 4) 2 2) (h.size + 2) 2 3 := by unfold freeF f0; rw [if_neg (by omega), if_neg (by omega), if_pos he]
def fe (h : Hd) (p : Pt) (out : Bool) : Int → Int := putF (putF (putF (f0 out) (h.size + 2) 2 3) (p.pat + (if out then 16 else 12)) 4 1) (p.pat + 10) 2 3
theorem freeF_err (h1 : h.proto = 1) (he : p.err = true) (hi : p.inner.proto = 17 ∨ p.inner.proto = 6 ∨ p.inner.proto = 1) : freeF h p out =
  putF (putF (fe h p out) (p.pat + p.inner.size + (if p.inner.proto = 1 then 4 else if out then 2 else 0)) 2 2) (p.pat + p.inner.size + (if p.inner.proto = 1 then 2 else if p.inner.proto = 17 then 6 else 16)) 2 3 := by
 unfold freeF fe f0
 rw [if_neg (by omega), if_neg (by omega), if_neg (by simp [he])]
 rcases hi with hi | hi | hi
 ·rw [if_pos hi, if_neg (show ¬ p.inner.proto = 1 by omega), if_neg (show ¬ p.inner.proto = 1 by omega), if_pos hi]
 ·rw [if_neg (show ¬ p.inner.proto = 17 by omega), if_pos hi, if_neg (show ¬ p.inner.proto = 1 by omega), if_neg (show ¬ p.inner.proto = 1 by omega), if_neg (show ¬ p.inner.proto = 17 by omega)]
 ·rw [if_neg (show ¬ p.inner.proto = 17 by omega), if_neg (show ¬ p.inner.proto = 6 by omega), if_pos hi, if_pos hi, if_pos hi]
end
section
variable {X A B : List Int} {p : Pt} {out : Bool} {a port : Int}
theorem wd_ch (hp : Pieces X A B) (out : Bool) (a : Int) : wd (chH (hdOf X) out a).src + wd (chH (hdOf X) out a).dst = wd (hdOf X).src + wd (hdOf X).dst - wd (n4 A (addrAt 0 out)) + wd a := by
 rw [hp.hd]
 cases out
 ·simp only [chH, addrAt, Bool.false_eq_true, if_false, Nat.zero_add]; omega
 ·simp only [chH, addrAt, if_true, Nat.zero_add]; omega
theorem ch_bds (hp : Pieces X A B) (out : Bool) (ha : 0 ≤ a) : 0 ≤ (hdOf X).src ∧ 0 ≤ (hdOf X).dst ∧ 0 ≤ (chH (hdOf X) out a).src ∧ 0 ≤ (chH (hdOf X) out a).dst ∧ (hdOf X).size = A.length ∧ (hdOf X).len = A.length + B.length := by
 have h20 := hp.ok.2.1
 have s12 := n4_bd hp.ok.1 (i := 12) (by omega)
 have s16 := n4_bd hp.ok.1 (i := 16) (by omega)
 rw [hp.hd]
 cases out
 ·exact ⟨s12.1, s16.1, s12.1, ha, rfl, rfl⟩
 ·exact ⟨s12.1, s16.1, ha, s16.1, rfl, rfl⟩
theorem outer_0 {k : Nat} (h : f0 out k = 0) : (k < addrAt 0 out ∨ addrAt 0 out + 4 ≤ k) ∧ k ≠ 10 ∧ k ≠ 11 := outer_off (f := f0 out) h
theorem got_udp (hp : Pieces X A B) (h1 : (hdOf X).proto = 17) (h2 : udpR (hdOf X) B = (0, p)) (ha : 0 ≤ a ∧ a ≤ 4294967295) (hport : 0 ≤ port ∧ port ≤ 65535) : Again X (chgW (A ++ B) (hdOf X) p out a port) (hdOf X) p out a port := by
 have hb := addrAt_bd 0 out
 have h20 := hp.ok.2.1
 have ho := n4_bd hp.ok.1 (i := addrAt 0 out) (by omega)
 obtain ⟨c1, c2, c3, c4, hs, hn⟩ := ch_bds hp out ha.1
 obtain ⟨q1, q2, q3, q4, q5, _, _⟩ := udp_again (h' := chH (hdOf X) out a) (src := out) hp.b8 hport ho ha c1 c2 c3 c4 (wd_ch hp out a) h2
 rw [chgW_plain q2 h20 (by rw [hs]; rfl)]
 have eC : carChg B p.proto out port (n4 A (addrAt 0 out)) a = carW B 0 true out port (n4 A (addrAt 0 out)) a := by rw [q3]; rfl
 rw [eC]
 have hX : getX (hdOf X).proto (chH (hdOf X) out a) (carW B 0 true out port (n4 A (addrAt 0 out)) a) = (0, chP p out a port) := by
  rw [h1]; unfold getX chP; rw [if_pos rfl, q1, q2, q3]; rfl
 obtain ⟨r1, r2, r3, r4, r5⟩ := again_of hp (b8_carW hp.b8 0 true out (by omega) hport ho ha) (carW_len _ _ _ _ _ _ _) ha hX
 refine ⟨r1, r2, r3, r4, r5, fun k hk hf => ?_, fun he => by rw [q2] at he; cases he⟩
 have hk' : k < A.length + B.length := by omega
 have hpa : portAt 0 out = if out then 0 else 2 := by unfold portAt; rfl
 cases hba : p.bare with
 | true =>
  rw [freeF_bare h1 hba, hs] at hf
  obtain ⟨f1, f2⟩ := putF_off hf (by omega)
  obtain ⟨g1, g2, g3⟩ := outer_0 f2
  refine far_of hp (carW_len _ _ _ _ _ _ _) hk' g1 g2 g3 fun j hj => ?_
  rw [hba] at q5
  rw [carW_bare q4 (by simpa using q5.symm)]
  refine put2_far ?_ ?_ <;> rw [hpa] <;> cases out <;> simp at f1 ⊢ <;> omega
 | false =>
  rw [freeF_udp h1 hba, hs] at hf
  obtain ⟨f0', f1⟩ := putF_off hf (by omega)
  obtain ⟨f1, f2⟩ := putF_off f1 (by omega)
  obtain ⟨g1, g2, g3⟩ := outer_0 f2
  refine far_of hp (carW_len _ _ _ _ _ _ _) hk' g1 g2 g3 fun j hj => ?_
  refine carW_far ?_ ?_ ?_ ?_ <;> first | (rw [hpa]; cases out <;> simp at f1 ⊢ <;> omega) | (simp only [sumAt, if_true]; omega)
theorem got_tcp (hp : Pieces X A B) (h1 : (hdOf X).proto = 6) (h2 : tcpR (hdOf X) B = (0, p)) (ha : 0 ≤ a ∧ a ≤ 4294967295) (hport : 0 ≤ port ∧ port ≤ 65535) : Again X (chgW (A ++ B) (hdOf X) p out a port) (hdOf X) p out a port := by
 have hb := addrAt_bd 0 out
 have h20 := hp.ok.2.1
 have ho := n4_bd hp.ok.1 (i := addrAt 0 out) (by omega)
 obtain ⟨c1, c2, c3, c4, hs, hn⟩ := ch_bds hp out ha.1
 obtain ⟨q1, q2, q3, q4, _, _⟩ := tcp_again (h' := chH (hdOf X) out a) (src := out) hp.b8 hport ho ha c1 c2 c3 c4 (wd_ch hp out a) h2
 rw [chgW_plain q2 h20 (by rw [hs]; rfl)]
 have eC : carChg B p.proto out port (n4 A (addrAt 0 out)) a = carW B 0 false out port (n4 A (addrAt 0 out)) a := by rw [q3]; rfl
 rw [eC]
 have hX : getX (hdOf X).proto (chH (hdOf X) out a) (carW B 0 false out port (n4 A (addrAt 0 out)) a) = (0, chP p out a port) := by
  rw [h1]; unfold getX chP; rw [if_neg (by decide), if_pos rfl, q1, q2, q3]; rfl
 obtain ⟨r1, r2, r3, r4, r5⟩ := again_of hp (b8_carW hp.b8 0 false out (by omega) hport ho ha) (carW_len _ _ _ _ _ _ _) ha hX
 refine ⟨r1, r2, r3, r4, r5, fun k hk hf => ?_, fun he => by rw [q2] at he; cases he⟩
 have hk' : k < A.length + B.length := by omega
 have hpa : portAt 0 out = if out then 0 else 2 := by unfold portAt; rfl
 rw [freeF_tcp h1, hs] at hf
 obtain ⟨f0', f1⟩ := putF_off hf (by omega)
 obtain ⟨f1, f2⟩ := putF_off f1 (by omega)
 obtain ⟨g1, g2, g3⟩ := outer_0 f2
 refine far_of hp (carW_len _ _ _ _ _ _ _) hk' g1 g2 g3 fun j hj => ?_
 refine carW_far ?_ ?_ ?_ ?_ <;> first | (rw [hpa]; cases out <;> simp at f1 ⊢ <;> omega) | (simp only [sumAt, Bool.false_eq_true, if_false]; omega)
theorem got_echo (hp : Pieces X A B) (h1 : (hdOf X).proto = 1) (h2 : icmpR (hdOf X) B = (0, p)) (he : p.err = false) (ha : 0 ≤ a ∧ a ≤ 4294967295) (hport : 0 ≤ port ∧ port ≤ 65535) : Again X (chgW (A ++ B) (hdOf X) p out a port) (hdOf X) p out a port := by
 have hb := addrAt_bd 0 out
 have h20 := hp.ok.2.1
 obtain ⟨c1, c2, c3, c4, hs, hn⟩ := ch_bds hp out ha.1
 obtain ⟨l1, _⟩ := icmp_len h2
 obtain ⟨q1, q3, _⟩ := echo_again (h' := chH (hdOf X) out a) (src := out) hp.b8 hport h2 he
 rw [chgW_plain he h20 (by rw [hs]; rfl)]
 have eC : carChg B p.proto out port (n4 A (addrAt 0 out)) a = echoW B 0 port := by rw [q3]; rfl
 rw [eC]
 have hX : getX (hdOf X).proto (chH (hdOf X) out a) (echoW B 0 port) = (0, chP p out a port) := by
  rw [h1]; unfold getX chP; rw [if_neg (by decide), if_neg (by decide), if_pos rfl, q1, he, q3]; rfl
 have hlB : (echoW B 0 port).length = B.length := by unfold echoW; rw [put2_len, put2_len]
 obtain ⟨r1, r2, r3, r4, r5⟩ := again_of hp (b8_echoW hp.b8 0 (v := port) (by omega) hport) hlB ha hX
 refine ⟨r1, r2, r3, r4, r5, fun k hk hf => ?_, fun he' => by rw [he] at he'; cases he'⟩
 have hk' : k < A.length + B.length := by omega
 rw [freeF_echo h1 he, hs] at hf
 obtain ⟨f0', f1⟩ := putF_off hf (by omega)
 obtain ⟨f1, f2⟩ := putF_off f1 (by omega)
 obtain ⟨g1, g2, g3⟩ := outer_0 f2
 exact far_of hp hlB hk' g1 g2 g3 fun j hj => echoW_far (by omega)
theorem sumOf_mod {l l' : List Int} (h8 : Bytes8 l) (h8' : Bytes8 l') {q : Int} (h : sb true l' = sb true l + 65535 * q) : sumOf l' % 65535 = sumOf l % 65535 := by
 have h1 := (sb_bd l h8 true).1
 have h2 := (sb_bd l' h8' true).1
 unfold sumOf fo
 split <;> split <;> omega
theorem seg_app {A B C : List Int} {i n : Nat} (hi : i = A.length) (hn : n = B.length) : seg (A ++ (B ++ C)) i n = B := by
 subst hi hn
 have := seg_right A (B ++ C) 0 B.length
 rw [Nat.add_zero] at this
 rw [this]
 unfold seg
 rw [List.drop_zero, List.take_left]
theorem got_err (hX8 : Bytes8 X) (hp : Pieces X A B) (h1 : (hdOf X).proto = 1) (h2 : icmpR (hdOf X) B = (0, p)) (he : p.err = true) (ha : 0 ≤ a ∧ a ≤ 4294967295) (hport : 0 ≤ port ∧ port ≤ 65535) : Again X (chgW (A ++ B) (hdOf X) p out a port) (hdOf X) p out a port := by
 have hb := addrAt_bd 0 (!out)
 have h20 := hp.ok.2.1
 obtain ⟨c1, c2, c3, c4, hs, hn⟩ := ch_bds hp out ha.1
 obtain ⟨E, I, J, rfl, lE, lI, lI2, lJ, bE, bI, bJ, _, i1, i2, i3, i4, i5, i6, i7, i8, i9, i10, i11, i12⟩ := err_of hp.b8 h2 he
 have hsz := hp.sz
 have hle := hp.le
 have hll : (E ++ (I ++ J)).length = 8 + I.length + J.length := by rw [List.length_append, List.length_append]; omega
 have hpat : p.pat.toNat = A.length + 8 := by rw [i2, hs]; omega
 have hinr : p.inner.size.toNat = I.length := by rw [i1]; rfl
 rw [chgW_err he h20 lE lI (by rw [hs]; rfl) hpat hinr]
 have q1 := err_again (h' := chH (hdOf X) out a) (h := hdOf X) (src := !out) (addr := a) (port := port) hp.b8 lE lI lJ hport ha rfl i5 i6 i1 i7 i4 i8 i2 i3 i9 i10 i11 i12 he
 have hX : getX (hdOf X).proto (chH (hdOf X) out a) (errChg E I J p.inner.proto (!out) port a) = (0, chP p out a port) := by
  rw [h1]; unfold getX chP; rw [if_neg (by decide), if_neg (by decide), if_pos rfl, q1, he]; rfl
 have hlB : (errChg E I J p.inner.proto (!out) port a).length = (E ++ (I ++ J)).length := by rw [errChg_len]; omega
 obtain ⟨r1, r2, r3, r4, r5⟩ := again_of hp (b8_errChg bE bI bJ lI lJ hport ha) hlB ha hX
 refine ⟨r1, r2, r3, r4, r5, fun k hk hf => ?_, fun _ => ?_⟩
 ·have hk' : k < A.length + (E ++ (I ++ J)).length := by omega
  have hip : p.inner.proto = 17 ∨ p.inner.proto = 6 ∨ p.inner.proto = 1 := by omega
  rw [freeF_err h1 he hip, i1, i2, hs] at hf
  obtain ⟨f5, hf⟩ := putF_off hf (by omega)
  obtain ⟨f4, hf⟩ := putF_off hf (by omega)
  unfold fe at hf
  rw [i2, hs] at hf
  obtain ⟨f3, hf⟩ := putF_off hf (by omega)
  obtain ⟨f2, hf⟩ := putF_off hf (by omega)
  obtain ⟨f1, hf⟩ := putF_off hf (by omega)
  obtain ⟨g1, g2, g3⟩ := outer_0 hf
  refine far_of hp hlB hk' g1 g2 g3 fun j hj => ?_
  rw [errChg_split lE]
  have lE' : (put2 (put2 E 2 0) 2 (sumOf (put2 (errMid E I J p.inner.proto (!out) port a) 2 0))).length = E.length := by rw [put2_len, put2_len]
  rcases Nat.lt_or_ge j 8 with hj8 | hj8
  ·rw [getD_left (by omega), getD_left (by omega), put2_far (by omega) (by omega), put2_far (by omega) (by omega)]
  obtain ⟨j, rfl⟩ : ∃ j', j = E.length + j' := ⟨j - E.length, by omega⟩
  have e1 := getD_right (put2 (put2 E 2 0) 2 (sumOf (put2 (errMid E I J p.inner.proto (!out) port a) 2 0))) (addrL I 0 (!out) a ++ carChg J p.inner.proto (!out) port (n4 I (addrAt 0 (!out))) a) j
  rw [lE'] at e1
  rw [e1, getD_right]
  rcases Nat.lt_or_ge j I.length with hjI | hjI
  ·rw [getD_left (by rw [addrL_len]; omega), getD_left hjI]
   refine addrL_far ?_ (by omega) (by omega)
   unfold addrAt
   cases out <;> simp at f2 ⊢ <;> omega
  ·obtain ⟨j, rfl⟩ : ∃ j', j = I.length + j' := ⟨j - I.length, by omega⟩
   have e2 := getD_right (addrL I 0 (!out) a) (carChg J p.inner.proto (!out) port (n4 I (addrAt 0 (!out))) a) j
   rw [addrL_len] at e2
   rw [e2, getD_right]
   refine carChg_far (fun hi => ?_) (fun hi => ?_)
   ·rw [if_pos hi] at f4 f5; omega
   ·rw [if_neg hi] at f4 f5
    refine ⟨?_, ?_, ?_, ?_⟩
    ·unfold portAt; cases out <;> simp at f4 ⊢ <;> omega
    ·unfold portAt; cases out <;> simp at f4 ⊢ <;> omega
    ·unfold sumAt
     rcases hip with h | h | h
     ·rw [if_pos h] at f5; simp [h]; omega
     ·rw [if_neg (by omega)] at f5; simp [h]; omega
     ·exact absurd h hi
    ·unfold sumAt
     rcases hip with h | h | h
     ·rw [if_pos h] at f5; simp [h]; omega
     ·rw [if_neg (by omega)] at f5; simp [h]; omega
     ·exact absurd h hi
 ·rw [hpat, hinr, errChg_split lE]
  have e1 : seg (addrL A 0 out a ++ (put2 (put2 E 2 0) 2 (sumOf (put2 (errMid E I J p.inner.proto (!out) port a) 2 0)) ++ (addrL I 0 (!out) a ++ carChg J p.inner.proto (!out) port (n4 I (addrAt 0 (!out))) a))) (A.length + 8) I.length = addrL I 0 (!out) a := by
   rw [← List.append_assoc]
   exact seg_app (by rw [List.length_append, addrL_len, put2_len, put2_len]; omega) (by rw [addrL_len])
  have e2 : seg X (A.length + 8) I.length = I := by
   have h3 : seg (X.take (hdOf X).len.toNat) (A.length + 8) I.length = seg X (A.length + 8) I.length := by
    have e : (hdOf X).len.toNat = A.length + (E ++ (I ++ J)).length := by rw [hn]; omega
    unfold seg
    rw [List.drop_take, List.take_take, e, Nat.min_eq_left (by omega)]
   rw [← h3, hp.cut, ← List.append_assoc]
   exact seg_app (by rw [List.length_append]; omega) rfl
  rw [e1, e2]
  obtain ⟨q, hq⟩ := sb_addr I 0 (!out) a rfl (by omega) bI ha
  exact sumOf_mod bI (b8_addrL bI 0 (!out) (by omega) ha) hq
theorem chg_got (hX8 : Bytes8 X) (hE : getE X = 0) (hR : getR (hdOf X) X = (0, p)) (ha : 0 ≤ a ∧ a ≤ 4294967295) (hport : 0 ≤ port ∧ port ≤ 65535) : Again X (chgW (X.take (hdOf X).len.toNat) (hdOf X) p out a port) (hdOf X) p out a port := by
 obtain ⟨A, B, hp⟩ := pieces hX8 hE
 rw [hp.getR] at hR
 rw [hp.cut]
 rcases getX_to hR with ⟨h1, h2⟩ | ⟨h1, h2⟩ | ⟨h1, h2⟩
 ·exact got_udp hp h1 h2 ha hport
 ·exact got_tcp hp h1 h2 ha hport
 ·cases he : p.err with
  | false => exact got_echo hp h1 h2 he ha hport
  | true => exact got_err hX8 hp h1 h2 he ha hport
end
theorem got_proto {X A B : List Int} {p : Pt} (hp : Pieces X A B) (hR : getR (hdOf X) X = (0, p)) : p.proto = (hdOf X).proto := by
 rw [hp.getR] at hR
 obtain ⟨c1, c2, c3, c4, _, _⟩ := ch_bds (a := 0) hp true (by omega)
 rcases getX_to hR with ⟨h1, h2⟩ | ⟨h1, h2⟩ | ⟨h1, h2⟩
 ·rw [h1]
  unfold udpR at h2
  split at h2
  ·cases h2
  split at h2
  ·cases h2
  split at h2
  ·cases h2
  simp only [Prod.mk.injEq, true_and] at h2
  rw [← h2]; rfl
 ·rw [h1]
  unfold tcpR at h2
  split at h2
  ·cases h2
  split at h2
  ·cases h2
  split at h2
  ·cases h2
  simp only [Prod.mk.injEq, true_and] at h2
  rw [← h2]; rfl
 ·rw [h1]
  cases he : p.err with
  | false => exact (echo_again (h' := hdOf X) (src := true) (port := 0) hp.b8 (by omega) h2 he).2.1
  | true =>
   obtain ⟨E, I, J, _, _, _, _, _, _, _, _, _, _, _, h, _⟩ := err_of hp.b8 h2 he
   exact h
theorem got_pre {X : List Int} {p : Pt} (h8 : Bytes8 X) (hE : getE X = 0) (hR : getR (hdOf X) X = (0, p)) : ∃ sz m : Nat, (hdOf X).size = sz ∧ (hdOf X).len = m ∧ 20 ≤ sz ∧ sz ≤ 60 ∧ sz + 8 ≤ m ∧ m ≤ 1500 ∧ m ≤ X.length ∧ p.proto = (hdOf X).proto ∧
  ((hdOf X).proto = 17 ∨ (hdOf X).proto = 6 ∨ (hdOf X).proto = 1) ∧
  (p.err = true → ∃ isz pat : Nat, p.inner.size = isz ∧ p.pat = pat ∧ pat + isz + 8 ≤ m ∧ 20 ≤ isz ∧ isz ≤ 60 ∧ sz + 8 ≤ pat + isz ∧ pat = sz + 8 ∧ p.proto = 1 ∧ (p.inner.proto = 17 ∨ p.inner.proto = 6 ∨ p.inner.proto = 1)) ∧
  (p.err = false → p.inner = Hd.z ∧ p.pat = 0) := by
 obtain ⟨A, B, hp⟩ := pieces h8 hE
 have hpr := got_proto hp hR
 rw [hp.getR] at hR
 have h15 := hp.ok.2.2.2.2.2.1
 obtain ⟨c1, c2, c3, c4, hs, hn⟩ := ch_bds (a := 0) hp true (by omega)
 have h20 := hp.ok.2.1
 have hle := hp.le
 have hsz := hp.sz
 have hB : 8 ≤ B.length ∧ ((hdOf X).proto = 17 ∨ (hdOf X).proto = 6 ∨ (hdOf X).proto = 1) ∧ (p.err = false → p.inner = Hd.z ∧ p.pat = 0) ∧ (p.err = true → icmpR (hdOf X) B = (0, p)) := by
  rcases getX_to hR with ⟨h1, h2⟩ | ⟨h1, h2⟩ | ⟨h1, h2⟩
  ·unfold udpR at h2
   split at h2
   ·cases h2
   split at h2
   ·cases h2
   split at h2
   ·cases h2
   simp only [Prod.mk.injEq, true_and] at h2
   subst h2
   exact ⟨by omega, .inl h1, fun _ => ⟨rfl, rfl⟩, fun h => by cases h⟩
  ·unfold tcpR at h2
   split at h2
   ·cases h2
   split at h2
   ·cases h2
   split at h2
   ·cases h2
   simp only [Prod.mk.injEq, true_and] at h2
   subst h2
   exact ⟨by omega, .inr (.inl h1), fun _ => ⟨rfl, rfl⟩, fun h => by cases h⟩
  ·obtain ⟨hl, _⟩ := icmp_len h2
   refine ⟨hl, .inr (.inr h1), fun he => ?_, fun _ => h2⟩
   obtain ⟨_, hz⟩ := icmp_len h2
   unfold icmpR at h2
   rw [if_neg (by omega), if_neg (by simp [hz])] at h2
   split at h2
   ·split at h2
    ·cases h2
    ·simp only [Prod.mk.injEq, true_and] at h2
     subst h2
     exact ⟨rfl, rfl⟩
   ·split at h2
    ·have := fault_err h2
     rw [he] at this; cases this
    ·cases h2
 refine ⟨A.length, A.length + B.length, hs, by rw [hn]; omega, h20, hsz, by omega, h15, hle, hpr, hB.2.1, fun he => ?_, hB.2.2.1⟩
 obtain ⟨E, I, J, hBe, lE, lI, lI2, lJ, bE, bI, bJ, _, i1, i2, i3, i4, i5, i6, i7, i8, _⟩ := err_of hp.b8 (hB.2.2.2 he) he
 have hll : B.length = 8 + I.length + J.length := by rw [hBe, List.length_append, List.length_append]; omega
 exact ⟨I.length, A.length + 8, i1, by rw [i2, hs]; omega, by omega, lI, lI2, by omega, rfl, i3, by omega⟩
def rwE (l : List Int) : Int := if getE l ≠ 0 then getE l else (getR (hdOf l) l).1
def rwL (l : List Int) (out : Bool) (a port : Int) : List Int := if rwE l = 0 then chgW (l.take (hdOf l).len.toNat) (hdOf l) (getR (hdOf l) l).2 out a port else []
theorem rw_ok {l : List Int} (h : rwE l = 0) : getE l = 0 ∧ getR (hdOf l) l = (0, (getR (hdOf l) l).2) := by
 unfold rwE at h
 split at h
 ·rename_i h1; exact absurd h h1
 ·rename_i h1
  refine ⟨?_, by rw [← h]⟩
  rcases Decidable.em (getE l = 0) with e | e
  ·exact e
  ·exact absurd e h1
theorem rw_again {l : List Int} (h8 : Bytes8 l) (h : rwE l = 0) (out : Bool) {a port : Int} (ha : 0 ≤ a ∧ a ≤ 4294967295) (hp : 0 ≤ port ∧ port ≤ 65535) : Again l (rwL l out a port) (hdOf l) (getR (hdOf l) l).2 out a port := by
 obtain ⟨h1, h2⟩ := rw_ok h
 unfold rwL
 rw [if_pos h]
 exact chg_got h8 h1 h2 ha hp
section
variable (out : Bool) (l : List Int) (A : Option Addr) (len c B : Nat) (addr port : Int) (w : World) (hr : Rd .u8 w B A len l) (hB : B ≤ w.heap.size) (hlc : len ≤ c) (hcm : c ≤ 9223372036854775807) (hl : len ≤ 60000) (ha : 0 ≤ addr ∧ addr ≤ 4294967295) (hport : 0 ≤ port ∧ port ≤ 65535)
include hr hB hlc hcm hl ha hport
theorem change_any : Calls Tryz.prog 59 #[.slice A len c, .bool out, .int .u32 addr, .int .u16 port] w (ChgR w (rwE l) (rwL l out addr port)) := by
 have h8 : Bytes8 l := fun x hx => inr_u8 (hr.rng x hx)
 by_cases h1 : getE l = 0
 ·have eh : hdIf l 0 = hdOf l := rfl
  by_cases h2 : (getR (hdOf l) l).1 = 0
  ·have e0 : rwE l = 0 := by unfold rwE; rw [if_neg (by simp [h1])]; exact h2
   obtain ⟨_, hR⟩ := rw_ok e0
   have hL : rwL l out addr port = chgW (l.take (hdOf l).len.toNat) (hdOf l) (getR (hdOf l) l).2 out addr port := by unfold rwL; rw [if_pos e0]
   rw [e0, hL]
   generalize (getR (hdOf l) l).2 = p at *
   obtain ⟨sz, m, s1, s2, s3, s4, s5, s6, s7, s8, s9, s10, _⟩ := got_pre h8 h1 hR
   rcases hH : hdOf l with ⟨H0, H1, H2, H3, H4, H5⟩
   simp only [hH] at s1 s2 s8 s9
   subst s1 s2
   obtain ⟨pr, sr, ds, fl, ki, co, er, ⟨i0, i1, i2, i3, i4, i5⟩, pa, ba⟩ := p
   refine change_ok out l A len c B addr port w hr hB hlc hcm hl sz m H2 H3 H4 H5 _ pr sr ds fl ki co i0 i1 i2 i3 i4 i5 pa er ba h1 (eh.trans hH) (by rw [eh]; rw [hH] at hR ⊢; exact hR) (by have := hr.len; omega) s6 s3 s5 (fun he => ?_) (Lib.hid rfl) ha hport
   obtain ⟨isz, pat, t1, t2, t3, t4, t5, t6, _⟩ := s10 he
   exact ⟨isz, pat, t1, t2, t3, t4, t6⟩
  ·have e0 : rwE l = (getR (hdIf l 0) l).1 := by unfold rwE; rw [if_neg (by simp [h1]), eh]
   have hL : rwL l out addr port = [] := by unfold rwL; rw [if_neg (by rw [e0, eh]; exact h2)]
   rw [e0, hL]
   exact change_part out l A len c B addr port w hr hB hlc hcm hl h1 (by rw [eh]; exact h2)
 ·have e0 : rwE l = getE l := by unfold rwE; rw [if_pos h1]
  have hL : rwL l out addr port = [] := by unfold rwL; rw [if_neg (by rw [e0]; exact h1)]
  rw [e0, hL]
  exact change_head out l A len c B addr port w hr hB hlc hcm hl h1
end
section
variable (l : List Int) (A : Option Addr) (len c B : Nat) (addr port : Int) (w : World) (hr : Rd .u8 w B A len l) (hB : B ≤ w.heap.size) (hlc : len ≤ c) (hcm : c ≤ 9223372036854775807) (hl : len ≤ 60000) (ha : 0 ≤ addr ∧ addr ≤ 4294967295) (hport : 0 ≤ port ∧ port ≤ 65535)
include hr hB hlc hcm hl ha hport
theorem RwOut_any : Calls Tryz.prog 54 #[.slice A len c, .int .u32 addr, .int .u16 port] w (ChgR w (rwE l) (rwL l true addr port)) := by
 have h := change_any true l A len c B addr port w hr hB hlc hcm hl ha hport
 generalize rwE l = E at *
 generalize rwL l true addr port = L at *
 replace h := Lib.hid h
 clear hr
 go_enter Tryz.func54, Tryz.ntmps54
 go_wp2_with fail
 refine h.out.mono ?_
 rintro e w1 ⟨⟨v, rfl, h1, h2⟩, hb⟩
 replace h1 := Lib.hid h1
 replace h2 := Lib.hid h2
 go_wp2
 go_ret2
 exact ⟨⟨_, rfl, h1.out, h2.out⟩, hb⟩
theorem RwIn_any : Calls Tryz.prog 30 #[.slice A len c, .int .u32 addr, .int .u16 port] w (ChgR w (rwE l) (rwL l false addr port)) := by
 have h := change_any false l A len c B addr port w hr hB hlc hcm hl ha hport
 generalize rwE l = E at *
 generalize rwL l false addr port = L at *
 replace h := Lib.hid h
 clear hr
 go_enter Tryz.func30, Tryz.ntmps30
 go_wp2_with fail
 refine h.out.mono ?_
 rintro e w1 ⟨⟨v, rfl, h1, h2⟩, hb⟩
 replace h1 := Lib.hid h1
 replace h2 := Lib.hid h2
 go_wp2
 go_ret2
 exact ⟨⟨_, rfl, h1.out, h2.out⟩, hb⟩
end
end Go.Proofs.YtbichbdcibchlaaGreat
