/- Contracts and plain facts. -/
import Derived.Test.YtbckoohljkmahaaGreatPk21
import Derived.Test.YtbckoohljkmahaaGreatPk11
namespace Go.Proofs.YtbckoohljkmahaaGreat
set_option linter.unusedVariables false
set_option linter.unusedSimpArgs false
set_option maxRecDepth 100000
set_option maxHeartbeats 16000000
open Go.RowKit
theorem dStep_noB (c : Cf) (base gd : Nat) (va : Value) (L : List Bd) (ou : Bool) (xA : Option Addr) (xn xc : Nat) (ti po : Int) (l : List Int) (w : World) (h : DN w base c gd va L) (hc : c.ok) (ht : 0 ≤ ti ∧ ti ≤ 4294967295) (hE : (whoP c.ou ou l).2 = 0) (hr : Rd .u8 w w.heap.size xA xn l) (hlc : xn ≤ xc) (hcm : xc ≤ 9223372036854775807) (hl : xn ≤ 60000) (hL : L.length ≤ 100000) (hmn : ∀ (j : Nat) y, L[j]? = some y → mt ou (whoP c.ou ou l).1 y = false) (hbeg : begP ou l = false) :
  Calls Tryz.prog 37 #[.pointer (some ⟨gd, 0, none⟩), .agg (A13 ou xA xn xc ti po)] w (DStR w base c gd va (L, 7, [])) := by
 obtain ⟨n, hn⟩ : ∃ n, L.length = n := ⟨_, rfl⟩
 obtain ⟨A, cap, rfl, hnc, hcm2⟩ := h.row.form hn
 unfold maxLen at hcm2
 replace hmn := Lib.hid hmn
 have hfr0 := whoP_rng c.ou ou (l := l) (fun x hx => inr_u8 (hr.rng x hx))
 replace hfr0 := Lib.hid hfr0
 have kp := fun W (hr : Rd .u8 W W.heap.size xA xn l) => rPart_any l xA xn xc W hr hlc hcm hl
 unfold PartT at kp
 have hP1 : (partI l).1 = rdP l := (rdP_part (who_rdE hE)).symm
 rw [hP1] at kp
 generalize rdP l = P at *
 obtain ⟨pr, sr, ds, pf, ki, co, er, ⟨isz, i1, i2, i3, i4, i5⟩, pat, ba⟩ := P
 simp only [Pt.val] at kp
 obtain ⟨okp, hokp⟩ : ∃ o, (partI l).2 = o := ⟨_, rfl⟩
 rw [hokp] at kp
 clear hP1 hokp
 replace kp := Lib.hid kp
 have kw := fun W (hr : Rd .u8 W W.heap.size xA xn l) => rWhose_any c.wk c.ou c.lo c.hi c.bk c.rg ou l xA xn xc W hr hlc hcm hl
 unfold WhoR at kw
 generalize hwho : whoP c.ou ou l = R at *
 obtain ⟨⟨f0, f1, f2⟩, EE⟩ := R
 simp only [Fl.cs] at kw
 replace kw := Lib.hid kw
 replace hwho := Lib.hid hwho
 have d1 : decide (ti < 0) = false := by simp; omega
 have d2 : decide (4294967295 < ti) = false := by simp; omega
 go_enter Tryz.func37, Tryz.ntmps37
 go_upto_region 1 with fail
 have bx := Blk.new w 50 (A13 ou xA xn xc ti po)
 have bel := bel_alloc w (.cells (A13 ou xA xn xc ti po) 50)
 generalize w.alloc (.cells (A13 ou xA xn xc ti po) 50) = W at *
 have x2 := bx.cell 2
 go_upto_region 3 with fail
 clear x2
 have hdW := h.bel bel
 have z1 : ∀ w', (∃ t : Tw (Up W), w' = t.w) → ∀ j u, ([.int .i64 c.wk, .int .u32 c.ou, .int .i64 c.lo, .int .i64 c.hi, .int .i64 c.bk, .int .i64 c.rg] : List Value)[j]? = some u → w'.cell? ⟨gd, 0 + j, none⟩ = some u := fun w' ⟨t, ht⟩ => ht ▸ (hdW.bel t.h).cfg
 have z2 : ∀ t : Tw (Up W), t.w.cell? ⟨w.heap.size, 0, none⟩ = some (.bool ou) := fun t => (bx.bel t.h).cell 0
 have z3 : ∀ t : Tw (Up W), t.w.cell? ⟨w.heap.size, 1, none⟩ = some (.slice xA xn xc) := fun t => (bx.bel t.h).cell 1
 have zz := Up.one W
 have hrW := (hr.below bel).more bel.size
 refine wp_region_float (Up W) (.cells Z2 38) W.heap.size (fun h => .pointer (some ⟨h, 0, none⟩)) 12 _ [(0, true), (1, true), (2, true), (3, true), (4, true), (5, true), (6, true), (7, true), (8, false), (9, true), (10, true), (11, true)] [(13, false), (14, true)] (by kernel_rfl) (by kernel_rfl) (by rfl) (by rfl) (by kernel_rfl) (by kernel_rfl) (Below.refl _ _).drew (fun w' h => Below.alloc h (Below.size h) _) (fun w' h => Below.size h) (by intro a w; simp [execOp, go_sem]) ?_
 refine wpFl_qs 8 _ _ _ (by kernel_rfl) (by kernel_rfl) (by simp) ?_
 unfold clsS
 simp only [qq1, qq2, qq3, qq4, List.filterMap_cons, qq6, qq7, qq8, qq9]
 repeat (first
  | go_big_quiet_skip
  | (go_big_quiet_want; first | (refine quiet_ldAt rfl rfl z1 Tryz.underlying27 rcf_size ?_; go_simp; go_big_quiet_on) | (go_big_quiet_op; go_big_quiet_on))
  | (refine id (?_ : wpQuiet _ _ _ _ (_ :: _) _); first | go_big_quiet_skip | (go_big_quiet_want; first | (refine quiet_ldAt rfl rfl z1 Tryz.underlying27 rcf_size ?_; go_simp; go_big_quiet_on) | (go_big_quiet_op; go_big_quiet_on))))
 refine wpQuiet_nil ?_
 refine wpFl_e (fun _ => True) _ (by rfl) (by kernel_rfl) trivial (fun _ _ => trivial) (fun W1 _ hS1 K hK => ?_)
 go_simp
 refine (kw.out W1 ((hrW.below hS1).more (Below.size hS1))).mono ?_
 rintro e W2 ⟨rfl, hb2⟩
 refine hK _ _ (bel_after hS1 hb2) (KeepO.belM hb2) ?_
 clear hK K hb2 kw
 refine wpFl_qs 3 _ _ _ (by kernel_rfl) (by kernel_rfl) (by simp) ?_
 unfold clsS
 simp only [qq1, qq2, qq3, qq4, List.filterMap_cons, qq6, qq7, qq8, qq9]
 repeat (first | go_big_quiet_skip | (go_big_quiet_want; go_big_quiet_op; go_big_quiet_on) | refine id (?_ : wpQuiet _ _ _ _ (_ :: _) _))
 refine wpQuiet_nil ?_
 unfold wpFl
 refine ⟨fun _ => True, trivial, fun _ _ => trivial, fun W3 gf _ hS3 hgf hbf => ?_⟩
 clear hS1
 replace hbf : Blk W3 gf 38 Z2 := hbf
 go_simp
 refine wpPl_e _ (by rfl) (by kernel_rfl) (fun K hK => ?_)
 refine wp_stRow rfl rfl rfl rfl hbf rfl_size rfl (by simp [Value.oneCell']) ?_
 have bf := hbf.setRow (A11 f0 f1 f2)
 have hS4 := below_setRow hS3 hgf (A11 f0 f1 f2)
 refine hK _ _ hS4 ?_
 clear hK K hbf hS3 z1 z2 z3 zz hrW
 refine wpPl_qs 1 _ _ _ (by kernel_rfl) (by kernel_rfl) (by simp) ?_
 unfold clsS
 simp only [qq1, qq2, qq3, qq4, List.filterMap_cons, qq6, qq7, qq8, qq9]
 repeat (first | go_big_quiet_skip | (go_big_quiet_want; go_big_quiet_op; go_big_quiet_on) | refine id (?_ : wpQuiet _ _ _ _ (_ :: _) _))
 refine wpQuiet_nil ?_
 unfold wpPl
 refine NoPanic.normal ?_
 replace bx := bx.bel hS4
 replace bel := bel_after bel hS4
 replace hdW := hdW.bel hS4
 clear hS4
 generalize W3.setRow gf (A11 f0 f1 f2) = W4 at *
 simp only at hE hmn
 subst hE
 have hwf : IntKind.i64.wrap f2 = f2 := by have := inr_u16 hfr0.out.2.2; rw [IntKind.wrap_i64]; simp only at this; omega
 have hrW := (hr.below bel).more bel.size
 have x1 := bx.cell 1
 go_wp2_with fail
 refine (kp.out _ hrW).mono ?_
 rintro e W5 ⟨rfl, hb5⟩
 replace bx := bx.bel hb5
 replace bf := bf.bel hb5
 replace bel := bel_after bel hb5
 replace hdW := hdW.bel hb5
 clear hb5 kp x1 hrW
 have bp := (Blk.new W5 69 Z0).setRow (A0 pr sr ds pf ki co er isz i1 i2 i3 i4 i5 pat ba)
 have belp : Below W5.heap.size W5 ((W5.alloc (.cells Z0 69)).setRow W5.heap.size (A0 pr sr ds pf ki co er isz i1 i2 i3 i4 i5 pat ba)) := below_setRow (bel_alloc _ _) (Nat.le_refl _) _
 replace bx := bx.bel belp
 replace bf := bf.bel belp
 replace bel := bel_after bel belp
 replace hdW := hdW.bel belp
 clear belp
 go_upto_region 7 with (refine wpList_stRow rfl rfl rfl rfl rfl (Blk.new W5 _ _) rpt_size rfl (by simp [Value.oneCell']) ?_; generalize (W5.alloc (.cells Z0 69)).setRow W5.heap.size (A0 pr sr ds pf ki co er isz i1 i2 i3 i4 i5 pat ba) = W6 at *; generalize W5.heap.size = gp at *)
 have dx : DX w W6 base c gd _ L gf gp (A13 ou xA xn xc ti po) (A11 f0 f1 f2) (A0 pr sr ds pf ki co er isz i1 i2 i3 i4 i5 pat ba) := ⟨hdW, bx, bf, bp, bel⟩
 clear bx bf bp bel hdW
 go_upto_block 0 with fail
 go_wp2_with fail
 refine wp_loop_ghost_k (fun gk a' wr => ∃ v : Nat → Value, a' = ⟨(frm v).toArray, []⟩ ∧ ∃ k : Nat, gk = n - k ∧ k ≤ n ∧ DCom gd w.heap.size gf gp v ∧ v 10 = .int .i64 k ∧ DX w wr base c gd (.slice A n cap) L gf gp (A13 ou xA xn xc ti po) (A11 f0 f1 f2) (A0 pr sr ds pf ki co er isz i1 i2 i3 i4 i5 pat ba)) n ?_ ?_
 ·refine frm_meet (by kernel_rfl) ?_
  exact ⟨0, rfl, Nat.zero_le _, ⟨rfl, rfl, rfl, rfl⟩, rfl, dx⟩
 clear dx
 intro gk a' wr hrel _ _ _ _
 obtain ⟨v, rfl, k, hgk, hk, cm, hv10, dx⟩ := hrel
 by_cases hkn : k < n
 ·replace hgk := Lib.hid hgk
  have d1 : decide ((k : Int) < (n : Int)) = true := by simpa using hkn
  have d2 : decide (k < n) = true := by simpa using hkn
  obtain ⟨g, cc, hA, _, _, hgb1, hgl1, _⟩ := h.row.formG hn (by omega)
  simp only [Value.slice.injEq] at hA
  obtain ⟨rfl, _, rfl⟩ := hA
  obtain ⟨y, hy⟩ : ∃ y, L[k]? = some y := ⟨_, List.getElem?_eq_getElem (by omega)⟩
  have hcz : ∀ f u, (BdL y)[f]? = some u → wr.cell? ⟨g, k * 6 + f, none⟩ = some u := fun f u hu => dx.dn.row.at_ BdL_len hy hu
  have hm0 := mt_false (hmn.out k y hy)
  clear hy
  obtain ⟨⟨b0, b1, b2⟩, b3, b4, b5⟩ := y
  simp only [BdL] at hcz hm0
  have hfr := frm_lit v
  rw [cm.v0, cm.v3, cm.v6, cm.v8, hv10] at hfr
  rw [hfr]
  clear hfr cm hv10
  have c6 := dx.dn.obj.cell 6
  have k0 : (0 : Int) ≤ (k : Int) := by omega
  have k1 : (k : Int) < (n : Int) := by omega
  have bb := (Blk.new wr 92 Z3).setRow (A10 b0 b1 b2 b3 b4 b5)
  have belb : Below wr.heap.size wr ((wr.alloc (.cells Z3 92)).setRow wr.heap.size (A10 b0 b1 b2 b3 b4 b5)) := below_setRow (bel_alloc _ _) (Nat.le_refl _) _
  have hgb : w.heap.size ≤ wr.heap.size := dx.bel.size
  replace dx := dx.bel_ belb
  go_upto_region 11 with (first
   | (refine wpList_ldAt rfl rfl rfl hcz Tryz.underlying92 rbd_size ?_)
   | (refine wpList_stRow rfl rfl rfl rfl rfl (Blk.new wr _ _) rbd_size rfl (by simp [Value.oneCell']) ?_; generalize (wr.alloc (.cells Z3 92)).setRow wr.heap.size (A10 b0 b1 b2 b3 b4 b5) = W2 at *; generalize wr.heap.size = gb at *))
  clear hcz c6 belb
  have x0 := dx.bx.cell 0
  have y0 := dx.bf.cell 0
  have y1 := dx.bf.cell 1
  have y2 := dx.bf.cell 2
  have q0 := bb.cell 0
  have q1 := bb.cell 1
  have q2 := bb.cell 2
  have q3 := bb.cell 3
  clear h hgb1 hgl1 hmn
  rcases hm0 with ⟨rfl, hm0 | ⟨rfl, hm0⟩ | ⟨rfl, rfl, hm0⟩⟩ | ⟨rfl, hm0 | ⟨rfl, hm0⟩⟩
  ·have e1 : (b0 == f0) = false := by simpa using hm0
   go_wp2_with fail
   refine Handed.intro (n - (k + 1)) (by have := hgk.out; omega) ?_
   go_step
   refine frm_meet (by kernel_rfl) ?_
   exact ⟨k + 1, rfl, by omega, ⟨rfl, rfl, rfl, rfl⟩, rfl, dx⟩
  ·have e1 : (b1 == f1) = false := by simpa using hm0
   go_wp2_with fail
   refine Handed.intro (n - (k + 1)) (by have := hgk.out; omega) ?_
   go_step
   refine frm_meet (by kernel_rfl) ?_
   exact ⟨k + 1, rfl, by omega, ⟨rfl, rfl, rfl, rfl⟩, rfl, dx⟩
  ·have e1 : (b2 == f2) = false := by simpa using hm0
   go_wp2_with fail
   refine Handed.intro (n - (k + 1)) (by have := hgk.out; omega) ?_
   go_step
   refine frm_meet (by kernel_rfl) ?_
   exact ⟨k + 1, rfl, by omega, ⟨rfl, rfl, rfl, rfl⟩, rfl, dx⟩
  ·have e1 : (b0 != f0) = true := by simpa using hm0
   go_wp2_with fail
   refine Handed.intro (n - (k + 1)) (by have := hgk.out; omega) ?_
   go_step
   refine frm_meet (by kernel_rfl) ?_
   exact ⟨k + 1, rfl, by omega, ⟨rfl, rfl, rfl, rfl⟩, rfl, dx⟩
  ·have e1 : (b3 != f2) = true := by simpa using hm0
   go_wp2_with fail
   refine Handed.intro (n - (k + 1)) (by have := hgk.out; omega) ?_
   go_step
   refine frm_meet (by kernel_rfl) ?_
   exact ⟨k + 1, rfl, by omega, ⟨rfl, rfl, rfl, rfl⟩, rfl, dx⟩
 obtain rfl : k = n := by omega
 clear hgk hk
 have d1 : decide ((k : Int) < (k : Int)) = false := by simp
 have d2 : decide (k < k) = false := by simp
 have c6 := dx.dn.obj.cell 6
 have x0 := dx.bx.cell 0
 have x1 := dx.bx.cell 1
 have hrr := (hr.below dx.bel).more dx.bel.size
 have hbk := rBegins2_any ou l xA xn xc wr hrr hlc hcm hl
 rw [hbeg] at hbk
 replace hbk := Lib.hid hbk
 have hfr := frm_lit v
 rw [cm.v0, cm.v3, cm.v6, cm.v8, hv10] at hfr
 rw [hfr]
 clear hfr cm hv10
 go_wp2_with fail
 refine hbk.out.mono ?_
 rintro e W1 ⟨rfl, hb1⟩
 replace dx := dx.bel_ hb1
 clear hbk hb1 c6 x0 x1 hrr
 have x3 := dx.bx.cell 3
 clear x3
 go_wp2_with fail
 go_ret2
 exact ⟨_, _, rfl, Own.nil _ _ _ _, dx.dn, Upd.of_below dx.bel _, Keep8.of_below dx.bel⟩
theorem dStep_no (c : Cf) (base gd : Nat) (va : Value) (L : List Bd) (ou : Bool) (xA : Option Addr) (xn xc : Nat) (ti po : Int) (l : List Int) (w : World) (h : DN w base c gd va L) (hc : c.ok) (ht : 0 ≤ ti ∧ ti ≤ 4294967295) (hE : (whoP c.ou ou l).2 = 0) (hr : Rd .u8 w w.heap.size xA xn l) (hlc : xn ≤ xc) (hcm : xc ≤ 9223372036854775807) (hl : xn ≤ 60000) (hL : L.length ≤ 100000) (hmn : ∀ (j : Nat) y, L[j]? = some y → mt ou (whoP c.ou ou l).1 y = false) (hbeg : begP ou l = true) (R : Int) (hR : if po = -1 then R = 8 else if po = -2 then R = 9 else (placeP c (whoP c.ou ou l).1.pr po < 0 ∨ hasL (whoP c.ou ou l).1.pr po L = true) ∧ R = 1) :
  Calls Tryz.prog 37 #[.pointer (some ⟨gd, 0, none⟩), .agg (A13 ou xA xn xc ti po)] w (DStR w base c gd va (L, R, [])) := by
 replace hR := Lib.hid hR
 obtain ⟨n, hn⟩ : ∃ n, L.length = n := ⟨_, rfl⟩
 obtain ⟨A, cap, rfl, hnc, hcm2⟩ := h.row.form hn
 unfold maxLen at hcm2
 replace hmn := Lib.hid hmn
 have hfr0 := whoP_rng c.ou ou (l := l) (fun x hx => inr_u8 (hr.rng x hx))
 replace hfr0 := Lib.hid hfr0
 have kp := fun W (hr : Rd .u8 W W.heap.size xA xn l) => rPart_any l xA xn xc W hr hlc hcm hl
 unfold PartT at kp
 have hP1 : (partI l).1 = rdP l := (rdP_part (who_rdE hE)).symm
 rw [hP1] at kp
 generalize rdP l = P at *
 obtain ⟨pr, sr, ds, pf, ki, co, er, ⟨isz, i1, i2, i3, i4, i5⟩, pat, ba⟩ := P
 simp only [Pt.val] at kp
 obtain ⟨okp, hokp⟩ : ∃ o, (partI l).2 = o := ⟨_, rfl⟩
 rw [hokp] at kp
 clear hP1 hokp
 replace kp := Lib.hid kp
 have kw := fun W (hr : Rd .u8 W W.heap.size xA xn l) => rWhose_any c.wk c.ou c.lo c.hi c.bk c.rg ou l xA xn xc W hr hlc hcm hl
 unfold WhoR at kw
 generalize hwho : whoP c.ou ou l = R at *
 obtain ⟨⟨f0, f1, f2⟩, EE⟩ := R
 simp only [Fl.cs] at kw
 replace kw := Lib.hid kw
 replace hwho := Lib.hid hwho
 have d1 : decide (ti < 0) = false := by simp; omega
 have d2 : decide (4294967295 < ti) = false := by simp; omega
 go_enter Tryz.func37, Tryz.ntmps37
 go_upto_region 1 with fail
 have bx := Blk.new w 50 (A13 ou xA xn xc ti po)
 have bel := bel_alloc w (.cells (A13 ou xA xn xc ti po) 50)
 generalize w.alloc (.cells (A13 ou xA xn xc ti po) 50) = W at *
 have x2 := bx.cell 2
 go_upto_region 3 with fail
 clear x2
 have hdW := h.bel bel
 have z1 : ∀ w', (∃ t : Tw (Up W), w' = t.w) → ∀ j u, ([.int .i64 c.wk, .int .u32 c.ou, .int .i64 c.lo, .int .i64 c.hi, .int .i64 c.bk, .int .i64 c.rg] : List Value)[j]? = some u → w'.cell? ⟨gd, 0 + j, none⟩ = some u := fun w' ⟨t, ht⟩ => ht ▸ (hdW.bel t.h).cfg
 have z2 : ∀ t : Tw (Up W), t.w.cell? ⟨w.heap.size, 0, none⟩ = some (.bool ou) := fun t => (bx.bel t.h).cell 0
 have z3 : ∀ t : Tw (Up W), t.w.cell? ⟨w.heap.size, 1, none⟩ = some (.slice xA xn xc) := fun t => (bx.bel t.h).cell 1
 have zz := Up.one W
 have hrW := (hr.below bel).more bel.size
 refine wp_region_float (Up W) (.cells Z2 38) W.heap.size (fun h => .pointer (some ⟨h, 0, none⟩)) 12 _ [(0, true), (1, true), (2, true), (3, true), (4, true), (5, true), (6, true), (7, true), (8, false), (9, true), (10, true), (11, true)] [(13, false), (14, true)] (by kernel_rfl) (by kernel_rfl) (by rfl) (by rfl) (by kernel_rfl) (by kernel_rfl) (Below.refl _ _).drew (fun w' h => Below.alloc h (Below.size h) _) (fun w' h => Below.size h) (by intro a w; simp [execOp, go_sem]) ?_
 refine wpFl_qs 8 _ _ _ (by kernel_rfl) (by kernel_rfl) (by simp) ?_
 unfold clsS
 simp only [qq1, qq2, qq3, qq4, List.filterMap_cons, qq6, qq7, qq8, qq9]
 repeat (first
  | go_big_quiet_skip
  | (go_big_quiet_want; first | (refine quiet_ldAt rfl rfl z1 Tryz.underlying27 rcf_size ?_; go_simp; go_big_quiet_on) | (go_big_quiet_op; go_big_quiet_on))
  | (refine id (?_ : wpQuiet _ _ _ _ (_ :: _) _); first | go_big_quiet_skip | (go_big_quiet_want; first | (refine quiet_ldAt rfl rfl z1 Tryz.underlying27 rcf_size ?_; go_simp; go_big_quiet_on) | (go_big_quiet_op; go_big_quiet_on))))
 refine wpQuiet_nil ?_
 refine wpFl_e (fun _ => True) _ (by rfl) (by kernel_rfl) trivial (fun _ _ => trivial) (fun W1 _ hS1 K hK => ?_)
 go_simp
 refine (kw.out W1 ((hrW.below hS1).more (Below.size hS1))).mono ?_
 rintro e W2 ⟨rfl, hb2⟩
 refine hK _ _ (bel_after hS1 hb2) (KeepO.belM hb2) ?_
 clear hK K hb2 kw
 refine wpFl_qs 3 _ _ _ (by kernel_rfl) (by kernel_rfl) (by simp) ?_
 unfold clsS
 simp only [qq1, qq2, qq3, qq4, List.filterMap_cons, qq6, qq7, qq8, qq9]
 repeat (first | go_big_quiet_skip | (go_big_quiet_want; go_big_quiet_op; go_big_quiet_on) | refine id (?_ : wpQuiet _ _ _ _ (_ :: _) _))
 refine wpQuiet_nil ?_
 unfold wpFl
 refine ⟨fun _ => True, trivial, fun _ _ => trivial, fun W3 gf _ hS3 hgf hbf => ?_⟩
 clear hS1
 replace hbf : Blk W3 gf 38 Z2 := hbf
 go_simp
 refine wpPl_e _ (by rfl) (by kernel_rfl) (fun K hK => ?_)
 refine wp_stRow rfl rfl rfl rfl hbf rfl_size rfl (by simp [Value.oneCell']) ?_
 have bf := hbf.setRow (A11 f0 f1 f2)
 have hS4 := below_setRow hS3 hgf (A11 f0 f1 f2)
 refine hK _ _ hS4 ?_
 clear hK K hbf hS3 z1 z2 z3 zz hrW
 refine wpPl_qs 1 _ _ _ (by kernel_rfl) (by kernel_rfl) (by simp) ?_
 unfold clsS
 simp only [qq1, qq2, qq3, qq4, List.filterMap_cons, qq6, qq7, qq8, qq9]
 repeat (first | go_big_quiet_skip | (go_big_quiet_want; go_big_quiet_op; go_big_quiet_on) | refine id (?_ : wpQuiet _ _ _ _ (_ :: _) _))
 refine wpQuiet_nil ?_
 unfold wpPl
 refine NoPanic.normal ?_
 replace bx := bx.bel hS4
 replace bel := bel_after bel hS4
 replace hdW := hdW.bel hS4
 clear hS4
 generalize W3.setRow gf (A11 f0 f1 f2) = W4 at *
 simp only at hE hmn
 subst hE
 have hwf : IntKind.i64.wrap f2 = f2 := by have := inr_u16 hfr0.out.2.2; rw [IntKind.wrap_i64]; simp only at this; omega
 have hrW := (hr.below bel).more bel.size
 have x1 := bx.cell 1
 go_wp2_with fail
 refine (kp.out _ hrW).mono ?_
 rintro e W5 ⟨rfl, hb5⟩
 replace bx := bx.bel hb5
 replace bf := bf.bel hb5
 replace bel := bel_after bel hb5
 replace hdW := hdW.bel hb5
 clear hb5 kp x1 hrW
 have bp := (Blk.new W5 69 Z0).setRow (A0 pr sr ds pf ki co er isz i1 i2 i3 i4 i5 pat ba)
 have belp : Below W5.heap.size W5 ((W5.alloc (.cells Z0 69)).setRow W5.heap.size (A0 pr sr ds pf ki co er isz i1 i2 i3 i4 i5 pat ba)) := below_setRow (bel_alloc _ _) (Nat.le_refl _) _
 replace bx := bx.bel belp
 replace bf := bf.bel belp
 replace bel := bel_after bel belp
 replace hdW := hdW.bel belp
 clear belp
 go_upto_region 7 with (refine wpList_stRow rfl rfl rfl rfl rfl (Blk.new W5 _ _) rpt_size rfl (by simp [Value.oneCell']) ?_; generalize (W5.alloc (.cells Z0 69)).setRow W5.heap.size (A0 pr sr ds pf ki co er isz i1 i2 i3 i4 i5 pat ba) = W6 at *; generalize W5.heap.size = gp at *)
 have dx : DX w W6 base c gd _ L gf gp (A13 ou xA xn xc ti po) (A11 f0 f1 f2) (A0 pr sr ds pf ki co er isz i1 i2 i3 i4 i5 pat ba) := ⟨hdW, bx, bf, bp, bel⟩
 clear bx bf bp bel hdW
 go_upto_block 0 with fail
 go_wp2_with fail
 refine wp_loop_ghost_k (fun gk a' wr => ∃ v : Nat → Value, a' = ⟨(frm v).toArray, []⟩ ∧ ∃ k : Nat, gk = n - k ∧ k ≤ n ∧ DCom gd w.heap.size gf gp v ∧ v 10 = .int .i64 k ∧ DX w wr base c gd (.slice A n cap) L gf gp (A13 ou xA xn xc ti po) (A11 f0 f1 f2) (A0 pr sr ds pf ki co er isz i1 i2 i3 i4 i5 pat ba)) n ?_ ?_
 ·refine frm_meet (by kernel_rfl) ?_
  exact ⟨0, rfl, Nat.zero_le _, ⟨rfl, rfl, rfl, rfl⟩, rfl, dx⟩
 clear dx
 intro gk a' wr hrel _ _ _ _
 obtain ⟨v, rfl, k, hgk, hk, cm, hv10, dx⟩ := hrel
 by_cases hkn : k < n
 ·replace hgk := Lib.hid hgk
  have d1 : decide ((k : Int) < (n : Int)) = true := by simpa using hkn
  have d2 : decide (k < n) = true := by simpa using hkn
  obtain ⟨g, cc, hA, _, _, hgb1, hgl1, _⟩ := h.row.formG hn (by omega)
  simp only [Value.slice.injEq] at hA
  obtain ⟨rfl, _, rfl⟩ := hA
  obtain ⟨y, hy⟩ : ∃ y, L[k]? = some y := ⟨_, List.getElem?_eq_getElem (by omega)⟩
  have hcz : ∀ f u, (BdL y)[f]? = some u → wr.cell? ⟨g, k * 6 + f, none⟩ = some u := fun f u hu => dx.dn.row.at_ BdL_len hy hu
  have hm0 := mt_false (hmn.out k y hy)
  clear hy
  obtain ⟨⟨b0, b1, b2⟩, b3, b4, b5⟩ := y
  simp only [BdL] at hcz hm0
  have hfr := frm_lit v
  rw [cm.v0, cm.v3, cm.v6, cm.v8, hv10] at hfr
  rw [hfr]
  clear hfr cm hv10
  have c6 := dx.dn.obj.cell 6
  have k0 : (0 : Int) ≤ (k : Int) := by omega
  have k1 : (k : Int) < (n : Int) := by omega
  have bb := (Blk.new wr 92 Z3).setRow (A10 b0 b1 b2 b3 b4 b5)
  have belb : Below wr.heap.size wr ((wr.alloc (.cells Z3 92)).setRow wr.heap.size (A10 b0 b1 b2 b3 b4 b5)) := below_setRow (bel_alloc _ _) (Nat.le_refl _) _
  have hgb : w.heap.size ≤ wr.heap.size := dx.bel.size
  replace dx := dx.bel_ belb
  go_upto_region 11 with (first
   | (refine wpList_ldAt rfl rfl rfl hcz Tryz.underlying92 rbd_size ?_)
   | (refine wpList_stRow rfl rfl rfl rfl rfl (Blk.new wr _ _) rbd_size rfl (by simp [Value.oneCell']) ?_; generalize (wr.alloc (.cells Z3 92)).setRow wr.heap.size (A10 b0 b1 b2 b3 b4 b5) = W2 at *; generalize wr.heap.size = gb at *))
  clear hcz c6 belb
  have x0 := dx.bx.cell 0
  have y0 := dx.bf.cell 0
  have y1 := dx.bf.cell 1
  have y2 := dx.bf.cell 2
  have q0 := bb.cell 0
  have q1 := bb.cell 1
  have q2 := bb.cell 2
  have q3 := bb.cell 3
  clear h hgb1 hgl1 hmn
  rcases hm0 with ⟨rfl, hm0 | ⟨rfl, hm0⟩ | ⟨rfl, rfl, hm0⟩⟩ | ⟨rfl, hm0 | ⟨rfl, hm0⟩⟩
  ·have e1 : (b0 == f0) = false := by simpa using hm0
   go_wp2_with fail
   refine Handed.intro (n - (k + 1)) (by have := hgk.out; omega) ?_
   go_step
   refine frm_meet (by kernel_rfl) ?_
   exact ⟨k + 1, rfl, by omega, ⟨rfl, rfl, rfl, rfl⟩, rfl, dx⟩
  ·have e1 : (b1 == f1) = false := by simpa using hm0
   go_wp2_with fail
   refine Handed.intro (n - (k + 1)) (by have := hgk.out; omega) ?_
   go_step
   refine frm_meet (by kernel_rfl) ?_
   exact ⟨k + 1, rfl, by omega, ⟨rfl, rfl, rfl, rfl⟩, rfl, dx⟩
  ·have e1 : (b2 == f2) = false := by simpa using hm0
   go_wp2_with fail
   refine Handed.intro (n - (k + 1)) (by have := hgk.out; omega) ?_
   go_step
   refine frm_meet (by kernel_rfl) ?_
   exact ⟨k + 1, rfl, by omega, ⟨rfl, rfl, rfl, rfl⟩, rfl, dx⟩
  ·have e1 : (b0 != f0) = true := by simpa using hm0
   go_wp2_with fail
   refine Handed.intro (n - (k + 1)) (by have := hgk.out; omega) ?_
   go_step
   refine frm_meet (by kernel_rfl) ?_
   exact ⟨k + 1, rfl, by omega, ⟨rfl, rfl, rfl, rfl⟩, rfl, dx⟩
  ·have e1 : (b3 != f2) = true := by simpa using hm0
   go_wp2_with fail
   refine Handed.intro (n - (k + 1)) (by have := hgk.out; omega) ?_
   go_step
   refine frm_meet (by kernel_rfl) ?_
   exact ⟨k + 1, rfl, by omega, ⟨rfl, rfl, rfl, rfl⟩, rfl, dx⟩
 obtain rfl : k = n := by omega
 clear hgk hk
 have d1 : decide ((k : Int) < (k : Int)) = false := by simp
 have d2 : decide (k < k) = false := by simp
 have c6 := dx.dn.obj.cell 6
 have x0 := dx.bx.cell 0
 have x1 := dx.bx.cell 1
 have hrr := (hr.below dx.bel).more dx.bel.size
 have hbk := rBegins2_any ou l xA xn xc wr hrr hlc hcm hl
 rw [hbeg] at hbk
 replace hbk := Lib.hid hbk
 have hfr := frm_lit v
 rw [cm.v0, cm.v3, cm.v6, cm.v8, hv10] at hfr
 rw [hfr]
 clear hfr cm hv10
 go_wp2_with fail
 refine hbk.out.mono ?_
 rintro e W1 ⟨rfl, hb1⟩
 replace dx := dx.bel_ hb1
 clear hbk hb1 c6 x0 x1 hrr
 have x3 := dx.bx.cell 3
 replace hR := hR.out
 by_cases h1 : po = -1
 ·rw [if_pos h1] at hR
  subst h1 hR
  go_wp2_with fail
  go_ret2
  exact ⟨_, _, rfl, Own.nil _ _ _ _, dx.dn, Upd.of_below dx.bel _, Keep8.of_below dx.bel⟩
 rw [if_neg h1] at hR
 have e1 : (po == -1) = false := by simpa using h1
 by_cases h2 : po = -2
 ·rw [if_pos h2] at hR
  subst h2 hR
  go_wp2_with fail
  go_ret2
  exact ⟨_, _, rfl, Own.nil _ _ _ _, dx.dn, Upd.of_below dx.bel _, Keep8.of_below dx.bel⟩
 rw [if_neg h2] at hR
 have e2 : (po == -2) = false := by simpa using h2
 obtain ⟨hR, rfl⟩ := hR
 clear h1 h2
 obtain ⟨PL, hPL⟩ : ∃ PL, placeP c f0 po = PL := ⟨_, rfl⟩
 have kP := fun W => rPlace_ok c f0 po W hc
 rw [hPL] at kP
 replace kP := Lib.hid kP
 replace hPL := Lib.hid hPL
 go_upto_region 26 with fail
 clear x3
 have z1 : ∀ w', (∃ t : Tw (Up W1), w' = t.w) → ∀ j u, ([.int .i64 c.wk, .int .u32 c.ou, .int .i64 c.lo, .int .i64 c.hi, .int .i64 c.bk, .int .i64 c.rg] : List Value)[j]? = some u → w'.cell? ⟨gd, 0 + j, none⟩ = some u := fun w' ⟨t, ht⟩ => ht ▸ (dx.dn.bel t.h).cfg
 have z0 : ∀ t : Tw (Up W1), t.w.cell? ⟨gf, 0, none⟩ = some (.int .i64 f0) := fun t => (dx.bf.bel t.h).cell 0
 have z3 : ∀ t : Tw (Up W1), t.w.cell? ⟨w.heap.size, 3, none⟩ = some (.int .i64 po) := fun t => (dx.bx.bel t.h).cell 3
 have zp : ∀ t : Tw (Up W1), Calls Tryz.prog 65 #[.agg (A8 c.wk c.ou c.lo c.hi c.bk c.rg), .int .i64 f0, .int .i64 po] t.w fun e w' => e = .returned (.int .i64 PL) ∧ Below t.w.heap.size t.w w' := fun t => kP.out t.w
 have zz := Up.one W1
 replace zp := Lib.hid zp
 refine region_tw (Up W1) (by kernel_rfl) (by kernel_rfl) (Below.refl _ _).drew ?_
 unfold clsS
 repeat (first
  | go_big_quiet_skip
  | (go_big_quiet_want; go_big_quiet_op; first | go_big_quiet_on | go_big_quiet_call (exact q_tw (Nat.le_refl _) (zp.out _))))
 go_big_quiet_want
 refine quiet_ldAt rfl rfl z1 Tryz.underlying27 rcf_size ?_
 go_simp
 go_big_quiet_on
 repeat (first
  | go_big_quiet_skip
  | (go_big_quiet_want; go_big_quiet_op; first | go_big_quiet_on | go_big_quiet_call (exact q_tw (Nat.le_refl _) (zp.out _))))
 refine wpQuiet_nil ?_
 intro tq
 replace dx := dx.bel_ tq.h
 clear z1 z0 z3 zp zz
 generalize tq.w = W2 at *
 clear tq
 rw [hPL.out] at hR
 by_cases h3 : PL < 0
 ·have e3 : decide (PL < 0) = true := by simpa using h3
  clear h3 hR
  go_wp2_with fail
  go_ret2
  exact ⟨_, _, rfl, Own.nil _ _ _ _, dx.dn, Upd.of_below dx.bel _, Keep8.of_below dx.bel⟩
 ·have e3 : decide (PL < 0) = false := by simpa using h3
  have hh : hasL f0 po L = true := by
   rcases hR with hR | hR
   ·exact absurd hR h3
   ·exact hR
  have kh := rHas_any c.wk c.ou c.lo c.hi c.bk c.rg A k cap gd L f0 po W2 dx.dn.obj (dx.dn.row.rd BdL_len rfl hn) (by omega)
  rw [hh] at kh
  replace kh := Lib.hid kh
  clear h3 hR hh
  have y0 := dx.bf.cell 0
  have x3 := dx.bx.cell 3
  go_wp2_with fail
  refine kh.out.mono ?_
  rintro e w' ⟨rfl, rfl⟩
  go_wp2_with fail
  go_ret2
  exact ⟨_, _, rfl, Own.nil _ _ _ _, dx.dn, Upd.of_below dx.bel _, Keep8.of_below dx.bel⟩
structure DZ (w W : World) (base : Nat) (c : Cf) (gd : Nat) (va : Value) (L : List Bd) (gb : Nat) (xv bv : Array Value) (rv : Value) (T : List Bd) : Prop where
 dn : DN W base c gd va L
 bx : Blk W w.heap.size 50 xv
 bb : Blk W gb 92 bv
 bel : Below w.heap.size w W
 row : OwnT BdL 6 92 W w.heap.size rv T
section
variable {w W W' : World} {base : Nat} {c : Cf} {gd : Nat} {va : Value} {L : List Bd} {gb : Nat} {xv bv : Array Value} {rv : Value} {T : List Bd}
theorem DZ.bel_ (h : DZ w W base c gd va L gb xv bv rv T) (hb : Below W.heap.size W W') : DZ w W' base c gd va L gb xv bv rv T :=
 ⟨h.dn.bel hb, h.bx.bel hb, h.bb.bel hb, bel_after h.bel hb, h.row.below hb⟩
theorem DZ.grown (h : DZ w W base c gd va L gb xv bv rv T) (hgb : ∀ g, rv.ownBlock = some g → g ≠ gb) (hgd : gd < w.heap.size) (hva : ∀ g, va.ownBlock = some g → g < w.heap.size) (hx : w.heap.size < W.heap.size) {rv' : Value} {T' : List Bd} (ho : OwnT BdL 6 92 W' w.heap.size rv' T') (hg : W.grownBy W' rv.ownBlock) : DZ w W' base c gd va L gb xv bv rv' T' := by
 have hlt := h.row.lt
 have key : ∀ k, k < w.heap.size → rv.ownBlock ≠ some k := fun k hk e => by have := (hlt k e).1; omega
 refine ⟨⟨h.dn.obj.grown hg (key gd hgd), h.dn.row.keep hg ?_⟩, h.bx.grown hg (fun e => ?_), h.bb.grown hg (fun e => hgb gb e rfl), h.bel.grown hg (Nat.le_of_lt hx) (fun k e => (hlt k e).1), ho⟩
 ·cases hv : va.ownBlock with
  | none => exact .inl rfl
  | some g => exact .inr (fun e => key g (hva g hv) e.symm)
 ·rcases h.row.row.2 with ⟨hv, _⟩ | ⟨g', cap, cur, hv, _, hgg, _⟩
  ·rw [hv] at e; simp [Value.ownBlock] at e
  ·rw [hv] at e
   simp only [Value.ownBlock, Option.some.injEq] at e
   subst e
   exact h.bx.ne_ (g' := w.heap.size) (cs' := cur) hgg (by decide) rfl
end
structure ICom (gd gx : Nat) (PL : Int) (gb : Nat) (v : Nat → Value) : Prop where
 v0 : v 0 = .pointer (some ⟨gd, 0, none⟩)
 v3 : v 3 = .pointer (some ⟨gx, 0, none⟩)
 v12 : v 12 = .int .i64 PL
 v14 : v 14 = .pointer (some ⟨gb, 0, none⟩)
theorem dStep_new (c : Cf) (base gd : Nat) (va : Value) (L : List Bd) (ou : Bool) (xA : Option Addr) (xn xc : Nat) (ti po : Int) (l : List Int) (w : World) (h : DN w base c gd va L) (hc : c.ok) (ht : 0 ≤ ti ∧ ti ≤ 4294967295) (hE : (whoP c.ou ou l).2 = 0) (hr : Rd .u8 w w.heap.size xA xn l) (hlc : xn ≤ xc) (hcm : xc ≤ 9223372036854775807) (hl : xn ≤ 60000) (hL : L.length ≤ 100000) (hmn : ∀ (j : Nat) y, L[j]? = some y → mt ou (whoP c.ou ou l).1 y = false) (hou : 0 ≤ c.ou ∧ c.ou ≤ 4294967295) (hbase : base ≤ w.heap.size) (hfr : (whoP c.ou ou l).1.rng) (hbeg : begP ou l = true) (h1 : po ≠ -1) (h2 : po ≠ -2) (h3 : 0 ≤ placeP c (whoP c.ou ou l).1.pr po) (h4 : hasL (whoP c.ou ou l).1.pr po L = false) :
  Calls Tryz.prog 37 #[.pointer (some ⟨gd, 0, none⟩), .agg (A13 ou xA xn xc ti po)] w (DStR w base c gd va (insB c ⟨(whoP c.ou ou l).1, po, nxt (whoP c.ou ou l).1.pr 0 true (fb (rdP l).flags 4) (fb (rdP l).flags 1) (fb (rdP l).flags 2) (fb (rdP l).flags 16), ti⟩ L, rwE l, rwL l true c.ou po)) := by
 obtain ⟨i0, hi, hz0, hz1, hz2⟩ := info_parts rbd_info
 have hpp := placeP_port hc h3
 obtain ⟨RR, hRR⟩ : ∃ RR : List Bd × Int × List Int, (insB c ⟨(whoP c.ou ou l).1, po, nxt (whoP c.ou ou l).1.pr 0 true (fb (rdP l).flags 4) (fb (rdP l).flags 1) (fb (rdP l).flags 2) (fb (rdP l).flags 16), ti⟩ L, rwE l, rwL l true c.ou po) = RR := ⟨_, rfl⟩
 rw [hRR]
 replace hRR := Lib.hid hRR
 have hrow0 := fun g e => (h.row.lt g e).2
 have hgd0 := h.obj.lt
 replace hrow0 := Lib.hid hrow0
 obtain ⟨n, hn⟩ : ∃ n, L.length = n := ⟨_, rfl⟩
 obtain ⟨A, cap, rfl, hnc, hcm2⟩ := h.row.form hn
 unfold maxLen at hcm2
 replace hmn := Lib.hid hmn
 have hfr0 := whoP_rng c.ou ou (l := l) (fun x hx => inr_u8 (hr.rng x hx))
 replace hfr0 := Lib.hid hfr0
 have kp := fun W (hr : Rd .u8 W W.heap.size xA xn l) => rPart_any l xA xn xc W hr hlc hcm hl
 unfold PartT at kp
 have hP1 : (partI l).1 = rdP l := (rdP_part (who_rdE hE)).symm
 rw [hP1] at kp
 generalize rdP l = P at *
 obtain ⟨pr, sr, ds, pf, ki, co, er, ⟨isz, i1, i2, i3, i4, i5⟩, pat, ba⟩ := P
 simp only [Pt.val] at kp
 obtain ⟨okp, hokp⟩ : ∃ o, (partI l).2 = o := ⟨_, rfl⟩
 rw [hokp] at kp
 clear hP1 hokp
 replace kp := Lib.hid kp
 have kw := fun W (hr : Rd .u8 W W.heap.size xA xn l) => rWhose_any c.wk c.ou c.lo c.hi c.bk c.rg ou l xA xn xc W hr hlc hcm hl
 unfold WhoR at kw
 generalize hwho : whoP c.ou ou l = R at *
 obtain ⟨⟨f0, f1, f2⟩, EE⟩ := R
 simp only [Fl.cs] at kw
 replace kw := Lib.hid kw
 replace hwho := Lib.hid hwho
 have d1 : decide (ti < 0) = false := by simp; omega
 have d2 : decide (4294967295 < ti) = false := by simp; omega
 go_enter Tryz.func37, Tryz.ntmps37
 go_upto_region 1 with fail
 have bx := Blk.new w 50 (A13 ou xA xn xc ti po)
 have bel := bel_alloc w (.cells (A13 ou xA xn xc ti po) 50)
 generalize w.alloc (.cells (A13 ou xA xn xc ti po) 50) = W at *
 have x2 := bx.cell 2
 go_upto_region 3 with fail
 clear x2
 have hdW := h.bel bel
 have z1 : ∀ w', (∃ t : Tw (Up W), w' = t.w) → ∀ j u, ([.int .i64 c.wk, .int .u32 c.ou, .int .i64 c.lo, .int .i64 c.hi, .int .i64 c.bk, .int .i64 c.rg] : List Value)[j]? = some u → w'.cell? ⟨gd, 0 + j, none⟩ = some u := fun w' ⟨t, ht⟩ => ht ▸ (hdW.bel t.h).cfg
 have z2 : ∀ t : Tw (Up W), t.w.cell? ⟨w.heap.size, 0, none⟩ = some (.bool ou) := fun t => (bx.bel t.h).cell 0
 have z3 : ∀ t : Tw (Up W), t.w.cell? ⟨w.heap.size, 1, none⟩ = some (.slice xA xn xc) := fun t => (bx.bel t.h).cell 1
 have zz := Up.one W
 have hrW := (hr.below bel).more bel.size
 refine wp_region_float (Up W) (.cells Z2 38) W.heap.size (fun h => .pointer (some ⟨h, 0, none⟩)) 12 _ [(0, true), (1, true), (2, true), (3, true), (4, true), (5, true), (6, true), (7, true), (8, false), (9, true), (10, true), (11, true)] [(13, false), (14, true)] (by kernel_rfl) (by kernel_rfl) (by rfl) (by rfl) (by kernel_rfl) (by kernel_rfl) (Below.refl _ _).drew (fun w' h => Below.alloc h (Below.size h) _) (fun w' h => Below.size h) (by intro a w; simp [execOp, go_sem]) ?_
 refine wpFl_qs 8 _ _ _ (by kernel_rfl) (by kernel_rfl) (by simp) ?_
 unfold clsS
 simp only [qq1, qq2, qq3, qq4, List.filterMap_cons, qq6, qq7, qq8, qq9]
 repeat (first
  | go_big_quiet_skip
  | (go_big_quiet_want; first | (refine quiet_ldAt rfl rfl z1 Tryz.underlying27 rcf_size ?_; go_simp; go_big_quiet_on) | (go_big_quiet_op; go_big_quiet_on))
  | (refine id (?_ : wpQuiet _ _ _ _ (_ :: _) _); first | go_big_quiet_skip | (go_big_quiet_want; first | (refine quiet_ldAt rfl rfl z1 Tryz.underlying27 rcf_size ?_; go_simp; go_big_quiet_on) | (go_big_quiet_op; go_big_quiet_on))))
 refine wpQuiet_nil ?_
 refine wpFl_e (fun _ => True) _ (by rfl) (by kernel_rfl) trivial (fun _ _ => trivial) (fun W1 _ hS1 K hK => ?_)
 go_simp
 refine (kw.out W1 ((hrW.below hS1).more (Below.size hS1))).mono ?_
 rintro e W2 ⟨rfl, hb2⟩
 refine hK _ _ (bel_after hS1 hb2) (KeepO.belM hb2) ?_
 clear hK K hb2 kw
 refine wpFl_qs 3 _ _ _ (by kernel_rfl) (by kernel_rfl) (by simp) ?_
 unfold clsS
 simp only [qq1, qq2, qq3, qq4, List.filterMap_cons, qq6, qq7, qq8, qq9]
 repeat (first | go_big_quiet_skip | (go_big_quiet_want; go_big_quiet_op; go_big_quiet_on) | refine id (?_ : wpQuiet _ _ _ _ (_ :: _) _))
 refine wpQuiet_nil ?_
 unfold wpFl
 refine ⟨fun _ => True, trivial, fun _ _ => trivial, fun W3 gf _ hS3 hgf hbf => ?_⟩
 clear hS1
 replace hbf : Blk W3 gf 38 Z2 := hbf
 go_simp
 refine wpPl_e _ (by rfl) (by kernel_rfl) (fun K hK => ?_)
 refine wp_stRow rfl rfl rfl rfl hbf rfl_size rfl (by simp [Value.oneCell']) ?_
 have bf := hbf.setRow (A11 f0 f1 f2)
 have hS4 := below_setRow hS3 hgf (A11 f0 f1 f2)
 refine hK _ _ hS4 ?_
 clear hK K hbf hS3 z1 z2 z3 zz hrW
 refine wpPl_qs 1 _ _ _ (by kernel_rfl) (by kernel_rfl) (by simp) ?_
 unfold clsS
 simp only [qq1, qq2, qq3, qq4, List.filterMap_cons, qq6, qq7, qq8, qq9]
 repeat (first | go_big_quiet_skip | (go_big_quiet_want; go_big_quiet_op; go_big_quiet_on) | refine id (?_ : wpQuiet _ _ _ _ (_ :: _) _))
 refine wpQuiet_nil ?_
 unfold wpPl
 refine NoPanic.normal ?_
 replace bx := bx.bel hS4
 replace bel := bel_after bel hS4
 replace hdW := hdW.bel hS4
 clear hS4
 generalize W3.setRow gf (A11 f0 f1 f2) = W4 at *
 simp only at hE hmn
 subst hE
 have hwf : IntKind.i64.wrap f2 = f2 := by have := inr_u16 hfr0.out.2.2; rw [IntKind.wrap_i64]; simp only at this; omega
 have hrW := (hr.below bel).more bel.size
 have x1 := bx.cell 1
 go_wp2_with fail
 refine (kp.out _ hrW).mono ?_
 rintro e W5 ⟨rfl, hb5⟩
 replace bx := bx.bel hb5
 replace bf := bf.bel hb5
 replace bel := bel_after bel hb5
 replace hdW := hdW.bel hb5
 clear hb5 kp x1 hrW
 have bp := (Blk.new W5 69 Z0).setRow (A0 pr sr ds pf ki co er isz i1 i2 i3 i4 i5 pat ba)
 have belp : Below W5.heap.size W5 ((W5.alloc (.cells Z0 69)).setRow W5.heap.size (A0 pr sr ds pf ki co er isz i1 i2 i3 i4 i5 pat ba)) := below_setRow (bel_alloc _ _) (Nat.le_refl _) _
 replace bx := bx.bel belp
 replace bf := bf.bel belp
 replace bel := bel_after bel belp
 replace hdW := hdW.bel belp
 clear belp
 go_upto_region 7 with (refine wpList_stRow rfl rfl rfl rfl rfl (Blk.new W5 _ _) rpt_size rfl (by simp [Value.oneCell']) ?_; generalize (W5.alloc (.cells Z0 69)).setRow W5.heap.size (A0 pr sr ds pf ki co er isz i1 i2 i3 i4 i5 pat ba) = W6 at *; generalize W5.heap.size = gp at *)
 have dx : DX w W6 base c gd _ L gf gp (A13 ou xA xn xc ti po) (A11 f0 f1 f2) (A0 pr sr ds pf ki co er isz i1 i2 i3 i4 i5 pat ba) := ⟨hdW, bx, bf, bp, bel⟩
 clear bx bf bp bel hdW
 go_upto_block 0 with fail
 go_wp2_with fail
 refine wp_loop_ghost_k (fun gk a' wr => ∃ v : Nat → Value, a' = ⟨(frm v).toArray, []⟩ ∧ ∃ k : Nat, gk = n - k ∧ k ≤ n ∧ DCom gd w.heap.size gf gp v ∧ v 10 = .int .i64 k ∧ DX w wr base c gd (.slice A n cap) L gf gp (A13 ou xA xn xc ti po) (A11 f0 f1 f2) (A0 pr sr ds pf ki co er isz i1 i2 i3 i4 i5 pat ba)) n ?_ ?_
 ·refine frm_meet (by kernel_rfl) ?_
  exact ⟨0, rfl, Nat.zero_le _, ⟨rfl, rfl, rfl, rfl⟩, rfl, dx⟩
 clear dx
 intro gk a' wr hrel _ _ _ _
 obtain ⟨v, rfl, k, hgk, hk, cm, hv10, dx⟩ := hrel
 by_cases hkn : k < n
 ·replace hgk := Lib.hid hgk
  have d1 : decide ((k : Int) < (n : Int)) = true := by simpa using hkn
  have d2 : decide (k < n) = true := by simpa using hkn
  obtain ⟨g, cc, hA, _, _, hgb1, hgl1, _⟩ := h.row.formG hn (by omega)
  simp only [Value.slice.injEq] at hA
  obtain ⟨rfl, _, rfl⟩ := hA
  obtain ⟨y, hy⟩ : ∃ y, L[k]? = some y := ⟨_, List.getElem?_eq_getElem (by omega)⟩
  have hcz : ∀ f u, (BdL y)[f]? = some u → wr.cell? ⟨g, k * 6 + f, none⟩ = some u := fun f u hu => dx.dn.row.at_ BdL_len hy hu
  have hm0 := mt_false (hmn.out k y hy)
  clear hy
  obtain ⟨⟨b0, b1, b2⟩, b3, b4, b5⟩ := y
  simp only [BdL] at hcz hm0
  have hfr := frm_lit v
  rw [cm.v0, cm.v3, cm.v6, cm.v8, hv10] at hfr
  rw [hfr]
  clear hfr cm hv10
  have c6 := dx.dn.obj.cell 6
  have k0 : (0 : Int) ≤ (k : Int) := by omega
  have k1 : (k : Int) < (n : Int) := by omega
  have bb := (Blk.new wr 92 Z3).setRow (A10 b0 b1 b2 b3 b4 b5)
  have belb : Below wr.heap.size wr ((wr.alloc (.cells Z3 92)).setRow wr.heap.size (A10 b0 b1 b2 b3 b4 b5)) := below_setRow (bel_alloc _ _) (Nat.le_refl _) _
  have hgb : w.heap.size ≤ wr.heap.size := dx.bel.size
  replace dx := dx.bel_ belb
  go_upto_region 11 with (first
   | (refine wpList_ldAt rfl rfl rfl hcz Tryz.underlying92 rbd_size ?_)
   | (refine wpList_stRow rfl rfl rfl rfl rfl (Blk.new wr _ _) rbd_size rfl (by simp [Value.oneCell']) ?_; generalize (wr.alloc (.cells Z3 92)).setRow wr.heap.size (A10 b0 b1 b2 b3 b4 b5) = W2 at *; generalize wr.heap.size = gb at *))
  clear hcz c6 belb
  have x0 := dx.bx.cell 0
  have y0 := dx.bf.cell 0
  have y1 := dx.bf.cell 1
  have y2 := dx.bf.cell 2
  have q0 := bb.cell 0
  have q1 := bb.cell 1
  have q2 := bb.cell 2
  have q3 := bb.cell 3
  clear h hgb1 hgl1 hmn
  rcases hm0 with ⟨rfl, hm0 | ⟨rfl, hm0⟩ | ⟨rfl, rfl, hm0⟩⟩ | ⟨rfl, hm0 | ⟨rfl, hm0⟩⟩
  ·have e1 : (b0 == f0) = false := by simpa using hm0
   go_wp2_with fail
   refine Handed.intro (n - (k + 1)) (by have := hgk.out; omega) ?_
   go_step
   refine frm_meet (by kernel_rfl) ?_
   exact ⟨k + 1, rfl, by omega, ⟨rfl, rfl, rfl, rfl⟩, rfl, dx⟩
  ·have e1 : (b1 == f1) = false := by simpa using hm0
   go_wp2_with fail
   refine Handed.intro (n - (k + 1)) (by have := hgk.out; omega) ?_
   go_step
   refine frm_meet (by kernel_rfl) ?_
   exact ⟨k + 1, rfl, by omega, ⟨rfl, rfl, rfl, rfl⟩, rfl, dx⟩
  ·have e1 : (b2 == f2) = false := by simpa using hm0
   go_wp2_with fail
   refine Handed.intro (n - (k + 1)) (by have := hgk.out; omega) ?_
   go_step
   refine frm_meet (by kernel_rfl) ?_
   exact ⟨k + 1, rfl, by omega, ⟨rfl, rfl, rfl, rfl⟩, rfl, dx⟩
  ·have e1 : (b0 != f0) = true := by simpa using hm0
   go_wp2_with fail
   refine Handed.intro (n - (k + 1)) (by have := hgk.out; omega) ?_
   go_step
   refine frm_meet (by kernel_rfl) ?_
   exact ⟨k + 1, rfl, by omega, ⟨rfl, rfl, rfl, rfl⟩, rfl, dx⟩
  ·have e1 : (b3 != f2) = true := by simpa using hm0
   go_wp2_with fail
   refine Handed.intro (n - (k + 1)) (by have := hgk.out; omega) ?_
   go_step
   refine frm_meet (by kernel_rfl) ?_
   exact ⟨k + 1, rfl, by omega, ⟨rfl, rfl, rfl, rfl⟩, rfl, dx⟩
 obtain rfl : k = n := by omega
 clear hgk hk
 have d1 : decide ((k : Int) < (k : Int)) = false := by simp
 have d2 : decide (k < k) = false := by simp
 have c6 := dx.dn.obj.cell 6
 have x0 := dx.bx.cell 0
 have x1 := dx.bx.cell 1
 have hrr := (hr.below dx.bel).more dx.bel.size
 have hbk := rBegins2_any ou l xA xn xc wr hrr hlc hcm hl
 rw [hbeg] at hbk
 replace hbk := Lib.hid hbk
 have hfr := frm_lit v
 rw [cm.v0, cm.v3, cm.v6, cm.v8, hv10] at hfr
 rw [hfr]
 clear hfr cm hv10
 go_wp2_with fail
 refine hbk.out.mono ?_
 rintro e W1 ⟨rfl, hb1⟩
 replace dx := dx.bel_ hb1
 clear hbk hb1 c6 x0 x1 hrr
 have x3 := dx.bx.cell 3
 try simp only at h3 h4 hfr
 have e1 : (po == -1) = false := by simpa using h1
 have e2 : (po == -2) = false := by simpa using h2
 clear h1 h2
 obtain ⟨PL, hPL⟩ : ∃ PL, placeP c f0 po = PL := ⟨_, rfl⟩
 have kP := fun W => rPlace_ok c f0 po W hc
 rw [hPL] at kP
 replace kP := Lib.hid kP
 replace hPL := Lib.hid hPL
 go_upto_region 26 with fail
 clear x3
 have z1 : ∀ w', (∃ t : Tw (Up W1), w' = t.w) → ∀ j u, ([.int .i64 c.wk, .int .u32 c.ou, .int .i64 c.lo, .int .i64 c.hi, .int .i64 c.bk, .int .i64 c.rg] : List Value)[j]? = some u → w'.cell? ⟨gd, 0 + j, none⟩ = some u := fun w' ⟨t, ht⟩ => ht ▸ (dx.dn.bel t.h).cfg
 have z0 : ∀ t : Tw (Up W1), t.w.cell? ⟨gf, 0, none⟩ = some (.int .i64 f0) := fun t => (dx.bf.bel t.h).cell 0
 have z3 : ∀ t : Tw (Up W1), t.w.cell? ⟨w.heap.size, 3, none⟩ = some (.int .i64 po) := fun t => (dx.bx.bel t.h).cell 3
 have zp : ∀ t : Tw (Up W1), Calls Tryz.prog 65 #[.agg (A8 c.wk c.ou c.lo c.hi c.bk c.rg), .int .i64 f0, .int .i64 po] t.w fun e w' => e = .returned (.int .i64 PL) ∧ Below t.w.heap.size t.w w' := fun t => kP.out t.w
 have zz := Up.one W1
 replace zp := Lib.hid zp
 refine region_tw (Up W1) (by kernel_rfl) (by kernel_rfl) (Below.refl _ _).drew ?_
 unfold clsS
 repeat (first
  | go_big_quiet_skip
  | (go_big_quiet_want; go_big_quiet_op; first | go_big_quiet_on | go_big_quiet_call (exact q_tw (Nat.le_refl _) (zp.out _))))
 go_big_quiet_want
 refine quiet_ldAt rfl rfl z1 Tryz.underlying27 rcf_size ?_
 go_simp
 go_big_quiet_on
 repeat (first
  | go_big_quiet_skip
  | (go_big_quiet_want; go_big_quiet_op; first | go_big_quiet_on | go_big_quiet_call (exact q_tw (Nat.le_refl _) (zp.out _))))
 refine wpQuiet_nil ?_
 intro tq
 replace dx := dx.bel_ tq.h
 clear z1 z0 z3 zp zz
 generalize tq.w = W2 at *
 clear tq
 rw [hPL.out] at h3
 have e3 : decide (PL < 0) = false := by simp; omega
 have kh := rHas_any c.wk c.ou c.lo c.hi c.bk c.rg A k cap gd L f0 po W2 dx.dn.obj (dx.dn.row.rd BdL_len rfl hn) (by omega)
 rw [h4] at kh
 replace kh := Lib.hid kh
 clear h3 h4
 have y0 := dx.bf.cell 0
 have x3 := dx.bx.cell 3
 go_wp2_with fail
 refine kh.out.mono ?_
 rintro e w' ⟨rfl, rfl⟩
 clear y0 x3 kh
 go_upto_region 30 with fail
 have kn := fun W => rNext_any f0 0 true pf W
 obtain ⟨nx, hnx⟩ : ∃ nx, nxt f0 0 true (fb pf 4) (fb pf 1) (fb pf 2) (fb pf 16) = nx := ⟨_, rfl⟩
 rw [hnx] at kn
 replace hnx := Lib.hid hnx
 replace kn := Lib.hid kn
 have zf : ∀ w', (∃ t : Tw (Up W2), w' = t.w) → Blk w' gf 38 (A11 f0 f1 f2) := fun w' ⟨t, ht⟩ => ht ▸ dx.bf.bel t.h
 have z0 : ∀ t : Tw (Up W2), t.w.cell? ⟨gf, 0, none⟩ = some (.int .i64 f0) := fun t => (dx.bf.bel t.h).cell 0
 have z2 : ∀ t : Tw (Up W2), t.w.cell? ⟨w.heap.size, 2, none⟩ = some (.int .i64 ti) := fun t => (dx.bx.bel t.h).cell 2
 have z3 : ∀ t : Tw (Up W2), t.w.cell? ⟨w.heap.size, 3, none⟩ = some (.int .i64 po) := fun t => (dx.bx.bel t.h).cell 3
 have zq : ∀ t : Tw (Up W2), t.w.cell? ⟨gp, 3, none⟩ = some (.int .i64 pf) := fun t => (dx.bp.bel t.h).cell 3
 have zz := Up.one W2
 refine wp_region_float (Up W2) (.cells Z3 92) W2.heap.size (fun h => .pointer (some ⟨h, 0, none⟩)) 11 _ [(0, true), (1, true), (2, true), (3, true), (4, true), (5, true), (6, true), (8, true), (9, true), (7, false), (10, true)] [(12, false)] (by kernel_rfl) (by kernel_rfl) (by rfl) (by rfl) (by kernel_rfl) (by kernel_rfl) (Below.refl _ _).drew (fun w' h => Below.alloc h (Below.size h) _) (fun w' h => Below.size h) (by intro a w; simp [execOp, go_sem]) ?_
 refine wpFl_qs 9 _ _ _ (by kernel_rfl) (by kernel_rfl) (by simp) ?_
 unfold clsS
 simp only [qq1, qq2, qq3, qq4, List.filterMap_cons, qq6, qq7, qq8, qq9]
 repeat (first
  | go_big_quiet_skip
  | (go_big_quiet_want; first | (refine quiet_ldRow rfl rfl zf Tryz.underlying38 rfl_size ?_; go_simp; go_big_quiet_on) | (go_big_quiet_op; go_big_quiet_on))
  | (refine id (?_ : wpQuiet _ _ _ _ (_ :: _) _); first | go_big_quiet_skip | (go_big_quiet_want; first | (refine quiet_ldRow rfl rfl zf Tryz.underlying38 rfl_size ?_; go_simp; go_big_quiet_on) | (go_big_quiet_op; go_big_quiet_on))))
 refine wpQuiet_nil ?_
 refine wpFl_e (fun _ => True) _ (by rfl) (by kernel_rfl) trivial (fun _ _ => trivial) (fun W3 _ hS3 K hK => ?_)
 go_simp
 refine (kn.out W3).mono ?_
 rintro e W4 ⟨rfl, rfl⟩
 refine hK _ _ hS3 (KeepO.belM (Below.refl _ _)) ?_
 clear hK K kn
 refine wpFl_qs 1 _ _ _ (by kernel_rfl) (by kernel_rfl) (by simp) ?_
 unfold clsS
 simp only [qq1, qq2, qq3, qq4, List.filterMap_cons, qq6, qq7, qq8, qq9]
 repeat (first | go_big_quiet_skip | (go_big_quiet_want; go_big_quiet_op; go_big_quiet_on) | refine id (?_ : wpQuiet _ _ _ _ (_ :: _) _))
 refine wpQuiet_nil ?_
 unfold wpFl
 refine ⟨fun _ => True, trivial, fun _ _ => trivial, fun W5 gb _ hS5 hgb hbb => ?_⟩
 clear hS3
 replace hbb : Blk W5 gb 92 Z3 := hbb
 go_simp
 refine wpPl_e _ (by rfl) (by kernel_rfl) (fun K hK => ?_)
 refine wp_stRow rfl rfl rfl rfl hbb rbd_size rfl (by simp [Value.oneCell']) ?_
 have bb := hbb.setRow (A10 f0 f1 f2 po nx ti)
 have hS6 := below_setRow hS5 hgb (A10 f0 f1 f2 po nx ti)
 refine hK _ _ hS6 ?_
 clear hK K hbb hS5 zf z0 z2 z3 zq zz
 unfold wpPl
 refine NoPanic.normal ?_
 have hgb0 : w.heap.size < gb := by have := dx.bx.lt; omega
 replace dx := dx.bel_ hS6
 generalize W5.setRow gb (A10 f0 f1 f2 po nx ti) = W6 at *
 have dz : DZ w W6 base c gd (.slice A k cap) L gb (A13 ou xA xn xc ti po) (A10 f0 f1 f2 po nx ti) (.slice none 0 0) [] := ⟨dx.dn, dx.bx, bb, dx.bel, OwnT.nil _ _ _ _ _⟩
 clear dx bb hS6 hgb
 have hkB : keyB c ⟨⟨f0, f1, f2⟩, po, nx, ti⟩ = PL := hPL.out
 replace hkB := Lib.hid hkB
 have kP2 := kP
 go_upto_block 2 with fail
 go_wp2_with fail
 refine wp_loop_ghost_k (fun gk a' wr => ∃ v : Nat → Value, a' = ⟨(frm v).toArray, []⟩ ∧ ∃ (j : Nat) (rv : Value), gk = k - j ∧ j ≤ k ∧ ICom gd w.heap.size PL gb v ∧ v 13 = rv ∧ v 15 = .bool (insP c ⟨⟨f0, f1, f2⟩, po, nx, ti⟩ (L.take j)) ∧ v 16 = .int .i64 j ∧ (∀ g, rv.ownBlock = some g → g ≠ gb) ∧ DZ w wr base c gd (.slice A k cap) L gb (A13 ou xA xn xc ti po) (A10 f0 f1 f2 po nx ti) rv (insT c ⟨⟨f0, f1, f2⟩, po, nx, ti⟩ (L.take j))) k ?_ ?_
 ·refine frm_meet (by kernel_rfl) ?_
  exact ⟨0, _, rfl, Nat.zero_le _, ⟨rfl, rfl, rfl, rfl⟩, rfl, rfl, rfl, fun g e => by simp [Value.ownBlock] at e, dz⟩
 clear dz
 intro gk a' wr hrel _ _ _ _
 obtain ⟨v, rfl, j, rv, hgk, hj, cm, hv13, hv15, hv16, hrg, dz⟩ := hrel
 replace hrg := Lib.hid hrg
 have hlenT : (insT c ⟨⟨f0, f1, f2⟩, po, nx, ti⟩ (L.take j)).length ≤ 100001 := Nat.le_trans (insT_len _) (by rw [List.length_take]; omega)
 by_cases hjk : j < k
 ·replace hgk := Lib.hid hgk
  have d1 : decide ((j : Int) < (k : Int)) = true := by simpa using hjk
  have d2 : decide (j < k) = true := by simpa using hjk
  obtain ⟨g, cc, hA, _, _, hgb1, hgl1, _⟩ := h.row.formG hn (by omega)
  simp only [Value.slice.injEq] at hA
  obtain ⟨rfl, _, rfl⟩ := hA
  obtain ⟨y, hy⟩ : ∃ y, L[j]? = some y := ⟨_, List.getElem?_eq_getElem (by omega)⟩
  have htk : L.take (j + 1) = L.take j ++ [y] := by rw [List.take_add_one, hy]; rfl
  have hyk : placeP c y.fl.pr y.po = keyB c y := rfl
  have kPy := fun W => rPlace_ok c y.fl.pr y.po W hc
  rw [hyk] at kPy
  have hcy : ∀ (rv' : Value) (T' : List Bd) W', DZ w W' base c gd (.slice (some ⟨g, 0, none⟩) k cap) L gb (A13 ou xA xn xc ti po) (A10 f0 f1 f2 po nx ti) rv' T' → ∀ f u, (BdL y)[f]? = some u → W'.cell? ⟨g, j * 6 + f, none⟩ = some u := fun rv' T' W' hz f u hu => hz.dn.row.at_ BdL_len hy hu
  have hput := insT_put (c := c) (b := ⟨⟨f0, f1, f2⟩, po, nx, ti⟩) (y := y) (L := L.take j)
  have hnow := insT_now (c := c) (b := ⟨⟨f0, f1, f2⟩, po, nx, ti⟩) (y := y) (L := L.take j)
  have hnot := insT_not (c := c) (b := ⟨⟨f0, f1, f2⟩, po, nx, ti⟩) (y := y) (L := L.take j)
  rw [← htk] at hput hnow hnot
  rw [hkB.out] at hnow hnot
  clear hy htk hyk
  generalize insP c ⟨⟨f0, f1, f2⟩, po, nx, ti⟩ (L.take j) = P0 at *
  generalize insT c ⟨⟨f0, f1, f2⟩, po, nx, ti⟩ (L.take j) = T0 at *
  generalize hP1 : insP c ⟨⟨f0, f1, f2⟩, po, nx, ti⟩ (L.take (j + 1)) = P1 at *
  replace hP1 := Lib.hid hP1
  generalize hT1 : insT c ⟨⟨f0, f1, f2⟩, po, nx, ti⟩ (L.take (j + 1)) = T1 at *
  have hyL : y = ⟨⟨y.fl.pr, y.fl.ad, y.fl.po⟩, y.po, y.tr, y.se⟩ := rfl
  generalize keyB c y = ky at *
  have k0 : (0 : Int) ≤ (j : Int) := by omega
  have k1 : (j : Int) < (k : Int) := by omega
  replace hput := Lib.hid hput
  replace hnow := Lib.hid hnow
  replace hnot := Lib.hid hnot
  replace kPy := Lib.hid kPy
  replace hcy := Lib.hid hcy
  replace hyL := Lib.hid hyL
  replace hT1 := Lib.hid hT1
  have c6 := dz.dn.obj.cell 6
  have hfr := frm_lit v
  rw [cm.v0, cm.v3, cm.v12, cm.v14, hv13, hv15, hv16] at hfr
  rw [hfr]
  clear hfr cm hv13
  clear hv15 hv16
  obtain ⟨B, hB⟩ : ∃ B, (!P0 && decide (PL < ky)) = B := ⟨_, rfl⟩
  replace hB := Lib.hid hB
  go_upto_region 35 with fail
  clear c6
  refine wp_cut (fun a' wx => ∃ v : Nat → Value, a' = ⟨(frm v).toArray, []⟩ ∧ ICom gd w.heap.size PL gb v ∧ v 13 = rv ∧ v 15 = .bool P0 ∧ v 16 = .int .i64 j ∧ v 226 = .bool B ∧ DZ w wx base c gd (.slice (some ⟨g, 0, none⟩) k cap) L gb (A13 ou xA xn xc ti po) (A10 f0 f1 f2 po nx ti) rv T0) ?_ ?_
  rotate_left
  ·intro _ _ _ _
   have z1 : ∀ w', (∃ t : Tw (Up wr), w' = t.w) → ∀ j u, ([.int .i64 c.wk, .int .u32 c.ou, .int .i64 c.lo, .int .i64 c.hi, .int .i64 c.bk, .int .i64 c.rg] : List Value)[j]? = some u → w'.cell? ⟨gd, 0 + j, none⟩ = some u := fun w' ⟨t, ht⟩ => ht ▸ (dz.dn.bel t.h).cfg
   have z6 : ∀ t : Tw (Up wr), t.w.cell? ⟨gd, 6, none⟩ = some (.slice (some ⟨g, 0, none⟩) k cap) := fun t => (dz.dn.bel t.h).obj.cell 6
   have y0 : ∀ t : Tw (Up wr), t.w.cell? ⟨g, j * 6, none⟩ = some (.int .i64 y.fl.pr) := fun t => hcy.out _ _ _ (dz.bel_ t.h) 0 _ (by rw [hyL.out]; rfl)
   have y3 : ∀ t : Tw (Up wr), t.w.cell? ⟨g, j * 6 + 3, none⟩ = some (.int .i64 y.po) := fun t => hcy.out _ _ _ (dz.bel_ t.h) 3 _ (by rw [hyL.out]; rfl)
   have zp : ∀ t : Tw (Up wr), Calls Tryz.prog 65 #[.agg (A8 c.wk c.ou c.lo c.hi c.bk c.rg), .int .i64 y.fl.pr, .int .i64 y.po] t.w fun e w' => e = .returned (.int .i64 ky) ∧ Below t.w.heap.size t.w w' := fun t => kPy.out t.w
   have zz := Up.one wr
   replace zp := Lib.hid zp
   cases P0 with
   | true =>
    have hB2 := hB.out
    simp only [Bool.not_true, Bool.false_and] at hB2
    subst hB2
    refine region_tw (Up wr) (by kernel_rfl) (by kernel_rfl) (Below.refl _ _).drew ?_
    unfold clsS
    repeat (first
     | go_big_quiet_skip
     | (go_big_quiet_want; go_big_quiet_op; first | go_big_quiet_on | go_big_quiet_call (fail)))
    refine wpQuiet_nil ?_
    intro tq
    go_wp2_with fail
    refine Met.intro ?_
    go_step
    refine frm_meet (by kernel_rfl) ?_
    exact ⟨⟨rfl, rfl, rfl, rfl⟩, rfl, rfl, rfl, rfl, dz.bel_ tq.h⟩
   | false =>
    have hB2 := hB.out
    simp only [Bool.not_false, Bool.true_and] at hB2
    subst hB2
    refine region_tw (Up wr) (by kernel_rfl) (by kernel_rfl) (Below.refl _ _).drew ?_
    unfold clsS
    repeat (first
     | go_big_quiet_skip
     | (go_big_quiet_want; go_big_quiet_op; first | go_big_quiet_on | go_big_quiet_call (exact q_tw (Nat.le_refl _) (zp.out _))))
    go_big_quiet_want
    refine quiet_ldAt rfl rfl z1 Tryz.underlying27 rcf_size ?_
    go_simp
    go_big_quiet_on
    repeat (first
     | go_big_quiet_skip
     | (go_big_quiet_want; go_big_quiet_op; first | go_big_quiet_on | go_big_quiet_call (exact q_tw (Nat.le_refl _) (zp.out _))))
    refine wpQuiet_nil ?_
    intro tq
    go_wp2_with fail
    refine Met.intro ?_
    go_step
    refine frm_meet (by kernel_rfl) ?_
    exact ⟨⟨rfl, rfl, rfl, rfl⟩, rfl, rfl, rfl, rfl, dz.bel_ tq.h⟩
  clear dz
  intro a' wx hcut
  obtain ⟨v, rfl, cm, hv13, hv15, hv16, hv226, dz⟩ := hcut
  have hfr := frm_lit v
  rw [cm.v0, cm.v3, cm.v12, cm.v14, hv13, hv15, hv16, hv226] at hfr
  rw [hfr]
  clear hfr cm hv13
  clear hv15 hv16 hv226
  have hgd1 := hgd0
  have hxx := dz.bx.lt
  go_upto_if 226 with fail
  refine wp_cut (fun a' wy => ∃ v : Nat → Value, a' = ⟨(frm v).toArray, []⟩ ∧ ∃ (rv' : Value) (T' : List Bd), ICom gd w.heap.size PL gb v ∧ v 13 = rv' ∧ v 15 = .bool P1 ∧ v 16 = .int .i64 j ∧ (∀ g, rv'.ownBlock = some g → g ≠ gb) ∧ T' ++ [y] = T1 ∧ T'.length ≤ 100002 ∧ DZ w wy base c gd (.slice (some ⟨g, 0, none⟩) k cap) L gb (A13 ou xA xn xc ti po) (A10 f0 f1 f2 po nx ti) rv' T') ?_ ?_
  rotate_left
  ·intro _ _ _ _
   cases P0 with
   | true =>
    obtain ⟨rfl, h2⟩ := hput.out rfl
    have hB2 := hB.out
    simp only [Bool.not_true, Bool.false_and] at hB2
    subst hB2
    go_wp2_with fail
    refine Met.intro ?_
    go_step
    refine frm_meet (by kernel_rfl) ?_
    exact ⟨rv, T0, ⟨rfl, rfl, rfl, rfl⟩, rfl, rfl, rfl, hrg.out, h2.symm, by omega, dz⟩
   | false =>
    by_cases hlt : PL < ky
    ·have hB2 := hB.out
     rw [show decide (PL < ky) = true by simpa using hlt] at hB2
     simp only [Bool.not_false, Bool.true_and] at hB2
     subst hB2
     obtain ⟨rfl, h2⟩ := hnow.out rfl hlt
     clear hlt
     have bb := dz.bb
     have hal := bel_alloc wx (.cells (A10 f0 f1 f2 po nx ti) 92)
     have dz1 := dz.bel_ hal
     have hy1 := RdT.new (cs := BdL) (sz := 6) BdL_len wx 92 [(⟨⟨f0, f1, f2⟩, po, nx, ti⟩ : Bd)] (A10 f0 f1 f2 po nx ti) rfl 1 rfl
     have hgbl := dz.bb.lt
     go_wp2_with (first
      | (refine wpList_ldRow rfl rfl rfl bb Tryz.underlying92 rbd_size ?_)
      | (at_builtin; go_loud (refine wpList_appT BdL_len BdL_one (by decide) _ rfl (.tmp 227) (.tmp 229) 81 rfl w.heap.size 92 i0 (.agg Z3) 40 Tryz.underlying81 hi hz0 hz1 hz2 rfl _ (by rfl) T0 dz1.row _ _ 1 1 (by rfl) [⟨⟨f0, f1, f2⟩, po, nx, ti⟩] hy1 (by omega) (by decide) dz1.bel.size ?_; intro v2 W3 own2 hg2 hv2)))
     have dz3 := dz1.grown hrg.out hgd1 hrow0.out (by simp; omega) own2 hg2
     refine Met.intro ?_
     go_step
     refine frm_meet (by kernel_rfl) ?_
     refine ⟨v2, _, ⟨rfl, rfl, rfl, rfl⟩, rfl, rfl, rfl, fun g e => ?_, h2.symm, by simp; omega, dz3⟩
     rcases hv2 with hv2 | hv2
     ·exact hrg.out g (by rw [← hv2]; exact e)
     ·rw [hv2] at e
      simp only [Option.some.injEq] at e
      simp at e
      omega
    ·have hB2 := hB.out
     rw [show decide (PL < ky) = false by simpa using hlt] at hB2
     simp only [Bool.not_false, Bool.true_and] at hB2
     subst hB2
     obtain ⟨rfl, h2⟩ := hnot.out rfl hlt
     clear hlt
     go_wp2_with fail
     refine Met.intro ?_
     go_step
     refine frm_meet (by kernel_rfl) ?_
     exact ⟨rv, T0, ⟨rfl, rfl, rfl, rfl⟩, rfl, rfl, rfl, hrg.out, h2.symm, by omega, dz⟩
  clear dz hrg hput hnow hnot
  intro a' wy hcut
  obtain ⟨v, rfl, rv', T', cm, hv13, hv15, hv16, hrg, hTy, hT', dz⟩ := hcut
  have hfr := frm_lit v
  rw [cm.v0, cm.v3, cm.v12, cm.v14, hv13, hv15, hv16] at hfr
  rw [hfr]
  clear hfr cm hv13
  clear hv15 hv16
  have c6 := dz.dn.obj.cell 6
  have hcz := hcy.out _ _ _ dz
  obtain ⟨⟨b0, b1, b2⟩, b3, b4, b5⟩ := y
  simp only [BdL] at hcz
  have hal := bel_alloc wy (.cells (A10 b0 b1 b2 b3 b4 b5) 92)
  have dz1 := dz.bel_ hal
  have hy1 := RdT.new (cs := BdL) (sz := 6) BdL_len wy 92 [(⟨⟨b0, b1, b2⟩, b3, b4, b5⟩ : Bd)] (A10 b0 b1 b2 b3 b4 b5) rfl 1 rfl
  have hgbl := dz.bb.lt
  replace hTy := Lib.hid hTy
  go_wp2_with (first
   | (refine wpList_ldAt rfl rfl rfl hcz Tryz.underlying92 rbd_size ?_)
   | (at_builtin; go_loud (refine wpList_appT BdL_len BdL_one (by decide) _ rfl (.tmp 231) (.tmp 239) 81 rfl w.heap.size 92 i0 (.agg Z3) 40 Tryz.underlying81 hi hz0 hz1 hz2 rfl _ (by rfl) T' dz1.row _ _ 1 1 (by rfl) [⟨⟨b0, b1, b2⟩, b3, b4, b5⟩] hy1 (by omega) (by decide) dz1.bel.size ?_; intro v2 W3 own2 hg2 hv2)))
  have dz3 := dz1.grown hrg hgd1 hrow0.out (by simp; omega) own2 hg2
  rw [hTy.out] at dz3
  refine Handed.intro (k - (j + 1)) (by have := hgk.out; omega) ?_
  go_step
  refine frm_meet (by kernel_rfl) ?_
  refine ⟨j + 1, v2, rfl, by omega, ⟨rfl, rfl, rfl, rfl⟩, rfl, by rw [hP1.out]; rfl, rfl, fun g e => ?_, by rw [hT1.out]; exact dz3⟩
  rcases hv2 with hv2 | hv2
  ·exact hrg g (by rw [← hv2]; exact e)
  ·rw [hv2] at e
   simp only [Option.some.injEq] at e
   simp at e
   omega
 ·obtain rfl : j = k := by omega
  clear hgk hj hjk
  have htt : L.take j = L := by rw [← hn, List.take_length]
  rw [htt] at hv15 dz hlenT
  have hend := insT_end (c := c) (b := ⟨⟨f0, f1, f2⟩, po, nx, ti⟩) (L := L)
  obtain ⟨LI, hLI⟩ : ∃ LI, insB c ⟨⟨f0, f1, f2⟩, po, nx, ti⟩ L = LI := ⟨_, rfl⟩
  rw [hLI] at hend
  replace hLI := Lib.hid hLI
  generalize insP c ⟨⟨f0, f1, f2⟩, po, nx, ti⟩ L = P0 at *
  generalize insT c ⟨⟨f0, f1, f2⟩, po, nx, ti⟩ L = T0 at *
  replace hend := Lib.hid hend
  have d1 : decide ((j : Int) < (j : Int)) = false := by simp
  have d2 : decide (j < j) = false := by simp
  have c6 := dz.dn.obj.cell 6
  have hfr := frm_lit v
  rw [cm.v0, cm.v3, cm.v12, cm.v14, hv13, hv15, hv16] at hfr
  rw [hfr]
  clear hfr cm hv13
  clear hv15 hv16
  go_upto_if 242 with fail
  clear c6
  refine wp_cut (fun a' wy => ∃ v : Nat → Value, a' = ⟨(frm v).toArray, []⟩ ∧ ∃ (rv' : Value), ICom gd w.heap.size PL gb v ∧ v 13 = rv' ∧ DZ w wy base c gd (.slice A j cap) L gb (A13 ou xA xn xc ti po) (A10 f0 f1 f2 po nx ti) rv' LI) ?_ ?_
  rotate_left
  ·intro _ _ _ _
   cases P0 with
   | true =>
    have hend2 := hend.out
    simp only [if_true] at hend2
    subst hend2
    go_wp2_with fail
    refine Met.intro ?_
    go_step
    refine frm_meet (by kernel_rfl) ?_
    exact ⟨rv, ⟨rfl, rfl, rfl, rfl⟩, rfl, dz⟩
   | false =>
    have hend2 := hend.out
    simp only [Bool.false_eq_true, if_false] at hend2
    subst hend2
    have bb := dz.bb
    have hal := bel_alloc wr (.cells (A10 f0 f1 f2 po nx ti) 92)
    have dz1 := dz.bel_ hal
    have hy1 := RdT.new (cs := BdL) (sz := 6) BdL_len wr 92 [(⟨⟨f0, f1, f2⟩, po, nx, ti⟩ : Bd)] (A10 f0 f1 f2 po nx ti) rfl 1 rfl
    have hxx := dz.bx.lt
    go_wp2_with (first
     | (refine wpList_ldRow rfl rfl rfl bb Tryz.underlying92 rbd_size ?_)
     | (at_builtin; go_loud (refine wpList_appT BdL_len BdL_one (by decide) _ rfl (.tmp 243) (.tmp 245) 81 rfl w.heap.size 92 i0 (.agg Z3) 40 Tryz.underlying81 hi hz0 hz1 hz2 rfl _ (by rfl) T0 dz1.row _ _ 1 1 (by rfl) [⟨⟨f0, f1, f2⟩, po, nx, ti⟩] hy1 (by omega) (by decide) dz1.bel.size ?_; intro v2 W3 own2 hg2 hv2)))
    have dz3 := dz1.grown hrg.out hgd0 hrow0.out (by simp; omega) own2 hg2
    refine Met.intro ?_
    go_step
    refine frm_meet (by kernel_rfl) ?_
    exact ⟨v2, ⟨rfl, rfl, rfl, rfl⟩, rfl, dz3⟩
  clear dz hrg
  intro a' wy hcut
  obtain ⟨v, rfl, rv', cm, hv13, dz⟩ := hcut
  obtain ⟨nn, hnn⟩ : ∃ n, LI.length = n := ⟨_, rfl⟩
  obtain ⟨A9, c9, hrv, _, _⟩ := dz.row.form hnn
  subst hrv
  clear hnn
  have hfr := frm_lit v
  rw [cm.v0, cm.v3, cm.v12, cm.v14, hv13] at hfr
  rw [hfr]
  clear hfr cm hv13
  have c6 := dz.dn.obj.cell 6
  have f6 := dz.dn.obj.frozen 6
  go_upto_region 41 with fail
  have hnS : ∀ k, (Value.slice A9 nn c9).ownBlock = some k → k ≠ gd := fun k e => by have := (dz.row.lt k e).1; have := hgd0; omega
  have hu := Upd.one wy gd 6 (.slice A9 nn c9)
  have dn' : DN (wy.setCell ⟨gd, 6, none⟩ (.slice A9 nn c9)) base c gd (.slice A9 nn c9) LI := ⟨dz.dn.obj.set_ 6 (.slice A9 nn c9), (dz.row.upd hu hnS).lowerB hbase⟩
  have bx' := dz.bx.upd hu (fun e => by have := hgd0; omega)
  have up' : Upd (DnS gd (.slice A j cap)) w (wy.setCell ⟨gd, 6, none⟩ (.slice A9 nn c9)) := (Upd.of_below dz.bel _).trans (hu.mono fun k _ e => .inl e)
  have k8' : Keep8 w (wy.setCell ⟨gd, 6, none⟩ (.slice A9 nn c9)) := (Keep8.of_below dz.bel).set c6 (fun x e => by cases e) (.slice A9 nn c9)
  clear c6 f6 hu hnS
  generalize wy.setCell ⟨gd, 6, none⟩ (.slice A9 nn c9) = W7 at *
  have hwp : IntKind.u16.wrap po = po := by rw [IntKind.wrap_u16]; omega
  have z1 : ∀ t : Tw (fun w' => Blk w' w.heap.size 50 (A13 ou xA xn xc ti po) ∧ Blk w' gd 98 (A15 c.wk c.ou c.lo c.hi c.bk c.rg A9 nn c9)), t.w.cell? ⟨w.heap.size, 1, none⟩ = some (.slice xA xn xc) := fun t => t.h.1.cell 1
  have z3 : ∀ t : Tw (fun w' => Blk w' w.heap.size 50 (A13 ou xA xn xc ti po) ∧ Blk w' gd 98 (A15 c.wk c.ou c.lo c.hi c.bk c.rg A9 nn c9)), t.w.cell? ⟨w.heap.size, 3, none⟩ = some (.int .i64 po) := fun t => t.h.1.cell 3
  have z2 : ∀ t : Tw (fun w' => Blk w' w.heap.size 50 (A13 ou xA xn xc ti po) ∧ Blk w' gd 98 (A15 c.wk c.ou c.lo c.hi c.bk c.rg A9 nn c9)), t.w.cell? ⟨gd, 1, none⟩ = some (.int .u32 c.ou) := fun t => t.h.2.cell 1
  have zz : Nonempty (Tw (fun w' => Blk w' w.heap.size 50 (A13 ou xA xn xc ti po) ∧ Blk w' gd 98 (A15 c.wk c.ou c.lo c.hi c.bk c.rg A9 nn c9))) := ⟨⟨_, bx', dn'.obj⟩⟩
  refine wp_region_plan (fun w' => Blk w' w.heap.size 50 (A13 ou xA xn xc ti po) ∧ Blk w' gd 98 (A15 c.wk c.ou c.lo c.hi c.bk c.rg A9 nn c9)) [(0, true), (1, true), (2, true), (3, true), (4, true), (5, true), (6, true), (7, true), (8, true), (9, true), (10, false), (11, true), (12, true), (13, true), (14, true)] (by kernel_rfl) (by kernel_rfl) (by kernel_rfl) (by kernel_rfl) ⟨bx'.drew, dn'.obj.drew⟩ ?_
  replace bx' := bx'.drew
  replace dn' := dn'.drew
  replace up' := up'.drew
  replace k8' := k8'.drew
  generalize W7.drew = W8 at *
  refine wpPl_qs 10 _ _ _ (by kernel_rfl) (by kernel_rfl) (by simp) ?_
  unfold clsS
  simp only [qq1, qq2, qq3, qq4, List.filterMap_cons, qq6, qq7, qq8, qq9]
  repeat (first | go_big_quiet_skip | (go_big_quiet_want; go_big_quiet_op; go_big_quiet_on) | refine id (?_ : wpQuiet _ _ _ _ (_ :: _) _))
  refine wpQuiet_nil ?_
  clear z1 z2 z3
  refine wpPl_e _ (by rfl) (by kernel_rfl) (fun K hK => ?_)
  go_simp
  refine (drw_any true l xA xn xc c.ou po W8 ((hr.keep8 k8').more up'.size) hlc hcm hl hou (by omega)).mono ?_
  intro e W9 hch
  obtain ⟨vA, vn, vc, rfl, own, hb9⟩ := chg_own (rwL_nil _ _ _ _) hch
  have own' := own.mono_ up'.size
  refine hK _ _ ⟨bx'.bel hb9, (dn'.bel hb9).obj⟩ ?_
  clear hK K hch own
  refine wpPl_qs 4 _ _ _ (by kernel_rfl) (by kernel_rfl) (by simp) ?_
  unfold clsS
  simp only [qq1, qq2, qq3, qq4, List.filterMap_cons, qq6, qq7, qq8, qq9]
  repeat (first | go_big_quiet_skip | (go_big_quiet_want; go_big_quiet_op; go_big_quiet_on) | refine id (?_ : wpQuiet _ _ _ _ (_ :: _) _))
  refine wpQuiet_nil ?_
  unfold wpPl
  refine NoPanic.normal ?_
  go_wp2_with fail
  go_ret2
  have hRR2 := hRR.out
  rw [hnx.out, hLI.out] at hRR2
  subst hRR2
  exact ⟨_, _, rfl, own', dn'.bel hb9, up'.trans (Upd.of_below hb9 _), k8'.trans (Keep8.of_below hb9)⟩
end Go.Proofs.YtbckoohljkmahaaGreat
