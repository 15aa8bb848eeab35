/- Contracts and plain facts. -/
import Derived.Test.YtbckoohljkmahaaGreatPk21
namespace Go.Proofs.YtbckoohljkmahaaGreat
set_option linter.unusedVariables false
set_option linter.unusedSimpArgs false
set_option maxRecDepth 100000
set_option maxHeartbeats 16000000
open Go.RowKit
theorem dStep_some (c : Cf) (base gd : Nat) (va : Value) (L : List Bd) (ou : Bool) (xA : Option Addr) (xn xc : Nat) (ti po : Int) (l : List Int) (i0 : Nat) (b : Bd) (w : World) (h : DN w base c gd va L) (ht : 0 ≤ ti ∧ ti ≤ 4294967295) (hE : (whoP c.ou ou l).2 = 0)
  (hr : Rd .u8 w w.heap.size xA xn l) (hlc : xn ≤ xc) (hcm : xc ≤ 9223372036854775807) (hl : xn ≤ 60000) (hL : L.length ≤ 100000) (hi0 : L[i0]? = some b) (hmb : mt ou (whoP c.ou ou l).1 b = true) (hmn : ∀ (j : Nat) y, j < i0 → L[j]? = some y → mt ou (whoP c.ou ou l).1 y = false)
  (hou : 0 ≤ c.ou ∧ c.ou ≤ 4294967295) (hbr0 : b.fl.rng ∧ 1 ≤ b.po ∧ b.po ≤ 65535) (hpro : (rdP l).err = false → (whoP c.ou ou l).1.pr = (rdP l).proto) :
  Calls Tryz.prog 37 #[.pointer (some ⟨gd, 0, none⟩), .agg (A13 ou xA xn xc ti po)] w (DStR w base c gd va (if (rdP l).err = true then L else L.set i0 (seenB b (rdP l) ou ti), rwE l, if ou = true then rwL l true c.ou b.po else rwL l false b.fl.ad b.fl.po)) := by
 obtain ⟨n, hn⟩ : ∃ n, L.length = n := ⟨_, rfl⟩
 obtain ⟨A, cap, rfl, hnc, hcm2⟩ := h.row.form hn
 unfold maxLen at hcm2
 have hin : i0 < n := by have := (List.getElem?_eq_some_iff.1 hi0).1; omega
 obtain ⟨g, cc, hA, _, _, hgb1, hgl1, _⟩ := h.row.formG hn (by omega)
 simp only [Value.slice.injEq] at hA
 obtain ⟨rfl, _, rfl⟩ := hA
 obtain ⟨RR, hRR⟩ : ∃ RR : List Bd × Int × List Int, (if (rdP l).err = true then L else L.set i0 (seenB b (rdP l) ou ti), rwE l, if ou = true then rwL l true c.ou b.po else rwL l false b.fl.ad b.fl.po) = RR := ⟨_, rfl⟩
 rw [hRR]
 replace hRR := Lib.hid hRR
 replace hmb := Lib.hid hmb
 replace hmn := Lib.hid hmn
 replace hpro := Lib.hid hpro
 have hfr0 := whoP_rng c.ou ou (l := l) (fun x hx => inr_u8 (hr.rng x hx))
 replace hfr0 := Lib.hid hfr0
 have kp := fun W (hr : Rd .u8 W W.heap.size xA xn l) => rPart_any l xA xn xc W hr hlc hcm hl
 unfold PartT at kp
 have hP1 : (partI l).1 = rdP l := (rdP_part (who_rdE hE)).symm
 rw [hP1] at kp
 generalize rdP l = P at *
 obtain ⟨pr, sr, ds, pf, ki, co, er, ⟨isz, i1, i2, i3, i4, i5⟩, pat, ba⟩ := P
 simp only [Pt.val] at kp
 obtain ⟨okp, hokp⟩ : ∃ o, (partI l).2 = o := ⟨_, rfl⟩
 rw [hokp] at kp
 clear hP1 hokp
 replace kp := Lib.hid kp
 have kw := fun W (hr : Rd .u8 W W.heap.size xA xn l) => rWhose_any c.wk c.ou c.lo c.hi c.bk c.rg ou l xA xn xc W hr hlc hcm hl
 unfold WhoR at kw
 generalize hwho : whoP c.ou ou l = R at *
 obtain ⟨⟨f0, f1, f2⟩, EE⟩ := R
 simp only [Fl.cs] at kw
 replace kw := Lib.hid kw
 replace hwho := Lib.hid hwho
 have d1 : decide (ti < 0) = false := by simp; omega
 have d2 : decide (4294967295 < ti) = false := by simp; omega
 go_enter Tryz.func37, Tryz.ntmps37
 go_upto_region 1 with fail
 have bx := Blk.new w 50 (A13 ou xA xn xc ti po)
 have bel := bel_alloc w (.cells (A13 ou xA xn xc ti po) 50)
 generalize w.alloc (.cells (A13 ou xA xn xc ti po) 50) = W at *
 have x2 := bx.cell 2
 go_upto_region 3 with fail
 clear x2
 have hdW := h.bel bel
 have z1 : ∀ w', (∃ t : Tw (Up W), w' = t.w) → ∀ j u, ([.int .i64 c.wk, .int .u32 c.ou, .int .i64 c.lo, .int .i64 c.hi, .int .i64 c.bk, .int .i64 c.rg] : List Value)[j]? = some u → w'.cell? ⟨gd, 0 + j, none⟩ = some u := fun w' ⟨t, ht⟩ => ht ▸ (hdW.bel t.h).cfg
 have z2 : ∀ t : Tw (Up W), t.w.cell? ⟨w.heap.size, 0, none⟩ = some (.bool ou) := fun t => (bx.bel t.h).cell 0
 have z3 : ∀ t : Tw (Up W), t.w.cell? ⟨w.heap.size, 1, none⟩ = some (.slice xA xn xc) := fun t => (bx.bel t.h).cell 1
 have zz := Up.one W
 have hrW := (hr.below bel).more bel.size
 refine wp_region_float (Up W) (.cells Z2 38) W.heap.size (fun h => .pointer (some ⟨h, 0, none⟩)) 12 _ [(0, true), (1, true), (2, true), (3, true), (4, true), (5, true), (6, true), (7, true), (8, false), (9, true), (10, true), (11, true)] [(13, false), (14, true)] (by kernel_rfl) (by kernel_rfl) (by rfl) (by rfl) (by kernel_rfl) (by kernel_rfl) (Below.refl _ _).drew (fun w' h => Below.alloc h (Below.size h) _) (fun w' h => Below.size h) (by intro a w; simp [execOp, go_sem]) ?_
 refine wpFl_qs 8 _ _ _ (by kernel_rfl) (by kernel_rfl) (by simp) ?_
 unfold clsS
 simp only [qq1, qq2, qq3, qq4, List.filterMap_cons, qq6, qq7, qq8, qq9]
 repeat (first
  | go_big_quiet_skip
  | (go_big_quiet_want; first | (refine quiet_ldAt rfl rfl z1 Tryz.underlying27 rcf_size ?_; go_simp; go_big_quiet_on) | (go_big_quiet_op; go_big_quiet_on))
  | (refine id (?_ : wpQuiet _ _ _ _ (_ :: _) _); first | go_big_quiet_skip | (go_big_quiet_want; first | (refine quiet_ldAt rfl rfl z1 Tryz.underlying27 rcf_size ?_; go_simp; go_big_quiet_on) | (go_big_quiet_op; go_big_quiet_on))))
 refine wpQuiet_nil ?_
 refine wpFl_e (fun _ => True) _ (by rfl) (by kernel_rfl) trivial (fun _ _ => trivial) (fun W1 _ hS1 K hK => ?_)
 go_simp
 refine (kw.out W1 ((hrW.below hS1).more (Below.size hS1))).mono ?_
 rintro e W2 ⟨rfl, hb2⟩
 refine hK _ _ (bel_after hS1 hb2) (KeepO.belM hb2) ?_
 clear hK K hb2 kw
 refine wpFl_qs 3 _ _ _ (by kernel_rfl) (by kernel_rfl) (by simp) ?_
 unfold clsS
 simp only [qq1, qq2, qq3, qq4, List.filterMap_cons, qq6, qq7, qq8, qq9]
 repeat (first | go_big_quiet_skip | (go_big_quiet_want; go_big_quiet_op; go_big_quiet_on) | refine id (?_ : wpQuiet _ _ _ _ (_ :: _) _))
 refine wpQuiet_nil ?_
 unfold wpFl
 refine ⟨fun _ => True, trivial, fun _ _ => trivial, fun W3 gf _ hS3 hgf hbf => ?_⟩
 clear hS1
 replace hbf : Blk W3 gf 38 Z2 := hbf
 go_simp
 refine wpPl_e _ (by rfl) (by kernel_rfl) (fun K hK => ?_)
 refine wp_stRow rfl rfl rfl rfl hbf rfl_size rfl (by simp [Value.oneCell']) ?_
 have bf := hbf.setRow (A11 f0 f1 f2)
 have hS4 := below_setRow hS3 hgf (A11 f0 f1 f2)
 refine hK _ _ hS4 ?_
 clear hK K hbf hS3 z1 z2 z3 zz hrW
 refine wpPl_qs 1 _ _ _ (by kernel_rfl) (by kernel_rfl) (by simp) ?_
 unfold clsS
 simp only [qq1, qq2, qq3, qq4, List.filterMap_cons, qq6, qq7, qq8, qq9]
 repeat (first | go_big_quiet_skip | (go_big_quiet_want; go_big_quiet_op; go_big_quiet_on) | refine id (?_ : wpQuiet _ _ _ _ (_ :: _) _))
 refine wpQuiet_nil ?_
 unfold wpPl
 refine NoPanic.normal ?_
 replace bx := bx.bel hS4
 replace bel := bel_after bel hS4
 replace hdW := hdW.bel hS4
 clear hS4
 generalize W3.setRow gf (A11 f0 f1 f2) = W4 at *
 simp only at hE hmb hmn hpro
 subst hE
 have hwf : IntKind.i64.wrap f2 = f2 := by have := inr_u16 hfr0.out.2.2; rw [IntKind.wrap_i64]; simp only at this; omega
 have hrW := (hr.below bel).more bel.size
 have x1 := bx.cell 1
 go_wp2_with fail
 refine (kp.out _ hrW).mono ?_
 rintro e W5 ⟨rfl, hb5⟩
 replace bx := bx.bel hb5
 replace bf := bf.bel hb5
 replace bel := bel_after bel hb5
 replace hdW := hdW.bel hb5
 clear hb5 kp x1 hrW
 have bp := (Blk.new W5 69 Z0).setRow (A0 pr sr ds pf ki co er isz i1 i2 i3 i4 i5 pat ba)
 have belp : Below W5.heap.size W5 ((W5.alloc (.cells Z0 69)).setRow W5.heap.size (A0 pr sr ds pf ki co er isz i1 i2 i3 i4 i5 pat ba)) := below_setRow (bel_alloc _ _) (Nat.le_refl _) _
 replace bx := bx.bel belp
 replace bf := bf.bel belp
 replace bel := bel_after bel belp
 replace hdW := hdW.bel belp
 clear belp
 go_upto_region 7 with (refine wpList_stRow rfl rfl rfl rfl rfl (Blk.new W5 _ _) rpt_size rfl (by simp [Value.oneCell']) ?_; generalize (W5.alloc (.cells Z0 69)).setRow W5.heap.size (A0 pr sr ds pf ki co er isz i1 i2 i3 i4 i5 pat ba) = W6 at *; generalize W5.heap.size = gp at *)
 have dx : DX w W6 base c gd _ L gf gp (A13 ou xA xn xc ti po) (A11 f0 f1 f2) (A0 pr sr ds pf ki co er isz i1 i2 i3 i4 i5 pat ba) := ⟨hdW, bx, bf, bp, bel⟩
 clear bx bf bp bel hdW
 go_upto_block 0 with fail
 go_wp2_with fail
 refine wp_loop_ghost_k (fun gk a' wr => ∃ v : Nat → Value, a' = ⟨(frm v).toArray, []⟩ ∧ ∃ k : Nat, gk = n - k ∧ k ≤ i0 ∧ DCom gd w.heap.size gf gp v ∧ v 10 = .int .i64 k ∧ DX w wr base c gd (.slice (some ⟨g, 0, none⟩) n cap) L gf gp (A13 ou xA xn xc ti po) (A11 f0 f1 f2) (A0 pr sr ds pf ki co er isz i1 i2 i3 i4 i5 pat ba)) n ?_ ?_
 ·refine frm_meet (by kernel_rfl) ?_
  exact ⟨0, rfl, Nat.zero_le _, ⟨rfl, rfl, rfl, rfl⟩, rfl, dx⟩
 ·clear dx
  intro gk a' wr hrel _ _ _ _
  obtain ⟨v, rfl, k, hgk, hk, cm, hv10, dx⟩ := hrel
  replace hgk := Lib.hid hgk
  have d1 : decide ((k : Int) < (n : Int)) = true := by simp; omega
  have d2 : decide (k < n) = true := by simp; omega
  have hkn : k < n := by omega
  obtain ⟨y, hy⟩ : ∃ y, L[k]? = some y := ⟨_, List.getElem?_eq_getElem (by omega)⟩
  have hcz : ∀ f u, (BdL y)[f]? = some u → wr.cell? ⟨g, k * 6 + f, none⟩ = some u := fun f u hu => dx.dn.row.at_ BdL_len hy hu
  by_cases hlt : k < i0
  ·have hm0 := mt_false (hmn.out k y hlt hy)
   clear hy
   obtain ⟨⟨b0, b1, b2⟩, b3, b4, b5⟩ := y
   simp only [BdL] at hcz hm0
   have hfr := frm_lit v
   rw [cm.v0, cm.v3, cm.v6, cm.v8, hv10] at hfr
   rw [hfr]
   clear hfr cm hv10
   have c6 := dx.dn.obj.cell 6
   have k0 : (0 : Int) ≤ (k : Int) := by omega
   have k1 : (k : Int) < (n : Int) := by omega
   have bb := (Blk.new wr 92 Z3).setRow (A10 b0 b1 b2 b3 b4 b5)
   have belb : Below wr.heap.size wr ((wr.alloc (.cells Z3 92)).setRow wr.heap.size (A10 b0 b1 b2 b3 b4 b5)) := below_setRow (bel_alloc _ _) (Nat.le_refl _) _
   have hgb : w.heap.size ≤ wr.heap.size := dx.bel.size
   replace dx := dx.bel_ belb
   go_upto_region 11 with (first
    | (refine wpList_ldAt rfl rfl rfl hcz Tryz.underlying92 rbd_size ?_)
    | (refine wpList_stRow rfl rfl rfl rfl rfl (Blk.new wr _ _) rbd_size rfl (by simp [Value.oneCell']) ?_; generalize (wr.alloc (.cells Z3 92)).setRow wr.heap.size (A10 b0 b1 b2 b3 b4 b5) = W2 at *; generalize wr.heap.size = gb at *))
   clear hcz c6 belb
   have x0 := dx.bx.cell 0
   have y0 := dx.bf.cell 0
   have y1 := dx.bf.cell 1
   have y2 := dx.bf.cell 2
   have q0 := bb.cell 0
   have q1 := bb.cell 1
   have q2 := bb.cell 2
   have q3 := bb.cell 3
   rcases hm0 with ⟨rfl, hm0 | ⟨rfl, hm0⟩ | ⟨rfl, rfl, hm0⟩⟩ | ⟨rfl, hm0 | ⟨rfl, hm0⟩⟩
   ·have e1 : (b0 == f0) = false := by simpa using hm0
    go_wp2_with fail
    refine Handed.intro (n - (k + 1)) (by have := hgk.out; omega) ?_
    go_step
    refine frm_meet (by kernel_rfl) ?_
    exact ⟨k + 1, rfl, by omega, ⟨rfl, rfl, rfl, rfl⟩, rfl, dx⟩
   ·have e1 : (b1 == f1) = false := by simpa using hm0
    go_wp2_with fail
    refine Handed.intro (n - (k + 1)) (by have := hgk.out; omega) ?_
    go_step
    refine frm_meet (by kernel_rfl) ?_
    exact ⟨k + 1, rfl, by omega, ⟨rfl, rfl, rfl, rfl⟩, rfl, dx⟩
   ·have e1 : (b2 == f2) = false := by simpa using hm0
    go_wp2_with fail
    refine Handed.intro (n - (k + 1)) (by have := hgk.out; omega) ?_
    go_step
    refine frm_meet (by kernel_rfl) ?_
    exact ⟨k + 1, rfl, by omega, ⟨rfl, rfl, rfl, rfl⟩, rfl, dx⟩
   ·have e1 : (b0 != f0) = true := by simpa using hm0
    go_wp2_with fail
    refine Handed.intro (n - (k + 1)) (by have := hgk.out; omega) ?_
    go_step
    refine frm_meet (by kernel_rfl) ?_
    exact ⟨k + 1, rfl, by omega, ⟨rfl, rfl, rfl, rfl⟩, rfl, dx⟩
   ·have e1 : (b3 != f2) = true := by simpa using hm0
    go_wp2_with fail
    refine Handed.intro (n - (k + 1)) (by have := hgk.out; omega) ?_
    go_step
    refine frm_meet (by kernel_rfl) ?_
    exact ⟨k + 1, rfl, by omega, ⟨rfl, rfl, rfl, rfl⟩, rfl, dx⟩
  ·obtain rfl : k = i0 := by omega
   rw [hi0] at hy
   obtain rfl : b = y := Option.some.inj hy
   replace hmb := hmb.out
   obtain ⟨⟨b0, b1, b2⟩, b3, b4, b5⟩ := b
   simp only [BdL, mt] at hcz hmb
   have hbr := And.intro (inr_u32 hbr0.1.2.1) (inr_u16 hbr0.1.2.2)
   have hpo3 := Lib.hid hbr0.2
   simp only at hbr hpo3
   have hfr := frm_lit v
   rw [cm.v0, cm.v3, cm.v6, cm.v8, hv10] at hfr
   rw [hfr]
   clear hfr cm hv10
   have c6 := dx.dn.obj.cell 6
   have k0 : (0 : Int) ≤ (k : Int) := by omega
   have k1 : (k : Int) < (n : Int) := by omega
   have bb := (Blk.new wr 92 Z3).setRow (A10 b0 b1 b2 b3 b4 b5)
   have belb : Below wr.heap.size wr ((wr.alloc (.cells Z3 92)).setRow wr.heap.size (A10 b0 b1 b2 b3 b4 b5)) := below_setRow (bel_alloc _ _) (Nat.le_refl _) _
   have hgb : w.heap.size ≤ wr.heap.size := dx.bel.size
   replace dx := dx.bel_ belb
   go_upto_region 11 with (first
    | (refine wpList_ldAt rfl rfl rfl hcz Tryz.underlying92 rbd_size ?_)
    | (refine wpList_stRow rfl rfl rfl rfl rfl (Blk.new wr _ _) rbd_size rfl (by simp [Value.oneCell']) ?_; generalize (wr.alloc (.cells Z3 92)).setRow wr.heap.size (A10 b0 b1 b2 b3 b4 b5) = W2 at *; generalize wr.heap.size = gb at *))
   clear hcz c6 belb
   have x0 := dx.bx.cell 0
   have y0 := dx.bf.cell 0
   have y1 := dx.bf.cell 1
   have y2 := dx.bf.cell 2
   have q0 := bb.cell 0
   have q1 := bb.cell 1
   have q2 := bb.cell 2
   have q3 := bb.cell 3
   have hgg : g ≠ gb := by omega
   have hi0' := Lib.hid hi0
   cases ou with
   | true =>
    simp only [if_true, decide_eq_true_eq, Fl.mk.injEq] at hmb
    obtain ⟨rfl, rfl, rfl⟩ := hmb
    have hgx : w.heap.size ≠ g := by omega
    obtain ⟨L1, hL1⟩ : ∃ L1, (if er = true then L else L.set k (seenB ⟨⟨b0, b1, b2⟩, b3, b4, b5⟩ ⟨pr, sr, ds, pf, ki, co, er, ⟨isz, i1, i2, i3, i4, i5⟩, pat, ba⟩ true ti)) = L1 := ⟨_, rfl⟩
    replace hL1 := Lib.hid hL1
    have p6 := dx.bp.cell 6
    go_upto_if 93 with fail
    clear q0 q1 q2 q3 x0 y0 y1 y2 p6
    refine wp_cut (fun a' wx => ∃ v : Nat → Value, a' = ⟨(frm v).toArray, []⟩ ∧ DCom gd w.heap.size gf gp v ∧ v 11 = .pointer (some ⟨gb, 0, none⟩) ∧ ∃ tr se, DY w wx base c gd (.slice (some ⟨g, 0, none⟩) n cap) L1 gb (A13 true xA xn xc ti po) (A10 b0 b1 b2 b3 tr se)) ?_ ?_
    rotate_left
    ·intro _ _ _ _
     cases er with
     | true =>
      have hL2 := hL1.out
      simp only [if_true] at hL2
      subst hL2
      go_wp2_with fail
      refine Met.intro ?_
      go_step
      refine frm_meet (by kernel_rfl) ?_
      exact ⟨⟨rfl, rfl, rfl, rfl⟩, rfl, b4, b5, dx.dn, dx.bx, bb, Upd.of_below dx.bel _, Keep8.of_below dx.bel⟩
     | false =>
      obtain rfl := hpro.out rfl
      have kn := fun W => rNext_any b0 b4 true pf W
      have kr := fun W => rRenews_any b0 true W
      obtain ⟨S, hS⟩ : ∃ S, seenB ⟨⟨b0, b1, b2⟩, b3, b4, b5⟩ ⟨b0, sr, ds, pf, ki, co, false, ⟨isz, i1, i2, i3, i4, i5⟩, pat, ba⟩ true ti = S := ⟨_, rfl⟩
      have hScs : BdL S = [.int .i64 b0, .int .u32 b1, .int .u16 b2, .int .i64 b3, .int .i64 (nxt b0 b4 true (fb pf 4) (fb pf 1) (fb pf 2) (fb pf 16)), .int .i64 (if renewsS b0 true = true then (if b5 < ti then ti else b5) else b5)] := by rw [← hS]; rfl
      have hL2 := hL1.out
      simp only [Bool.false_eq_true, if_false] at hL2
      rw [hS] at hL2
      replace hL2 := Lib.hid hL2
      clear hL1
      generalize nxt b0 b4 true (fb pf 4) (fb pf 1) (fb pf 2) (fb pf 16) = nx at *
      generalize hrn : renewsS b0 true = rn at *
      clear hrn hS
      obtain ⟨V, hV⟩ : ∃ V, (if rn = true then (if b5 < ti then ti else b5) else b5) = V := ⟨_, rfl⟩
      rw [hV] at hScs
      replace hScs := Lib.hid hScs
      replace kn := Lib.hid kn
      replace kr := Lib.hid kr
      have hrow : ∀ g', (Value.slice (some ⟨g, 0, none⟩) n cap).ownBlock = some g' → g' ≠ gb := fun g' e => by simp only [Value.ownBlock, Option.some.injEq] at e; omega
      replace hrow := Lib.hid hrow
      have x0 := dx.bx.cell 0
      have y0 := dx.bf.cell 0
      have p3 := dx.bp.cell 3
      have c4 := bb.cell 4
      have f4 := bb.frozen 4
      go_wp2_with fail
      refine (kn.out _).mono ?_
      rintro e w' ⟨rfl, rfl⟩
      go_upto_region 14 with fail
      clear x0 y0 p3 c4 f4 kn
      replace dx := dx.setB bb hgb hrow.out 4 (.int .i64 nx)
      replace bb : Blk (W2.setCell ⟨gb, 4, none⟩ (.int .i64 nx)) gb 92 (A10 b0 b1 b2 b3 nx b5) := bb.set_ 4 (.int .i64 nx)
      generalize W2.setCell ⟨gb, 4, none⟩ (.int .i64 nx) = W3 at *
      have x0 := dx.bx.cell 0
      have y0 := dx.bf.cell 0
      go_wp2_with fail
      refine (kr.out _).mono ?_
      rintro e w' ⟨rfl, rfl⟩
      clear x0 y0 kr
      cases rn with
      | true =>
       simp only [if_true] at hV
       have hVm : max b5 ti = V := by rw [← hV]; omega
       have x2 := dx.bx.cell 2
       have c5 := bb.cell 5
       have f5 := bb.frozen 5
       go_upto_region 16 with fail
       clear x2 c5 f5
       replace dx := dx.setB bb hgb hrow.out 5 (.int .i64 V)
       replace bb : Blk (W3.setCell ⟨gb, 5, none⟩ (.int .i64 V)) gb 92 (A10 b0 b1 b2 b3 nx V) := bb.set_ 5 (.int .i64 V)
       clear hV hVm
       generalize W3.setCell ⟨gb, 5, none⟩ (.int .i64 V) = W5 at *
       have zg : ∀ t : Tw (fun w' => Blk w' gd 98 (A15 c.wk c.ou c.lo c.hi c.bk c.rg (some ⟨g, 0, none⟩) n cap) ∧ Blk w' gb 92 (A10 b0 b1 b2 b3 nx V)), t.w.cell? ⟨gd, 6, none⟩ = some (.slice (some ⟨g, 0, none⟩) n cap) := fun t => t.h.1.cell 6
       have zb : ∀ w', (∃ t : Tw (fun w' => Blk w' gd 98 (A15 c.wk c.ou c.lo c.hi c.bk c.rg (some ⟨g, 0, none⟩) n cap) ∧ Blk w' gb 92 (A10 b0 b1 b2 b3 nx V)), w' = t.w) → Blk w' gb 92 (A10 b0 b1 b2 b3 nx V) := fun w' ⟨t, ht⟩ => ht ▸ t.h.2
       have zz : Nonempty (Tw (fun w' => Blk w' gd 98 (A15 c.wk c.ou c.lo c.hi c.bk c.rg (some ⟨g, 0, none⟩) n cap) ∧ Blk w' gb 92 (A10 b0 b1 b2 b3 nx V))) := ⟨⟨_, dx.dn.obj, bb⟩⟩
       refine wp_region_plan (fun w' => Blk w' gd 98 (A15 c.wk c.ou c.lo c.hi c.bk c.rg (some ⟨g, 0, none⟩) n cap) ∧ Blk w' gb 92 (A10 b0 b1 b2 b3 nx V)) [(0, true), (1, true), (2, true), (3, true), (4, true), (5, true), (6, true), (7, false)] (by kernel_rfl) (by kernel_rfl) (by kernel_rfl) (by kernel_rfl) ⟨dx.dn.obj.drew, bb.drew⟩ ?_
       replace dx := dx.bel_ (Below.refl _ _).drew
       replace bb := bb.drew
       generalize W5.drew = W6 at *
       refine wpPl_qs 7 _ _ _ (by kernel_rfl) (by kernel_rfl) (by simp) ?_
       unfold clsS
       simp only [qq1, qq2, qq3, qq4, List.filterMap_cons, qq6, qq7, qq8, qq9]
       repeat (first
        | go_big_quiet_skip
        | (go_big_quiet_want; first | (refine quiet_ldRow rfl rfl zb Tryz.underlying92 rbd_size ?_; go_simp; go_big_quiet_on) | (go_big_quiet_op; go_big_quiet_on))
        | (refine id (?_ : wpQuiet _ _ _ _ (_ :: _) _); first | go_big_quiet_skip | (go_big_quiet_want; first | (refine quiet_ldRow rfl rfl zb Tryz.underlying92 rbd_size ?_; go_simp; go_big_quiet_on) | (go_big_quiet_op; go_big_quiet_on))))
       refine wpQuiet_nil ?_
       clear zg zb zz
       obtain ⟨dn6, up6, k86⟩ := dx.dn.setB hi0'.out S
       have hth := dx.dn.there hn hi0'.out
       rw [hScs.out] at dn6 up6 k86
       rw [hL2.out] at dn6
       refine wpPl_e _ (by rfl) (by kernel_rfl) (fun K hK => ?_)
       refine wp_store_mid 92 _ _ rfl g (k * 6) _ rfl rfl hth rbd_size (by simp [Value.oneCell']) ?_
       refine hK _ _ ⟨dn6.obj, bb.upd up6 (fun e => hgg e.symm)⟩ ?_
       clear hK K hth
       unfold wpPl
       refine NoPanic.normal ?_
       go_wp2_with fail
       refine Met.intro ?_
       go_step
       refine frm_meet (by kernel_rfl) ?_
       exact ⟨⟨rfl, rfl, rfl, rfl⟩, rfl, _, _, dn6, dx.bx.upd up6 (fun e => hgx e), bb.upd up6 (fun e => hgg e.symm), (Upd.of_below dx.bel _).trans (up6.mono fun k _ e => .inr (by rw [e]; rfl)), (Keep8.of_below dx.bel).trans k86⟩
      | false =>
       simp only [Bool.false_eq_true, if_false] at hV
       subst hV
       go_upto_region 16 with fail
       have zg : ∀ t : Tw (fun w' => Blk w' gd 98 (A15 c.wk c.ou c.lo c.hi c.bk c.rg (some ⟨g, 0, none⟩) n cap) ∧ Blk w' gb 92 (A10 b0 b1 b2 b3 nx b5)), t.w.cell? ⟨gd, 6, none⟩ = some (.slice (some ⟨g, 0, none⟩) n cap) := fun t => t.h.1.cell 6
       have zb : ∀ w', (∃ t : Tw (fun w' => Blk w' gd 98 (A15 c.wk c.ou c.lo c.hi c.bk c.rg (some ⟨g, 0, none⟩) n cap) ∧ Blk w' gb 92 (A10 b0 b1 b2 b3 nx b5)), w' = t.w) → Blk w' gb 92 (A10 b0 b1 b2 b3 nx b5) := fun w' ⟨t, ht⟩ => ht ▸ t.h.2
       have zz : Nonempty (Tw (fun w' => Blk w' gd 98 (A15 c.wk c.ou c.lo c.hi c.bk c.rg (some ⟨g, 0, none⟩) n cap) ∧ Blk w' gb 92 (A10 b0 b1 b2 b3 nx b5))) := ⟨⟨_, dx.dn.obj, bb⟩⟩
       refine wp_region_plan (fun w' => Blk w' gd 98 (A15 c.wk c.ou c.lo c.hi c.bk c.rg (some ⟨g, 0, none⟩) n cap) ∧ Blk w' gb 92 (A10 b0 b1 b2 b3 nx b5)) [(0, true), (1, true), (2, true), (3, true), (4, true), (5, true), (6, true), (7, false)] (by kernel_rfl) (by kernel_rfl) (by kernel_rfl) (by kernel_rfl) ⟨dx.dn.obj.drew, bb.drew⟩ ?_
       replace dx := dx.bel_ (Below.refl _ _).drew
       replace bb := bb.drew
       generalize W3.drew = W6 at *
       refine wpPl_qs 7 _ _ _ (by kernel_rfl) (by kernel_rfl) (by simp) ?_
       unfold clsS
       simp only [qq1, qq2, qq3, qq4, List.filterMap_cons, qq6, qq7, qq8, qq9]
       repeat (first
        | go_big_quiet_skip
        | (go_big_quiet_want; first | (refine quiet_ldRow rfl rfl zb Tryz.underlying92 rbd_size ?_; go_simp; go_big_quiet_on) | (go_big_quiet_op; go_big_quiet_on))
        | (refine id (?_ : wpQuiet _ _ _ _ (_ :: _) _); first | go_big_quiet_skip | (go_big_quiet_want; first | (refine quiet_ldRow rfl rfl zb Tryz.underlying92 rbd_size ?_; go_simp; go_big_quiet_on) | (go_big_quiet_op; go_big_quiet_on))))
       refine wpQuiet_nil ?_
       clear zg zb zz
       obtain ⟨dn6, up6, k86⟩ := dx.dn.setB hi0'.out S
       have hth := dx.dn.there hn hi0'.out
       rw [hScs.out] at dn6 up6 k86
       rw [hL2.out] at dn6
       refine wpPl_e _ (by rfl) (by kernel_rfl) (fun K hK => ?_)
       refine wp_store_mid 92 _ _ rfl g (k * 6) _ rfl rfl hth rbd_size (by simp [Value.oneCell']) ?_
       refine hK _ _ ⟨dn6.obj, bb.upd up6 (fun e => hgg e.symm)⟩ ?_
       clear hK K hth
       unfold wpPl
       refine NoPanic.normal ?_
       go_wp2_with fail
       refine Met.intro ?_
       go_step
       refine frm_meet (by kernel_rfl) ?_
       exact ⟨⟨rfl, rfl, rfl, rfl⟩, rfl, _, _, dn6, dx.bx.upd up6 (fun e => hgx e), bb.upd up6 (fun e => hgg e.symm), (Upd.of_below dx.bel _).trans (up6.mono fun k _ e => .inr (by rw [e]; rfl)), (Keep8.of_below dx.bel).trans k86⟩
    intro a' wx hcut
    obtain ⟨v, rfl, cm, hv11, tr, se, dy⟩ := hcut
    have hfr := frm_lit v
    rw [cm.v0, cm.v3, cm.v6, cm.v8, hv11] at hfr
    rw [hfr]
    clear hfr cm hv11 dx bb
    have x0 := dy.bx.cell 0
    have hpo := hpo3.out
    go_upto_region 18 with fail
    clear x0
    have z1 : ∀ t : Tw (fun w' => Blk w' w.heap.size 50 (A13 true xA xn xc ti po) ∧ Blk w' gd 98 (A15 c.wk c.ou c.lo c.hi c.bk c.rg (some ⟨g, 0, none⟩) n cap) ∧ Blk w' gb 92 (A10 b0 b1 b2 b3 tr se)), t.w.cell? ⟨w.heap.size, 1, none⟩ = some (.slice xA xn xc) := fun t => t.h.1.cell 1
    have z2 : ∀ t : Tw (fun w' => Blk w' w.heap.size 50 (A13 true xA xn xc ti po) ∧ Blk w' gd 98 (A15 c.wk c.ou c.lo c.hi c.bk c.rg (some ⟨g, 0, none⟩) n cap) ∧ Blk w' gb 92 (A10 b0 b1 b2 b3 tr se)), t.w.cell? ⟨gd, 1, none⟩ = some (.int .u32 c.ou) := fun t => t.h.2.1.cell 1
    have z3 : ∀ t : Tw (fun w' => Blk w' w.heap.size 50 (A13 true xA xn xc ti po) ∧ Blk w' gd 98 (A15 c.wk c.ou c.lo c.hi c.bk c.rg (some ⟨g, 0, none⟩) n cap) ∧ Blk w' gb 92 (A10 b0 b1 b2 b3 tr se)), t.w.cell? ⟨gb, 3, none⟩ = some (.int .i64 b3) := fun t => t.h.2.2.cell 3
    have zz : Nonempty (Tw (fun w' => Blk w' w.heap.size 50 (A13 true xA xn xc ti po) ∧ Blk w' gd 98 (A15 c.wk c.ou c.lo c.hi c.bk c.rg (some ⟨g, 0, none⟩) n cap) ∧ Blk w' gb 92 (A10 b0 b1 b2 b3 tr se))) := ⟨⟨_, dy.bx, dy.dn.obj, dy.bb⟩⟩
    have hwp : IntKind.u16.wrap b3 = b3 := by rw [IntKind.wrap_u16]; omega
    replace dy := dy.drew
    refine wp_region_plan (fun w' => Blk w' w.heap.size 50 (A13 true xA xn xc ti po) ∧ Blk w' gd 98 (A15 c.wk c.ou c.lo c.hi c.bk c.rg (some ⟨g, 0, none⟩) n cap) ∧ Blk w' gb 92 (A10 b0 b1 b2 b3 tr se)) [(0, true), (1, true), (2, true), (3, true), (4, true), (5, true), (6, true), (7, true), (8, true), (9, true), (10, false), (11, true), (12, true), (13, true), (14, true)] (by kernel_rfl) (by kernel_rfl) (by kernel_rfl) (by kernel_rfl) ⟨dy.bx, dy.dn.obj, dy.bb⟩ ?_
    generalize wx.drew = W8 at *
    refine wpPl_qs 10 _ _ _ (by kernel_rfl) (by kernel_rfl) (by simp) ?_
    unfold clsS
    simp only [qq1, qq2, qq3, qq4, List.filterMap_cons, qq6, qq7, qq8, qq9]
    repeat (first | go_big_quiet_skip | (go_big_quiet_want; go_big_quiet_op; go_big_quiet_on) | refine id (?_ : wpQuiet _ _ _ _ (_ :: _) _))
    refine wpQuiet_nil ?_
    clear z1 z2 z3
    refine wpPl_e _ (by rfl) (by kernel_rfl) (fun K hK => ?_)
    go_simp
    refine (drw_any true l xA xn xc c.ou b3 W8 ((hr.keep8 dy.k8).more dy.up.size) hlc hcm hl hou (by omega)).mono ?_
    intro e W9 hch
    obtain ⟨vA, vn, vc, rfl, own, hb9⟩ := chg_own (rwL_nil _ _ _ _) hch
    have own' := own.mono_ dy.up.size
    replace dy := dy.bel_ hb9
    refine hK _ _ ⟨dy.bx, dy.dn.obj, dy.bb⟩ ?_
    clear hK K hch hb9 own
    refine wpPl_qs 4 _ _ _ (by kernel_rfl) (by kernel_rfl) (by simp) ?_
    unfold clsS
    simp only [qq1, qq2, qq3, qq4, List.filterMap_cons, qq6, qq7, qq8, qq9]
    repeat (first | go_big_quiet_skip | (go_big_quiet_want; go_big_quiet_op; go_big_quiet_on) | refine id (?_ : wpQuiet _ _ _ _ (_ :: _) _))
    refine wpQuiet_nil ?_
    unfold wpPl
    refine NoPanic.normal ?_
    go_wp2_with fail
    go_ret2
    obtain rfl := hRR.out
    obtain rfl := hL1.out
    exact ⟨_, _, rfl, own', dy.dn, dy.up, dy.k8⟩
   | false =>
    simp only [Bool.false_eq_true, if_false, Bool.and_eq_true, beq_iff_eq] at hmb
    obtain ⟨rfl, rfl⟩ := hmb
    have hgx : w.heap.size ≠ g := by omega
    obtain ⟨L1, hL1⟩ : ∃ L1, (if er = true then L else L.set k (seenB ⟨⟨b0, b1, b2⟩, b3, b4, b5⟩ ⟨pr, sr, ds, pf, ki, co, er, ⟨isz, i1, i2, i3, i4, i5⟩, pat, ba⟩ false ti)) = L1 := ⟨_, rfl⟩
    replace hL1 := Lib.hid hL1
    have p6 := dx.bp.cell 6
    go_upto_if 93 with fail
    clear q0 q1 q2 q3 x0 y0 y1 y2 p6
    refine wp_cut (fun a' wx => ∃ v : Nat → Value, a' = ⟨(frm v).toArray, []⟩ ∧ DCom gd w.heap.size gf gp v ∧ v 11 = .pointer (some ⟨gb, 0, none⟩) ∧ ∃ tr se, DY w wx base c gd (.slice (some ⟨g, 0, none⟩) n cap) L1 gb (A13 false xA xn xc ti po) (A10 b0 b1 b2 b3 tr se)) ?_ ?_
    rotate_left
    ·intro _ _ _ _
     cases er with
     | true =>
      have hL2 := hL1.out
      simp only [if_true] at hL2
      subst hL2
      go_wp2_with fail
      refine Met.intro ?_
      go_step
      refine frm_meet (by kernel_rfl) ?_
      exact ⟨⟨rfl, rfl, rfl, rfl⟩, rfl, b4, b5, dx.dn, dx.bx, bb, Upd.of_below dx.bel _, Keep8.of_below dx.bel⟩
     | false =>
      obtain rfl := hpro.out rfl
      have kn := fun W => rNext_any b0 b4 false pf W
      have kr := fun W => rRenews_any b0 false W
      obtain ⟨S, hS⟩ : ∃ S, seenB ⟨⟨b0, b1, b2⟩, b3, b4, b5⟩ ⟨b0, sr, ds, pf, ki, co, false, ⟨isz, i1, i2, i3, i4, i5⟩, pat, ba⟩ false ti = S := ⟨_, rfl⟩
      have hScs : BdL S = [.int .i64 b0, .int .u32 b1, .int .u16 b2, .int .i64 b3, .int .i64 (nxt b0 b4 false (fb pf 4) (fb pf 1) (fb pf 2) (fb pf 16)), .int .i64 (if renewsS b0 false = true then (if b5 < ti then ti else b5) else b5)] := by rw [← hS]; rfl
      have hL2 := hL1.out
      simp only [Bool.false_eq_true, if_false] at hL2
      rw [hS] at hL2
      replace hL2 := Lib.hid hL2
      clear hL1
      generalize nxt b0 b4 false (fb pf 4) (fb pf 1) (fb pf 2) (fb pf 16) = nx at *
      generalize hrn : renewsS b0 false = rn at *
      clear hrn hS
      obtain ⟨V, hV⟩ : ∃ V, (if rn = true then (if b5 < ti then ti else b5) else b5) = V := ⟨_, rfl⟩
      rw [hV] at hScs
      replace hScs := Lib.hid hScs
      replace kn := Lib.hid kn
      replace kr := Lib.hid kr
      have hrow : ∀ g', (Value.slice (some ⟨g, 0, none⟩) n cap).ownBlock = some g' → g' ≠ gb := fun g' e => by simp only [Value.ownBlock, Option.some.injEq] at e; omega
      replace hrow := Lib.hid hrow
      have x0 := dx.bx.cell 0
      have y0 := dx.bf.cell 0
      have p3 := dx.bp.cell 3
      have c4 := bb.cell 4
      have f4 := bb.frozen 4
      go_wp2_with fail
      refine (kn.out _).mono ?_
      rintro e w' ⟨rfl, rfl⟩
      go_upto_region 14 with fail
      clear x0 y0 p3 c4 f4 kn
      replace dx := dx.setB bb hgb hrow.out 4 (.int .i64 nx)
      replace bb : Blk (W2.setCell ⟨gb, 4, none⟩ (.int .i64 nx)) gb 92 (A10 b0 b1 b2 b3 nx b5) := bb.set_ 4 (.int .i64 nx)
      generalize W2.setCell ⟨gb, 4, none⟩ (.int .i64 nx) = W3 at *
      have x0 := dx.bx.cell 0
      have y0 := dx.bf.cell 0
      go_wp2_with fail
      refine (kr.out _).mono ?_
      rintro e w' ⟨rfl, rfl⟩
      clear x0 y0 kr
      cases rn with
      | true =>
       simp only [if_true] at hV
       have hVm : max b5 ti = V := by rw [← hV]; omega
       have x2 := dx.bx.cell 2
       have c5 := bb.cell 5
       have f5 := bb.frozen 5
       go_upto_region 16 with fail
       clear x2 c5 f5
       replace dx := dx.setB bb hgb hrow.out 5 (.int .i64 V)
       replace bb : Blk (W3.setCell ⟨gb, 5, none⟩ (.int .i64 V)) gb 92 (A10 b0 b1 b2 b3 nx V) := bb.set_ 5 (.int .i64 V)
       clear hV hVm
       generalize W3.setCell ⟨gb, 5, none⟩ (.int .i64 V) = W5 at *
       have zg : ∀ t : Tw (fun w' => Blk w' gd 98 (A15 c.wk c.ou c.lo c.hi c.bk c.rg (some ⟨g, 0, none⟩) n cap) ∧ Blk w' gb 92 (A10 b0 b1 b2 b3 nx V)), t.w.cell? ⟨gd, 6, none⟩ = some (.slice (some ⟨g, 0, none⟩) n cap) := fun t => t.h.1.cell 6
       have zb : ∀ w', (∃ t : Tw (fun w' => Blk w' gd 98 (A15 c.wk c.ou c.lo c.hi c.bk c.rg (some ⟨g, 0, none⟩) n cap) ∧ Blk w' gb 92 (A10 b0 b1 b2 b3 nx V)), w' = t.w) → Blk w' gb 92 (A10 b0 b1 b2 b3 nx V) := fun w' ⟨t, ht⟩ => ht ▸ t.h.2
       have zz : Nonempty (Tw (fun w' => Blk w' gd 98 (A15 c.wk c.ou c.lo c.hi c.bk c.rg (some ⟨g, 0, none⟩) n cap) ∧ Blk w' gb 92 (A10 b0 b1 b2 b3 nx V))) := ⟨⟨_, dx.dn.obj, bb⟩⟩
       refine wp_region_plan (fun w' => Blk w' gd 98 (A15 c.wk c.ou c.lo c.hi c.bk c.rg (some ⟨g, 0, none⟩) n cap) ∧ Blk w' gb 92 (A10 b0 b1 b2 b3 nx V)) [(0, true), (1, true), (2, true), (3, true), (4, true), (5, true), (6, true), (7, false)] (by kernel_rfl) (by kernel_rfl) (by kernel_rfl) (by kernel_rfl) ⟨dx.dn.obj.drew, bb.drew⟩ ?_
       replace dx := dx.bel_ (Below.refl _ _).drew
       replace bb := bb.drew
       generalize W5.drew = W6 at *
       refine wpPl_qs 7 _ _ _ (by kernel_rfl) (by kernel_rfl) (by simp) ?_
       unfold clsS
       simp only [qq1, qq2, qq3, qq4, List.filterMap_cons, qq6, qq7, qq8, qq9]
       repeat (first
        | go_big_quiet_skip
        | (go_big_quiet_want; first | (refine quiet_ldRow rfl rfl zb Tryz.underlying92 rbd_size ?_; go_simp; go_big_quiet_on) | (go_big_quiet_op; go_big_quiet_on))
        | (refine id (?_ : wpQuiet _ _ _ _ (_ :: _) _); first | go_big_quiet_skip | (go_big_quiet_want; first | (refine quiet_ldRow rfl rfl zb Tryz.underlying92 rbd_size ?_; go_simp; go_big_quiet_on) | (go_big_quiet_op; go_big_quiet_on))))
       refine wpQuiet_nil ?_
       clear zg zb zz
       obtain ⟨dn6, up6, k86⟩ := dx.dn.setB hi0'.out S
       have hth := dx.dn.there hn hi0'.out
       rw [hScs.out] at dn6 up6 k86
       rw [hL2.out] at dn6
       refine wpPl_e _ (by rfl) (by kernel_rfl) (fun K hK => ?_)
       refine wp_store_mid 92 _ _ rfl g (k * 6) _ rfl rfl hth rbd_size (by simp [Value.oneCell']) ?_
       refine hK _ _ ⟨dn6.obj, bb.upd up6 (fun e => hgg e.symm)⟩ ?_
       clear hK K hth
       unfold wpPl
       refine NoPanic.normal ?_
       go_wp2_with fail
       refine Met.intro ?_
       go_step
       refine frm_meet (by kernel_rfl) ?_
       exact ⟨⟨rfl, rfl, rfl, rfl⟩, rfl, _, _, dn6, dx.bx.upd up6 (fun e => hgx e), bb.upd up6 (fun e => hgg e.symm), (Upd.of_below dx.bel _).trans (up6.mono fun k _ e => .inr (by rw [e]; rfl)), (Keep8.of_below dx.bel).trans k86⟩
      | false =>
       simp only [Bool.false_eq_true, if_false] at hV
       subst hV
       go_upto_region 16 with fail
       have zg : ∀ t : Tw (fun w' => Blk w' gd 98 (A15 c.wk c.ou c.lo c.hi c.bk c.rg (some ⟨g, 0, none⟩) n cap) ∧ Blk w' gb 92 (A10 b0 b1 b2 b3 nx b5)), t.w.cell? ⟨gd, 6, none⟩ = some (.slice (some ⟨g, 0, none⟩) n cap) := fun t => t.h.1.cell 6
       have zb : ∀ w', (∃ t : Tw (fun w' => Blk w' gd 98 (A15 c.wk c.ou c.lo c.hi c.bk c.rg (some ⟨g, 0, none⟩) n cap) ∧ Blk w' gb 92 (A10 b0 b1 b2 b3 nx b5)), w' = t.w) → Blk w' gb 92 (A10 b0 b1 b2 b3 nx b5) := fun w' ⟨t, ht⟩ => ht ▸ t.h.2
       have zz : Nonempty (Tw (fun w' => Blk w' gd 98 (A15 c.wk c.ou c.lo c.hi c.bk c.rg (some ⟨g, 0, none⟩) n cap) ∧ Blk w' gb 92 (A10 b0 b1 b2 b3 nx b5))) := ⟨⟨_, dx.dn.obj, bb⟩⟩
       refine wp_region_plan (fun w' => Blk w' gd 98 (A15 c.wk c.ou c.lo c.hi c.bk c.rg (some ⟨g, 0, none⟩) n cap) ∧ Blk w' gb 92 (A10 b0 b1 b2 b3 nx b5)) [(0, true), (1, true), (2, true), (3, true), (4, true), (5, true), (6, true), (7, false)] (by kernel_rfl) (by kernel_rfl) (by kernel_rfl) (by kernel_rfl) ⟨dx.dn.obj.drew, bb.drew⟩ ?_
       replace dx := dx.bel_ (Below.refl _ _).drew
       replace bb := bb.drew
       generalize W3.drew = W6 at *
       refine wpPl_qs 7 _ _ _ (by kernel_rfl) (by kernel_rfl) (by simp) ?_
       unfold clsS
       simp only [qq1, qq2, qq3, qq4, List.filterMap_cons, qq6, qq7, qq8, qq9]
       repeat (first
        | go_big_quiet_skip
        | (go_big_quiet_want; first | (refine quiet_ldRow rfl rfl zb Tryz.underlying92 rbd_size ?_; go_simp; go_big_quiet_on) | (go_big_quiet_op; go_big_quiet_on))
        | (refine id (?_ : wpQuiet _ _ _ _ (_ :: _) _); first | go_big_quiet_skip | (go_big_quiet_want; first | (refine quiet_ldRow rfl rfl zb Tryz.underlying92 rbd_size ?_; go_simp; go_big_quiet_on) | (go_big_quiet_op; go_big_quiet_on))))
       refine wpQuiet_nil ?_
       clear zg zb zz
       obtain ⟨dn6, up6, k86⟩ := dx.dn.setB hi0'.out S
       have hth := dx.dn.there hn hi0'.out
       rw [hScs.out] at dn6 up6 k86
       rw [hL2.out] at dn6
       refine wpPl_e _ (by rfl) (by kernel_rfl) (fun K hK => ?_)
       refine wp_store_mid 92 _ _ rfl g (k * 6) _ rfl rfl hth rbd_size (by simp [Value.oneCell']) ?_
       refine hK _ _ ⟨dn6.obj, bb.upd up6 (fun e => hgg e.symm)⟩ ?_
       clear hK K hth
       unfold wpPl
       refine NoPanic.normal ?_
       go_wp2_with fail
       refine Met.intro ?_
       go_step
       refine frm_meet (by kernel_rfl) ?_
       exact ⟨⟨rfl, rfl, rfl, rfl⟩, rfl, _, _, dn6, dx.bx.upd up6 (fun e => hgx e), bb.upd up6 (fun e => hgg e.symm), (Upd.of_below dx.bel _).trans (up6.mono fun k _ e => .inr (by rw [e]; rfl)), (Keep8.of_below dx.bel).trans k86⟩
    intro a' wx hcut
    obtain ⟨v, rfl, cm, hv11, tr, se, dy⟩ := hcut
    have hfr := frm_lit v
    rw [cm.v0, cm.v3, cm.v6, cm.v8, hv11] at hfr
    rw [hfr]
    clear hfr cm hv11 dx bb
    have x0 := dy.bx.cell 0
    have x1 := dy.bx.cell 1
    have y1 := dy.bb.cell 1
    have y2 := dy.bb.cell 2
    go_wp2_with fail
    refine (drw_any false l xA xn xc b1 b2 wx ((hr.keep8 dy.k8).more dy.up.size) hlc hcm hl hbr.1 hbr.2).mono ?_
    intro e W9 hch
    obtain ⟨vA, vn, vc, rfl, own, hb9⟩ := chg_own (rwL_nil _ _ _ _) hch
    have own' := own.mono_ dy.up.size
    replace dy := dy.bel_ hb9
    clear hch hb9 own x0 x1 y1 y2
    go_wp2_with fail
    go_ret2
    obtain rfl := hRR.out
    obtain rfl := hL1.out
    exact ⟨_, _, rfl, own', dy.dn, dy.up, dy.k8⟩
end Go.Proofs.YtbckoohljkmahaaGreat
