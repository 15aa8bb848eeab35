/- Every input of ModelSteps answers true, and reads behind the call as it read before. No condition. -/
import Derived.Test.YtbckoohljkmahaaGreatPk26
namespace Go.Proofs.YtbckoohljkmahaaGreat
set_option linter.unusedVariables false
set_option linter.unusedSimpArgs false
set_option maxRecDepth 100000
set_option maxHeartbeats 16000000
open Go.RowKit
section
open Go.RowKit Go.Maps
theorem sact_size : (Tryz.prog.info? 52).map (·.size) = some 12 := by kernel_rfl
theorem san_size : (Tryz.prog.info? 55).map (·.size) = some 2 := by kernel_rfl
theorem ModelSteps_bad (c : Cf) (hc : ¬ c.ok) (A : Option Addr) (n cap : Nat) (w : World) (hr : True) :
  Calls Tryz.prog 10 #[.agg (A8 c.wk c.ou c.lo c.hi c.bk c.rg), .slice A n cap] w fun e w' => e = .returned (.bool true) ∧ Below w.heap.size w w' := by
 have kN := fun W => New_bad c W hc
 have kW := fun W => rWrong_bad c W hc
 unfold WrR at kW
 replace kN := Lib.hid kN
 replace kW := Lib.hid kW
 replace hc := Lib.hid hc
 replace hr := Lib.hid hr
 have hfld : ∀ w, (Instr.field 55 (.agg (A19 none 0 0 1)) 1).run Tryz.prog w = .ok (.int .i64 1) w := fun w => by kernel_rfl
 go_enter Tryz.func10, Tryz.ntmps10
 go_upto_region 1 with fail
 have bc := Blk.new w 27 (A8 c.wk c.ou c.lo c.hi c.bk c.rg)
 have bel := bel_alloc w (.cells (A8 c.wk c.ou c.lo c.hi c.bk c.rg) 27)
 generalize w.alloc (.cells (A8 c.wk c.ou c.lo c.hi c.bk c.rg) 27) = W0 at *
 go_upto_region 3 with (first
  | (go_at_call 19; refine (binds_any _).mono ?_; rintro e w1 ⟨rfl, b1⟩)
  | (go_at_call 32; refine (none_any _).mono ?_; rintro e w' ⟨rfl, rfl⟩)
  | (go_at_call 22; refine (Step_nil _).mono ?_; rintro e w2 ⟨rfl, b2⟩)
  | (go_at_call 27; refine (Expire_nil _ _ _ _).mono ?_; rintro e w' ⟨rfl, rfl⟩)
  | (go_at_call 23; refine (Bindings_nil _).mono ?_; rintro e w' ⟨rfl, rfl⟩)
  | (go_at_call 33; refine (Copy_nil _).mono ?_; rintro e w' ⟨rfl, rfl⟩))
 clear hfld
 replace bc := (bc.bel b1).bel b2
 replace bel := bel_after (bel_after bel b1) b2
 clear b1 b2
 go_wp2_with (refine wpList_ldRow rfl rfl rfl bc Tryz.underlying27 rcf_size ?_)
 refine (To_any c _).mono ?_
 rintro e w3 ⟨rfl, hb⟩
 replace bc := bc.bel hb
 replace bel := bel_after bel hb
 clear hb
 go_wp2_with fail
 refine (kN.out _).mono ?_
 rintro e w4 ⟨rfl, hb⟩
 replace bc := bc.bel hb
 replace bel := bel_after bel hb
 clear hb
 go_wp2_with (refine wpList_ldRow rfl rfl rfl bc Tryz.underlying27 rcf_size ?_)
 refine (kW.out _).mono ?_
 rintro e w5 ⟨s, rfl, hs, hb⟩
 replace bel := bel_after bel hb
 clear hb kW kN bc
 go_wp2_with fail
 go_ret
 exact ⟨rfl, bel⟩
theorem ModelSteps_ok (c : Cf) (hc : c.ok) (hou : 0 ≤ c.ou ∧ c.ou ≤ 4294967295) (A : Option Addr) (n cap : Nat) (w : World) (hr : AcRd w A n) (hnc : n ≤ cap) (hcm : cap ≤ 9223372036854775807) :
  Calls Tryz.prog 10 #[.agg (A8 c.wk c.ou c.lo c.hi c.bk c.rg), .slice A n cap] w fun e w' => e = .returned (.bool true) ∧ Below w.heap.size w w' := by
 have kN := fun W => New_ok c W hc
 have kW := fun W => rWrong_ok c W hc
 replace kN := Lib.hid kN
 replace kW := Lib.hid kW
 replace hc := Lib.hid hc
 replace hou := Lib.hid hou
 replace hr := Lib.hid hr
 have hfld : ∀ w, (Instr.field 55 (.agg (A19 none 0 0 1)) 1).run Tryz.prog w = .ok (.int .i64 1) w := fun w => by kernel_rfl
 go_enter Tryz.func10, Tryz.ntmps10
 go_upto_region 1 with fail
 have bc := Blk.new w 27 (A8 c.wk c.ou c.lo c.hi c.bk c.rg)
 have bel := bel_alloc w (.cells (A8 c.wk c.ou c.lo c.hi c.bk c.rg) 27)
 generalize w.alloc (.cells (A8 c.wk c.ou c.lo c.hi c.bk c.rg) 27) = W0 at *
 go_upto_region 3 with (first
  | (go_at_call 19; refine (binds_any _).mono ?_; rintro e w1 ⟨rfl, b1⟩)
  | (go_at_call 32; refine (none_any _).mono ?_; rintro e w' ⟨rfl, rfl⟩)
  | (go_at_call 22; refine (Step_nil _).mono ?_; rintro e w2 ⟨rfl, b2⟩)
  | (go_at_call 27; refine (Expire_nil _ _ _ _).mono ?_; rintro e w' ⟨rfl, rfl⟩)
  | (go_at_call 23; refine (Bindings_nil _).mono ?_; rintro e w' ⟨rfl, rfl⟩)
  | (go_at_call 33; refine (Copy_nil _).mono ?_; rintro e w' ⟨rfl, rfl⟩))
 clear hfld
 replace bc := (bc.bel b1).bel b2
 replace bel := bel_after (bel_after bel b1) b2
 clear b1 b2
 go_wp2_with (refine wpList_ldRow rfl rfl rfl bc Tryz.underlying27 rcf_size ?_)
 refine (To_any c _).mono ?_
 rintro e w3 ⟨rfl, hb⟩
 replace bc := bc.bel hb
 replace bel := bel_after bel hb
 clear hb
 go_wp2_with fail
 refine (kN.out _).mono ?_
 intro e w4 hN
 have hbN : Below w3.heap.size w3 w4 := by obtain ⟨_, _, _, _, _, hb, _⟩ := hN; exact hb
 obtain ⟨gn, pb, fm, rfl, ln⟩ := LN.made bel hN
 replace bc := bc.bel hbN
 clear hN hbN bel kN
 go_wp2_with (refine wpList_ldRow rfl rfl rfl bc Tryz.underlying27 rcf_size ?_)
 refine (kW.out _).mono ?_
 rintro e w5 ⟨rfl, hb⟩
 replace bc := bc.bel hb
 replace ln := ln.bel_ hb
 clear hb kW
 have bd := Blk.new w5 98 (A15 c.wk c.ou c.lo c.hi c.bk c.rg none 0 0)
 replace ln := ln.bel_ (bel_alloc w5 (.cells (A15 c.wk c.ou c.lo c.hi c.bk c.rg none 0 0) 98))
 go_upto_region 7 with (refine wpList_ldRow rfl rfl rfl bc Tryz.underlying27 rcf_size ?_)
 clear bc
 have mb : MB w (w5.alloc (.cells (A15 c.wk c.ou c.lo c.hi c.bk c.rg none 0 0) 98)) c gn pb fm 0 0 w5.heap.size (.slice none 0 0) [] := ⟨ln, ⟨bd, OwnT.nil _ _ _ _ _⟩, by have := ln.bel.size; simp at this; have h2 := ln.hg; have h3 := ln.nm.obj.lt; simp at h3; omega⟩
 clear bd ln
 generalize w5.alloc (.cells (A15 c.wk c.ou c.lo c.hi c.bk c.rg none 0 0) 98) = W6 at *
 generalize w5.heap.size = gd at *
 go_wp2_with fail
 go_loopw [8] (fun i wr => ∃ (k np nf : Nat) (L : List Bd) (va : Value), k ≤ n ∧ k ≤ 50 ∧ i = .int .i64 k ∧ MB w wr c gn pb fm np nf gd va L ∧ np ≤ k ∧ nf ≤ k) (fun i _ => n - (intOf i).toNat)
 case atStart => exact ⟨0, 0, 0, [], _, by omega, by omega, rfl, mb, by omega, by omega⟩
 case round =>
  clear mb
  obtain ⟨k, np, nf, L, va, hk, hk30, rfl, mb, hnp, hnf⟩ := hrel
  by_cases hlt : k < n ∧ k < 50
  ·obtain ⟨hlt, hlt30⟩ := hlt
   obtain ⟨b, o, rfl, hbl, hcl⟩ := hr.out (by omega)
   obtain ⟨x, hx, hcl⟩ := hcl k hlt
   have hcx : ∀ j u, ([.int .i64 x.wh, .bool x.out, .int .i64 x.wt, .int .i64 x.wo, .int .i64 x.po, .int .i64 x.f, .slice x.A x.n x.c, .int .i64 x.be, .int .u8 x.by_, .int .i64 x.ti, .int .i64 x.pt, .slice x.RA x.rn x.rc] : List Value)[j]? = some u → wr.cell? ⟨b, o + k * 12 + j, none⟩ = some u := fun j u hu => (mb.ln.bel.cell (p := ⟨b, o + k * 12 + j, none⟩) hbl).trans (hcl j u hu)
   clear hcl
   replace hx := Lib.hid hx
   have d1 : decide (k < n) = true := by simpa using hlt
   have d2 : decide ((k : Int) < 50) = true := by simp; omega
   have d3 : decide ((k : Int) < (n : Int)) = true := by simpa using hlt
   have k0 : (0 : Int) ≤ (k : Int) := by omega
   have k1 : (k : Int) < (n : Int) := by omega
   have ba := (Blk.new wr 52 Z12).setRow (A16 x.wh x.out x.wt x.wo x.po x.f x.A x.n x.c x.be x.by_ x.ti x.pt x.RA x.rn x.rc)
   have hbA : Below wr.heap.size wr ((wr.alloc (.cells Z12 52)).setRow wr.heap.size (A16 x.wh x.out x.wt x.wo x.po x.f x.A x.n x.c x.be x.by_ x.ti x.pt x.RA x.rn x.rc)) := below_setRow (bel_alloc _ _) (Nat.le_refl _) _
   replace mb := mb.bel_ hbA
   go_upto_region 11 with (first
    | (refine wpList_ldAt rfl rfl rfl hcx Tryz.underlying52 act_size ?_)
    | (refine wpList_stRow rfl rfl rfl rfl rfl (Blk.new wr _ _) sact_size rfl (by simp [Value.oneCell']) ?_; generalize (wr.alloc (.cells Z12 52)).setRow wr.heap.size (A16 x.wh x.out x.wt x.wo x.po x.f x.A x.n x.c x.be x.by_ x.ti x.pt x.RA x.rn x.rc) = W7 at *; generalize wr.heap.size = ga at *))
   clear hcx hbA
   have hL50 : L.length ≤ 60 := by have := mb.ln.nm.pl.len; omega
   have kc1 := Copy_any c gn pb fm np nf L W7 mb.ln.nm
   replace kc1 := Lib.hid kc1
   go_wp2_with fail
   refine kc1.out.mono ?_
   intro e1 W8 h1
   have hbC : Below W7.heap.size W7 W8 := by obtain ⟨_, _, _, _, _, hb, _⟩ := h1; exact hb
   have kc2 := rCopy_any c w.heap.size gd va L W8 (mb.dn.bel hbC) (by omega)
   obtain ⟨go', po', fo', he1, h1'⟩ := h1
   subst he1
   replace kc2 := Lib.hid kc2
   go_wp2_with fail
   refine kc2.out.mono ?_
   intro e2 W9 h2
   have hbD : Below W8.heap.size W8 W9 := by obtain ⟨_, _, _, _, hb, _⟩ := h2; exact hb
   obtain ⟨go, po, fo, gv, vv, he1, rfl, mr⟩ := mb.copied ⟨go', po', fo', rfl, h1'⟩ h2
   simp only [Ending.returned.injEq, Value.pointer.injEq, Option.some.injEq, Addr.mk.injEq, and_true] at he1
   subst he1
   replace ba := (ba.bel hbC).bel hbD
   clear hbC hbD h1' h2 kc1 kc2 mb
   have a0 := ba.cell 0
   go_upto_if 80 with fail
   clear a0
   go_cut [] (fun wx => ∃ (np' nf' : Nat) (va' : Value) (L' : List Bd), MB w wx c gn pb fm np' nf' gd va' L' ∧ LN w wx c go' po fo np nf L ∧ DN wx w.heap.size c gv vv L ∧ np' ≤ k + 1 ∧ nf' ≤ k + 1)
   case first =>
    by_cases h8 : 8 ≤ x.wh
    ·have e8 : decide (8 ≤ x.wh) = true := by simpa using h8
     have hga := ba.lt
     have a2 := ((ba.alloc (.cells (A25 1 6 17 4) 3)).cell 2)
     obtain ⟨j, hj, hj4⟩ := modn x.wt 4 (by omega)
     have hjv : Value.int .u64 ((IntKind.u64.wrap x.wt).tmod 4) = .int .u64 (j : Int) := by rw [hj]
     clear hj
     go_upto_region 13 with fail
     go_cut [12] (fun s wx => ∃ pv, s = .int .i64 pv ∧ Below W9.heap.size W9 wx)
     case first =>
      rcases (by omega : j = 0 ∨ j = 1 ∨ j = 2 ∨ j = 3) with rfl | rfl | rfl | rfl
      all_goals
       go_wp2_with fail
       go_meet
       exact ⟨_, rfl, bel_alloc _ _⟩
     case rest =>
      obtain ⟨pv, rfl, hbx⟩ := hcut
      replace mr := mr.bel_ hbx
      replace ba := ba.bel hbx
      clear hbx a2 hjv
      obtain ⟨pq, hpq⟩ : ∃ pq, wrap64 (998 + x.pt.tmod 44) = pq := ⟨_, rfl⟩
      have kE := fun V (h : NatM V c gn pb fm np nf L) => Expire_any c gn pb fm np nf L pv pq x.ti V h hc.out
      have kD := fun V (h : DN V w.heap.size c gd va L) (hb : w.heap.size ≤ V.heap.size) => rExp_any c w.heap.size gd va L pv pq x.ti V h mr.mb.ln.nm.inv (by omega) hb
      generalize expP c L pv pq x.ti = R at kE kD
      obtain ⟨L', B⟩ := R
      unfold ExpR at kE
      unfold DExR at kD
      simp only at kE kD
      replace kE := Lib.hid kE
      replace kD := Lib.hid kD
      go_upto_region 14 with fail
      have z9 : ∀ t : Tw (fun w' => Blk w' ga 52 (A16 x.wh x.out x.wt x.wo x.po x.f x.A x.n x.c x.be x.by_ x.ti x.pt x.RA x.rn x.rc)), t.w.cell? ⟨ga, 9, none⟩ = some (.int .i64 x.ti) := fun t => t.h.cell 9
      have z10 : ∀ t : Tw (fun w' => Blk w' ga 52 (A16 x.wh x.out x.wt x.wo x.po x.f x.A x.n x.c x.be x.by_ x.ti x.pt x.RA x.rn x.rc)), t.w.cell? ⟨ga, 10, none⟩ = some (.int .i64 x.pt) := fun t => t.h.cell 10
      have zz : Nonempty (Tw (fun w' => Blk w' ga 52 (A16 x.wh x.out x.wt x.wo x.po x.f x.A x.n x.c x.be x.by_ x.ti x.pt x.RA x.rn x.rc))) := ⟨⟨_, ba⟩⟩
      refine wp_region_plan (fun w' => Blk w' ga 52 (A16 x.wh x.out x.wt x.wo x.po x.f x.A x.n x.c x.be x.by_ x.ti x.pt x.RA x.rn x.rc)) [(0, true), (1, true), (2, true), (3, true), (4, true), (5, true), (6, true), (7, true), (8, true), (10, true), (11, true), (12, true), (13, true), (14, true), (15, true), (16, true), (17, true), (18, true), (9, false), (19, false), (20, true)] (by kernel_rfl) (by kernel_rfl) (by kernel_rfl) (by kernel_rfl) ba.drew ?_
      replace mr := mr.drew
      replace ba := ba.drew
      generalize wc.drew = V0 at *
      refine wpPl_qs 18 _ _ _ (by kernel_rfl) (by kernel_rfl) (by simp) ?_
      unfold clsS
      simp only [qq1, qq2, qq3, qq4, List.filterMap_cons, qq6, qq7, qq8, qq9]
      repeat (first | go_big_quiet_skip | (go_big_quiet_want; go_big_quiet_op; go_big_quiet_on) | refine id (?_ : wpQuiet _ _ _ _ (_ :: _) _))
      refine wpQuiet_nil ?_
      refine wpPl_e _ (by rfl) (by kernel_rfl) (fun K hK => ?_)
      go_simp
      refine (kE.out _ mr.mb.ln.nm).mono ?_
      rintro e V1 ⟨rfl, hm1, hu1⟩
      have ln1 := mr.mb.ln.step hm1 hu1
      obtain ⟨_, dn1, _, _⟩ := mr.nstep ln1 hu1
      have ba1 := mr.mb.ln.nm.keepB ba hu1
      refine hK _ _ ba1 ?_
      clear hK K
      refine wpPl_e _ (by rfl) (by kernel_rfl) (fun K hK => ?_)
      go_simp
      refine (kD.out V1 dn1 ln1.bel.size).mono ?_
      rintro e V2 ⟨rfl, va', dn2, hu2, _⟩
      obtain ⟨mb2, lo2, dv2⟩ := mr.both ln1 hu1 (Below.refl _ _) dn2 hu2
      refine hK _ _ (ba1.upd hu2 (dn1.notS ba1 (by decide) (by decide))) ?_
      clear hK K
      refine wpPl_qs 1 _ _ _ (by kernel_rfl) (by kernel_rfl) (by simp) ?_
      unfold clsS
      simp only [qq1, qq2, qq3, qq4, List.filterMap_cons, qq6, qq7, qq8, qq9]
      repeat (first | go_big_quiet_skip | (go_big_quiet_want; go_big_quiet_op; go_big_quiet_on) | refine id (?_ : wpQuiet _ _ _ _ (_ :: _) _))
      refine wpQuiet_nil ?_
      unfold wpPl
      refine NoPanic.normal ?_
      clear z9 z10 zz
      go_wp2_with fail
      go_meet
      exact ⟨np, nf, va', L', mb2, lo2, dv2, by omega, by omega⟩
    ·have e8 : decide (8 ≤ x.wh) = false := by simpa using h8
     have kc := Call_of (hx.out.bel mr.mb.ln.bel)
     unfold CallT at kc
     replace kc := Lib.hid kc
     go_wp2_with (refine wpList_ldRow rfl rfl rfl ba Tryz.underlying52 sact_size ?_)
     refine kc.out.mono ?_
     rintro e V1 ⟨oo, cA, cn, cc, F, cp, rfl, hcn, hcc, hcm2, rd, hb⟩
     replace mr := mr.bel_ hb
     clear hb kc ba
     have bx := (Blk.new V1 50 Z8).setRow (A13 oo cA cn cc x.ti cp)
     have hbB : Below V1.heap.size V1 ((V1.alloc (.cells Z8 50)).setRow V1.heap.size (A13 oo cA cn cc x.ti cp)) := below_setRow (bel_alloc _ _) (Nat.le_refl _) _
     replace mr := mr.bel_ hbB
     replace rd := (rd.below hbB).more hbB.size
     clear hbB
     go_upto_region 17 with (refine wpList_stRow rfl rfl rfl rfl rfl (Blk.new V1 _ _) rcall_size rfl (by simp [Value.oneCell']) ?_; generalize (V1.alloc (.cells Z8 50)).setRow V1.heap.size (A13 oo cA cn cc x.ti cp) = V2 at *; generalize V1.heap.size = gx at *)
     have c1 := bx.cell 1
     have s3 := conv_rd (P := Tryz.prog) rd 22 5 9 (cap := cc) Tryz.underlying22 Tryz.underlying5 Tryz.underlying9
     go_upto_region 18 with fail
     clear s3
     have kS := mr.mb.ln.stp hc.out hou.out (by omega) (by omega) oo cA cn cc x.ti cp F rd hcc hcm2 (by omega)
     have kD := fun V (h : DN V w.heap.size c gd va L) (hb : w.heap.size ≤ V.heap.size) (hr' : Rd .u8 V V.heap.size cA cn F) => dStep_any c w.heap.size gd va L oo cA cn cc x.ti cp F V h mr.mb.ln.nm.inv hc.out hou.out hr' hcc hcm2 (by omega) (by omega) hb
     generalize stepP c L oo F x.ti cp = R at kS kD
     obtain ⟨L', E, X⟩ := R
     unfold StR at kS
     unfold DStR at kD
     simp only at kS kD
     replace kS := Lib.hid kS
     replace kD := Lib.hid kD
     have c0 := bx.cell 0
     have c2 := bx.cell 2
     have c3 := bx.cell 3
     go_wp2_with fail
     refine kS.out.mono ?_
     rintro e V3 ⟨v, np', nf', rfl, ownY, ln1, h1, h2, hu1⟩
     clear kS c0 c1 c2 c3
     obtain ⟨_, dn1, _, _⟩ := mr.nstep ln1 hu1
     have bx1 := mr.mb.ln.nm.keepB bx hu1
     have rd1 := (rd.keep8 (Keep8.ofM mr.mb.ln.nm hu1)).more hu1.size
     clear rd bx
     obtain ⟨X', hXl⟩ : ∃ n, X.length = n := ⟨_, rfl⟩
     obtain ⟨yA, yc, rfl, hy1, hy2, rdY⟩ := ownY.form hXl
     clear ownY
     have bz := (Blk.new V3 55 Z4).setRow (A19 yA X' yc E)
     have hbZ : Below V3.heap.size V3 ((V3.alloc (.cells Z4 55)).setRow V3.heap.size (A19 yA X' yc E)) := below_setRow (bel_alloc _ _) (Nat.le_refl _) _
     go_upto_region 19 with (refine wpList_stRow rfl rfl rfl rfl rfl (Blk.new V3 _ _) san_size rfl (by simp [Value.oneCell']) ?_; generalize (V3.alloc (.cells Z4 55)).setRow V3.heap.size (A19 yA X' yc E) = V4 at *)
     have dn4 := dn1.bel hbZ
     have bx4 := bx1.bel hbZ
     have rd4 := (rd1.below hbZ).more hbZ.size
     have rdY4 := (rdY.below hbZ).more hbZ.size
     have s4 := Nat.le_trans ln1.bel.size hbZ.size
     have kD4 := kD.out V4 dn4 s4 rd4
     replace kD4 := Lib.hid kD4
     clear kD dn1 bx1 rd1 rdY
     go_wp2_with (refine wpList_ldRow rfl rfl rfl bx4 Tryz.underlying50 rcall_size ?_)
     refine kD4.out.mono ?_
     rintro e V5 ⟨v2, va', rfl, ownB, dn5, hu2, k8⟩
     obtain ⟨mb5, lo5, dv5⟩ := mr.both ln1 hu1 hbZ dn5 hu2
     have bx5 := bx4.upd hu2 (dn4.notS bx4 (by decide) (by decide))
     have bz5 := bz.upd hu2 (dn4.notS bz (by decide) (by decide))
     obtain ⟨bA, bc2, rfl, _, _, rdB⟩ := ownB.form hXl
     have s1 := conv_rd (P := Tryz.prog) (rdY4.keep8 k8) 22 5 9 (cap := yc) Tryz.underlying22 Tryz.underlying5 Tryz.underlying9
     have s2 := conv_rd (P := Tryz.prog) rdB 22 5 9 (cap := bc2) Tryz.underlying22 Tryz.underlying5 Tryz.underlying9
     have s3 := conv_rd (P := Tryz.prog) (rd4.keep8 k8) 22 5 9 (cap := cc) Tryz.underlying22 Tryz.underlying5 Tryz.underlying9
     have y0 := bz5.cell 0
     have y1 := bz5.cell 1
     have x1 := bx5.cell 1
     clear kD4 bx4 bz rd4 rdY4 rdB ownB dn4 hbZ hu1 hu2 k8 ln1 mr
     go_wp2_with fail
     go_meet
     exact ⟨np', nf', va', L', mb5, lo5, dv5, by omega, by omega⟩
   case rest =>
    clear mr ba
    obtain ⟨np', nf', va', L', mb, lo, dv, hp1, hf1⟩ := hcut
    obtain ⟨m, hm⟩ : ∃ m, L'.length = m := ⟨_, rfl⟩
    obtain ⟨q, hq⟩ : ∃ q, L.length = q := ⟨_, rfl⟩
    have hm60 : m ≤ 60 := by have := mb.ln.nm.pl.len; omega
    obtain ⟨vA, vc, rfl, hv1, hv2⟩ := mb.dn.row.form hm
    obtain ⟨uA, uc, rfl, hu1, hu2⟩ := dv.row.form hq
    replace hm := Lib.hid hm
    replace hq := Lib.hid hq
    go_upto_region 22 with fail
    have zd : ∀ t : Tw (fun w' => Blk w' gd 98 (A15 c.wk c.ou c.lo c.hi c.bk c.rg vA m vc) ∧ Blk w' gv 98 (A15 c.wk c.ou c.lo c.hi c.bk c.rg uA q uc)), t.w.cell? ⟨gd, 6, none⟩ = some (.slice vA m vc) := fun t => t.h.1.cell 6
    have zv : ∀ t : Tw (fun w' => Blk w' gd 98 (A15 c.wk c.ou c.lo c.hi c.bk c.rg vA m vc) ∧ Blk w' gv 98 (A15 c.wk c.ou c.lo c.hi c.bk c.rg uA q uc)), t.w.cell? ⟨gv, 6, none⟩ = some (.slice uA q uc) := fun t => t.h.2.cell 6
    have zz : Nonempty (Tw (fun w' => Blk w' gd 98 (A15 c.wk c.ou c.lo c.hi c.bk c.rg vA m vc) ∧ Blk w' gv 98 (A15 c.wk c.ou c.lo c.hi c.bk c.rg uA q uc))) := ⟨⟨_, mb.dn.obj, dv.obj⟩⟩
    refine wp_region_plan (fun w' => Blk w' gd 98 (A15 c.wk c.ou c.lo c.hi c.bk c.rg vA m vc) ∧ Blk w' gv 98 (A15 c.wk c.ou c.lo c.hi c.bk c.rg uA q uc)) [(0, true), (3, true), (4, true), (5, true), (6, true), (1, false), (2, false), (7, false), (8, true), (9, true), (10, true), (13, true), (14, true), (15, true), (16, true), (11, false), (12, false), (17, false), (18, true), (19, true)] (by kernel_rfl) (by kernel_rfl) (by kernel_rfl) (by kernel_rfl) ⟨mb.dn.obj.drew, dv.obj.drew⟩ ?_
    replace mb := mb.drew
    replace lo := lo.drew
    replace dv := dv.drew
    generalize wc.drew = V0 at *
    refine wpPl_qs 5 _ _ _ (by kernel_rfl) (by kernel_rfl) (by simp) ?_
    unfold clsS
    simp only [qq1, qq2, qq3, qq4, List.filterMap_cons, qq6, qq7, qq8, qq9]
    repeat (first | go_big_quiet_skip | (go_big_quiet_want; go_big_quiet_op; go_big_quiet_on) | refine id (?_ : wpQuiet _ _ _ _ (_ :: _) _))
    refine wpQuiet_nil ?_
    refine wpPl_e _ (by rfl) (by kernel_rfl) (fun K hK => ?_)
    go_simp
    refine (mb.ln.bnd hc.out (by omega)).mono ?_
    rintro e V1 ⟨v1, rfl, own1, _, hb⟩
    replace mb := mb.bel_ hb
    replace lo := lo.bel_ hb
    replace dv := dv.bel hb
    obtain ⟨A1, c1, rfl, hc1, _⟩ := own1.form hm.out
    refine hK _ _ ⟨mb.dn.obj, dv.obj⟩ ?_
    clear hK K hb
    refine wpPl_e _ (by rfl) (by kernel_rfl) (fun K hK => ?_)
    go_simp
    refine (from_any L' A1 m c1 V1 (own1.rd BdL_len rfl hm.out) hc1 (by omega)).mono ?_
    rintro e V2 ⟨v2, rfl, own2, hb⟩
    replace mb := mb.bel_ hb
    replace lo := lo.bel_ hb
    replace dv := dv.bel hb
    obtain ⟨A2, c2, rfl, hc2, _⟩ := own2.form hm.out
    refine hK _ _ ⟨mb.dn.obj, dv.obj⟩ ?_
    clear hK K hb own1
    refine wpPl_e _ (by rfl) (by kernel_rfl) (fun K hK => ?_)
    go_simp
    refine (Same_yes L' A2 vA m c2 vc V2 (own2.rd BdL_len rfl hm.out) (mb.dn.row.rd BdL_len rfl hm.out) (by omega)).mono ?_
    rintro e V3 ⟨rfl, hb⟩
    replace mb := mb.bel_ hb
    replace lo := lo.bel_ hb
    replace dv := dv.bel hb
    refine hK _ _ ⟨mb.dn.obj, dv.obj⟩ ?_
    clear hK K hb own2
    refine wpPl_qs 7 _ _ _ (by kernel_rfl) (by kernel_rfl) (by simp) ?_
    unfold clsS
    simp only [qq1, qq2, qq3, qq4, List.filterMap_cons, qq6, qq7, qq8, qq9]
    repeat (first | go_big_quiet_skip | (go_big_quiet_want; go_big_quiet_op; go_big_quiet_on) | refine id (?_ : wpQuiet _ _ _ _ (_ :: _) _))
    refine wpQuiet_nil ?_
    refine wpPl_e _ (by rfl) (by kernel_rfl) (fun K hK => ?_)
    go_simp
    refine (lo.bnd hc.out (by omega)).mono ?_
    rintro e V4 ⟨v1, rfl, own1, _, hb⟩
    replace mb := mb.bel_ hb
    replace dv := dv.bel hb
    obtain ⟨A3, c3, rfl, hc3, _⟩ := own1.form hq.out
    refine hK _ _ ⟨mb.dn.obj, dv.obj⟩ ?_
    clear hK K hb lo
    have hq60 : q ≤ 60 := by have := hq.out; omega
    refine wpPl_e _ (by rfl) (by kernel_rfl) (fun K hK => ?_)
    go_simp
    refine (from_any L A3 q c3 V4 (own1.rd BdL_len rfl hq.out) hc3 (by omega)).mono ?_
    rintro e V5 ⟨v2, rfl, own2, hb⟩
    replace mb := mb.bel_ hb
    replace dv := dv.bel hb
    obtain ⟨A4, c4, rfl, hc4, _⟩ := own2.form hq.out
    refine hK _ _ ⟨mb.dn.obj, dv.obj⟩ ?_
    clear hK K hb own1
    refine wpPl_e _ (by rfl) (by kernel_rfl) (fun K hK => ?_)
    go_simp
    refine (Same_yes L A4 uA q c4 uc V5 (own2.rd BdL_len rfl hq.out) (dv.row.rd BdL_len rfl hq.out) (by omega)).mono ?_
    rintro e V6 ⟨rfl, hb⟩
    replace mb := mb.bel_ hb
    replace dv := dv.bel hb
    refine hK _ _ ⟨mb.dn.obj, dv.obj⟩ ?_
    clear hK K hb own2
    refine wpPl_qs 2 _ _ _ (by kernel_rfl) (by kernel_rfl) (by simp) ?_
    unfold clsS
    simp only [qq1, qq2, qq3, qq4, List.filterMap_cons, qq6, qq7, qq8, qq9]
    repeat (first | go_big_quiet_skip | (go_big_quiet_want; go_big_quiet_op; go_big_quiet_on) | refine id (?_ : wpQuiet _ _ _ _ (_ :: _) _))
    refine wpQuiet_nil ?_
    unfold wpPl
    refine NoPanic.normal ?_
    clear zd zv zz dv
    go_wp2_with fail
    go_roundw
    case rel => exact ⟨k + 1, np', nf', L', _, by omega, by omega, by go_num, mb, by omega, by omega⟩
    case measure => simp [intOf]; omega
  ·have hbl := mb.ln.bel
   clear mb
   rcases Nat.lt_or_ge k n with h1 | h1
   ·have d1 : decide (k < n) = true := by simpa using h1
    have d3 : decide ((k : Int) < (n : Int)) = true := by simpa using h1
    have d2 : decide ((k : Int) < 50) = false := by simp; omega
    go_wp2_with fail
    go_ret
    exact ⟨rfl, hbl⟩
   ·have d1 : decide (k < n) = false := by simpa using h1
    have d3 : decide ((k : Int) < (n : Int)) = false := by simpa using h1
    go_wp2_with fail
    go_ret
    exact ⟨rfl, hbl⟩
theorem ModelSteps_args (W : World) (args : Array Value) (hs : args.size = Tryz.f10.params.size) (hA : ∀ (j : Nat) t v, Tryz.f10.params[j]? = some t → args[j]? = some v → Arg Tryz.prog W t v) :
  Calls Tryz.prog 10 args W fun e W' => e = .returned (.bool true) ∧ Below W.heap.size W W' := by
 obtain ⟨v0, v1, rfl⟩ := args2 hs
 obtain ⟨c, rfl, h1, _, _⟩ := arg_cfg (hA 0 27 v0 rfl rfl)
 obtain ⟨A, n, cap, rfl, h2, h3, h4⟩ := arg_acts (hA 1 45 v1 rfl rfl)
 by_cases hc : c.ok
 ·exact ModelSteps_ok c hc (inr_u32 h1) A n cap W h4 h2 h3
 ·exact ModelSteps_bad c hc A n cap W trivial
theorem ModelSteps_lifted (os : Os) (started : os.Started) (H : Type) (enc : TypeId × Value → H) :
  ReturnsInHanded {} Tryz.checked os 10 .any (Rows.modelStepsSpec.pre6 enc Tryz.prog Tryz.f10 Rows.modelStepsRow.domain false) (Rows.modelStepsSpec.post enc Tryz.prog Tryz.f10 false true false false) :=
 law_lifted os started H enc (by kernel_rfl) Tryz.func10 rfl rfl (fun H ds h => by match ds, h with | [_, _], _ => exact ⟨rfl, rfl, rfl⟩) (by kernel_rfl)
  (ChangeSpec.witness6 (enc := enc) (C := Tryz.checked) false ⟨#[], #[.agg Z9, .slice none 0 0], []⟩ 8 (by kernel_rfl) (by kernel_rfl) (by kernel_rfl) (by kernel_rfl))
  ModelSteps_args
theorem modelSteps_holds : Rows.ModelStepsSaid :=
 OpenClaim.holds_of_wide 10 Tryz.f10 rfl rfl rfl rfl rfl rfl rfl ⟨rfl, rfl, rfl, rfl, rfl⟩ rfl rfl rfl rfl rfl (by kernel_rfl) Tryz.func10 (by kernel_rfl)
  (of_decide_eq_true (by kernel_rfl)) (by unfold Func.isWrapper; first | (rw [if_pos (by decide +kernel)]; kernel_rfl) | (rw [if_neg (by decide +kernel)]; exact ⟨rfl, rfl⟩))
  (fun os started H enc _ => ModelSteps_lifted os started H enc)
end
end Go.Proofs.YtbckoohljkmahaaGreat
