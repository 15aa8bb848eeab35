/- Every input of FanlightModels answers true, and reads behind the call as it read before. No condition. -/
import Derived.Test.YtbichbdcibchlaaGreatPf23
namespace Go.Proofs.YtbichbdcibchlaaGreat
set_option linter.unusedVariables false
set_option linter.unusedSimpArgs false
set_option maxRecDepth 100000
set_option maxHeartbeats 16000000
open Go.RowKit
section
open Go.RowKit Go.Maps
theorem FanlightModels_walk (A B : Option Addr) (n ca m cb : Nat) (w : World) (hA : SnRd w A n) (hB : SnRd w B m) (hna : n ≤ ca) (hma : ca ≤ 9223372036854775807) (hnb : m ≤ cb) (hmb : cb ≤ 9223372036854775807) :
  Calls Tryz.prog 3 #[.slice A n ca, .slice B m cb] w fun e w' => e = .returned (.bool true) ∧ Below w.heap.size w w' := by
 have hc : (cfL 39).ok := cfL_ok (by omega)
 have hou : 0 ≤ (cfL 39).ou ∧ (cfL 39).ou ≤ 4294967295 := by decide
 have kT : ∀ W, Calls Tryz.prog 6 #[.agg Z8] W fun e w' => e = .returned (.agg Z8) ∧ Below W.heap.size W w' := fun W => To_any (cfL 39) W
 have kN : ∀ W, Calls Tryz.prog 5 #[.agg Z8] W (NewR W (cfL 39)) := fun W => New_ok (cfL 39) W hc
 replace hc := Lib.hid hc
 replace hou := Lib.hid hou
 replace kT := Lib.hid kT
 replace kN := Lib.hid kN
 replace hA := Lib.hid hA
 replace hB := Lib.hid hB
 go_enter Tryz.func3, Tryz.ntmps3
 go_wp2_with fail
 refine (Config39 _).mono ?_
 rintro e w1 ⟨rfl, bel⟩
 have bc := (Blk.new w1 25 Z9).setRow Z8
 have hbK : Below w1.heap.size w1 ((w1.alloc (.cells Z9 25)).setRow w1.heap.size Z8) := below_setRow (bel_alloc _ _) (Nat.le_refl _) _
 go_upto_region 2 with (refine wpList_stRow rfl rfl rfl rfl rfl (Blk.new w1 _ _) c14_size rfl (by simp [Value.oneCell']) ?_; generalize (w1.alloc (.cells Z9 25)).setRow w1.heap.size Z8 = W1 at *)
 replace bel := bel_after bel hbK
 clear hbK
 generalize w1.heap.size = gc at *
 go_wp2_with (refine wpList_ldRow rfl rfl rfl bc Tryz.underlying25 c14_size ?_)
 refine (kT.out _).mono ?_
 rintro e w2 ⟨rfl, hb⟩
 replace bc := bc.bel hb
 replace bel := bel_after bel hb
 clear hb
 go_wp2_with fail
 refine (kN.out _).mono ?_
 intro e w3 hN
 have hb := hN.choose_spec.choose_spec.choose_spec.2.2.1
 replace bc := bc.bel hb
 obtain ⟨gn, pb, fm, rfl, ln⟩ := LN.made bel hN
 clear hN bel kN hb
 go_wp2_with fail
 refine (stands_any _).mono ?_
 rintro e w4 ⟨rfl, hb⟩
 replace bc := bc.bel hb
 replace ln := ln.bel_ hb
 clear hb
 have hmm := @run_makeMap Tryz.prog
 have fm0 : Fm w ((w4.alloc (.map #[] 0)).alloc (.map #[] 0)) gn pb fm 0 0 [] w4.heap.size (w4.heap.size + 1) 0 0 [] [(gc, 25, Z8)] [] := by
  have h1 := ln.nm.obj.lt
  have h2 := ln.nm.pl.lt
  have h3 := ln.nm.fl.lt
  have h4 := ln.bel.size
  have b2 : Below w4.heap.size w4 ((w4.alloc (.map #[] 0)).alloc (.map #[] 0)) := (bel_alloc _ _).alloc (by simp) _
  have kq := KmS.made Tryz.prog 57 prOk litP (w4.alloc (.map #[] 0))
  rw [show (w4.alloc (.map #[] 0)).heap.size = w4.heap.size + 1 by simp] at kq
  refine ⟨⟨ln.bel_ b2, fun x hx => ?_, fun x hx => (List.not_mem_nil hx).elim⟩, ((KmS.made Tryz.prog 43 Fl.rng litF w4).bel (bel_alloc _ _)).ext (fun _ _ => rfl), kq.ext (fun g _ => rfl), h4, by omega, by omega⟩
  rcases List.mem_cons.1 hx with rfl | hx
  ·exact bc.bel b2
  ·exact (List.not_mem_nil hx).elim
 clear bc ln
 go_upto_block 0 with fail
 clear hmm
 generalize (w4.alloc (.map #[] 0)).alloc (.map #[] 0) = W5 at *
 generalize w4.heap.size + 1 = qm at *
 generalize w4.heap.size = pm at *
 refine wp_cut (fun a' wx => ∃ v : Nat → Value, a' = ⟨(frm v).toArray, []⟩ ∧ Cm A n ca B m cb gc gn pm qm v ∧ ∃ F, Fi w wx gn pb fm pm qm gc 30 F) ?_ ?_
 rotate_left
 ·intro _ _ _ _
  go_wp2_with fail
  refine wp_loop_ghost_k (fun gk a' wr => ∃ v : Nat → Value, a' = ⟨(frm v).toArray, []⟩ ∧ ∃ (k : Nat) (F : List Fl), gk = n - k ∧ k ≤ n ∧ k ≤ 30 ∧ Cm A n ca B m cb gc gn pm qm v ∧ v 10 = .int .i64 (F.length : Int) ∧ v 11 = .int .i64 (k : Int) ∧ Fi w wr gn pb fm pm qm gc k F) n ?_ ?_
  ·refine frm_meet (by kernel_rfl) ?_
   exact ⟨0, [], rfl, by omega, by omega, ⟨rfl, rfl, rfl, rfl, rfl, rfl⟩, rfl, rfl, ⟨0, 0, 0, 0, [], fm0, HI.nil, List.nodup_nil, by simp, by omega, by omega, by omega, by omega⟩⟩
  ·clear fm0
   intro gk a' wr hrel _ _ _ _
   obtain ⟨v, rfl, k, F, hgk, hkn, hk30, cm, hv10, hv11, ⟨np, nf, n1, n2, L, fx, hi, hnd, hFk, e1, e2, e3, e4⟩⟩ := hrel
   have hfr := frm_lit v
   rw [cm.v0, cm.v1, cm.v5, cm.v6, cm.v8, cm.v9, hv10, hv11] at hfr
   rw [hfr]
   clear hfr cm
   clear hv10 hv11
   by_cases hlt : k < n ∧ k < 30
   ·obtain ⟨hlt, hlt30⟩ := hlt
    obtain ⟨b, o, rfl, hbl, hcl⟩ := hA.out (by omega)
    obtain ⟨x, hx, hcl⟩ := hcl k hlt
    have hcx : ∀ j u, x.cs[j]? = some u → wr.cell? ⟨b, o + k * 9 + j, none⟩ = some u := fun j u hu => (fx.ev.ln.bel.cell (p := ⟨b, o + k * 9 + j, none⟩) hbl).trans (hcl j u hu)
    unfold Sn.cs at hcx
    clear hcl
    obtain ⟨_, ⟨l, hr⟩, hxc, hxm⟩ := hx
    obtain ⟨j, hj, hj3⟩ := modn x.wt 3 (by omega)
    obtain ⟨m', hmn, hm1, hm2⟩ := minc 20 (by omega) x.n
    obtain ⟨a, ha, hab⟩ := modn x.wo 3 (by omega)
    obtain ⟨c, hcc, hcb⟩ := modn ((IntKind.u64.wrap x.wo).tdiv 3) 3 (by omega)
    obtain ⟨p, hp, hpb⟩ := modn x.po 5 (by omega)
    have hj3' : j < 3 := by omega
    have kF := fun w' (h : Below w.heap.size w w') => Frame15_k (j : Int) x.wo x.po 2 x.be x.ti x.A x.n x.c l a c p m' j w' ((hr.below h).more h.size) hxc hxm hmn hm1 (tm3 hj3') (by omega) ha hab hcc hcb hp hpb
    unfold Gives at kF
    have h8 : Bytes8 ((l.take m').take 40) := fun x hx => inr_u8 (hr.rng x (List.mem_of_mem_take (List.mem_of_mem_take hx)))
    have hn8 : ((l.take m').take 40).length ≤ 40 := by rw [List.length_take]; omega
    have hfb : 28 ≤ (frameL j (167772161 + (a : Int)) (134744065 + (c : Int)) (5 + (p : Int)) 53 2 ((l.take m').take 40)).length ∧ (frameL j (167772161 + (a : Int)) (134744065 + (c : Int)) (5 + (p : Int)) 53 2 ((l.take m').take 40)).length ≤ 130 := frame_bd hn8
    have hwh := frame_who (k := j) (s := 167772161 + (a : Int)) (d := 134744065 + (c : Int)) (a := 5 + (p : Int)) (b := 53) (f := 2) (l := (l.take m').take 40) (by omega) (by omega) (by omega) (by omega) h8 hn8 (by omega) 3221225985
    obtain ⟨L', F', po, hR, hi', hnd', hp1, hp2, hF'⟩ := fm_out (k := j) (s := 167772161 + (a : Int)) (d := 134744065 + (c : Int)) (a := 5 + (p : Int)) (b := 53) (l := (l.take m').take 40) (by omega) (by omega) (by omega) (by omega) h8 hn8 hj3' hi fx.ev.ln.nm.inv hnd (by omega) (k : Int) (by omega)
    have hX := fun (g8 : Bytes8 (frameL j (167772161 + (a : Int)) (134744065 + (c : Int)) (5 + (p : Int)) 53 2 ((l.take m').take 40))) => part_src (frame_again (k := j) (s := 167772161 + (a : Int)) (d := 134744065 + (c : Int)) (a := 5 + (p : Int)) (b := 53) (f := 2) (l := (l.take m').take 40) (by omega) (by omega) (by omega) (by omega) h8 hn8 (by omega) true (ou := 3221225985) (po := po) g8 (by omega) (by omega)) gotP_err
    have hXl := fun (g8 : Bytes8 (frameL j (167772161 + (a : Int)) (134744065 + (c : Int)) (5 + (p : Int)) 53 2 ((l.take m').take 40))) => (frame_again (k := j) (s := 167772161 + (a : Int)) (d := 134744065 + (c : Int)) (a := 5 + (p : Int)) (b := 53) (f := 2) (l := (l.take m').take 40) (by omega) (by omega) (by omega) (by omega) h8 hn8 (by omega) true (ou := 3221225985) (po := po) g8 (by omega) (by omega)).len
    have hpk : 0 ≤ carP j ∧ carP j ≤ 255 := by rcases (by omega : j = 0 ∨ j = 1 ∨ j = 2) with rfl | rfl | rfl <;> decide
    have hju : Value.int .u64 ((IntKind.u64.wrap x.wt).tmod 3) = .int .u64 (j : Int) := by rw [hj]
    clear hj h8 hn8 hmn hm1 hm2 ha hcc hp hr hi hnd
    generalize frameL j (167772161 + (a : Int)) (134744065 + (c : Int)) (5 + (p : Int)) 53 2 ((l.take m').take 40) = F1 at *
    generalize rwL F1 true 3221225985 po = X1 at *
    obtain ⟨au, hau, hau2⟩ : ∃ au : Int, 167772161 + (a : Int) = au ∧ (0 ≤ au ∧ au ≤ 4294967295) := ⟨_, rfl, by omega⟩
    obtain ⟨qu, hqu, hqu2⟩ : ∃ qu : Int, 5 + (p : Int) = qu ∧ (0 ≤ qu ∧ qu ≤ 65535) := ⟨_, rfl, by omega⟩
    rw [hau, hqu] at hwh hF'
    clear hau hqu hab hcb hpb
    generalize carP j = pu at *
    have hur : (⟨pu, au, qu⟩ : Fl).rng := ⟨i64_inr (by show _ ≤ pu ∧ pu ≤ _; omega), u32_inr (by show _ ≤ au ∧ au ≤ _; omega), u16_inr (by show _ ≤ qu ∧ qu ≤ _; omega)⟩
    have hpk2 : prOk (pu, 1000 + (F.length : Int)) := ⟨i64_inr (by show _ ≤ pu ∧ pu ≤ _; omega), i64_inr (by show _ ≤ 1000 + (F.length : Int) ∧ 1000 + (F.length : Int) ≤ _; omega)⟩
    obtain ⟨nn, hnn⟩ : ∃ nn, F1.length = nn := ⟨_, rfl⟩
    rw [hnn] at hfb hXl
    obtain ⟨fl_, hfl⟩ : ∃ fl_, F.length = fl_ := ⟨_, rfl⟩
    rw [hfl] at hR hF' hFk hpk2
    have hfl39 : (fl_ : Int).tmod 40 = (fl_ : Int) := by rw [Int.tmod_eq_emod_of_nonneg (by omega)]; omega
    have d1 : decide (k < n) = true := by simpa using hlt
    have d2 : decide ((k : Int) < 30) = true := by simp; omega
    have d3 : decide ((k : Int) < (n : Int)) = true := by simpa using hlt
    have k0 : (0 : Int) ≤ (k : Int) := by omega
    have k1 : (k : Int) < (n : Int) := by omega
    rw [hfl]
    replace hgk := Lib.hid hgk
    replace hfl := Lib.hid hfl
    replace kF := Lib.hid kF
    replace hwh := Lib.hid hwh
    replace hR := Lib.hid hR
    replace hF' := Lib.hid hF'
    replace hX := Lib.hid hX
    replace hXl := Lib.hid hXl
    replace hnn := Lib.hid hnn
    replace hi' := Lib.hid hi'
    replace hnd' := Lib.hid hnd'
    replace hur := Lib.hid hur
    replace hpk2 := Lib.hid hpk2
    have ba := (Blk.new wr 38 Z11).setRow (A11 x.out x.wt x.wo x.po x.f x.A x.n x.c x.be x.by_ x.ti)
    have hbA : Below wr.heap.size wr ((wr.alloc (.cells Z11 38)).setRow wr.heap.size (A11 x.out x.wt x.wo x.po x.f x.A x.n x.c x.be x.by_ x.ti)) := below_setRow (bel_alloc _ _) (Nat.le_refl _) _
    have hgw : w.heap.size ≤ wr.heap.size := fx.ev.ln.bel.size
    replace fx := fx.bel hbA
    go_upto_region 12 with (first
     | (refine wpList_ldAt rfl rfl rfl hcx Tryz.underlying38 msn_size ?_)
     | (refine wpList_stRow rfl rfl rfl rfl rfl (Blk.new wr _ _) msn_size rfl (by simp [Value.oneCell']) ?_; generalize (wr.alloc (.cells Z11 38)).setRow wr.heap.size (A11 x.out x.wt x.wo x.po x.f x.A x.n x.c x.be x.by_ x.ti) = W7 at *; generalize wr.heap.size = ga at *))
    clear hcx hbA
    have p0 := ba.frozen 0
    have p1 := ba.frozen 1
    have p4 := ba.frozen 4
    have p7 := ba.frozen 7
    have c0 := ba.cell 0
    have c1 := ba.cell 1
    have c4 := ba.cell 4
    have c7 := ba.cell 7
    go_upto_region 13 with fail
    clear p0 p1 p4 p7 c0 c1 c4 c7 hju
    have bn : Blk ((((W7.setCell ⟨ga, 0, none⟩ (.bool true)).setCell ⟨ga, 7, none⟩ (.int .u8 0)).setCell ⟨ga, 4, none⟩ (.int .i64 2)).setCell ⟨ga, 1, none⟩ (.int .i64 (j : Int))) ga 38 (A11 true (j : Int) x.wo x.po 2 x.A x.n x.c x.be 0 x.ti) := (((ba.set_ 0 (.bool true)).set_ 7 (.int .u8 0)).set_ 4 (.int .i64 2)).set_ 1 (.int .i64 (j : Int))
    have hu : Upd (fun k => k = ga) W7 ((((W7.setCell ⟨ga, 0, none⟩ (.bool true)).setCell ⟨ga, 7, none⟩ (.int .u8 0)).setCell ⟨ga, 4, none⟩ (.int .i64 2)).setCell ⟨ga, 1, none⟩ (.int .i64 (j : Int))) := ((((Upd.refl (fun k => k = ga) W7).setCell (p := ⟨ga, 0, none⟩) (fun _ => rfl) (.bool true)).setCell (p := ⟨ga, 7, none⟩) (fun _ => rfl) (.int .u8 0)).setCell (p := ⟨ga, 4, none⟩) (fun _ => rfl) (.int .i64 2)).setCell (p := ⟨ga, 1, none⟩) (fun _ => rfl) (.int .i64 (j : Int))
    replace fx := fx.upd1 ba rfl (by decide) (by decide) hgw hu bn
    clear hu ba hgw
    generalize (((W7.setCell ⟨ga, 0, none⟩ (.bool true)).setCell ⟨ga, 7, none⟩ (.int .u8 0)).setCell ⟨ga, 4, none⟩ (.int .i64 2)).setCell ⟨ga, 1, none⟩ (.int .i64 (j : Int)) = W8 at *
    go_wp2_with (refine wpList_ldRow rfl rfl rfl bn Tryz.underlying38 msn_size ?_)
    refine (kF.out _ fx.ev.ln.bel).mono ?_
    rintro e W9 ⟨v9, rfl, own9, hb⟩
    obtain ⟨FA, fa, rfl, hfa1, hfa2, _⟩ := own9.form hnn.out
    unfold maxLen at hfa2
    replace fx := fx.row hb own9
    clear hb own9 kF bn
    have g8 := fx.ev.b8 0 rfl
    obtain ⟨⟨pr, sr, ds, fl, ki, co, er, ⟨i0, i1, i2, i3, i4, i5⟩, pat, bb⟩, hq, hqs, hqe⟩ := hX.out g8
    have hqs' : sr = po := hqs
    have hqe' : er = false := hqe
    subst hqe'
    rw [hqs'] at hq
    clear hqs hqe hqs' sr
    have hXn : X1.length = nn := by have : (X1.length : Int) = (nn : Int) := hXl.out g8; omega
    clear hX hXl g8
    replace hXn := Lib.hid hXn
    replace hq := Lib.hid hq
    have kw := rWhose_any 1 3221225985 1000 1039 2 4 true F1 FA nn fa W9 (fx.ev.rd 0 rfl hnn.out) hfa1 (by omega) (by omega)
    rw [hwh.out] at kw
    unfold WhoR at kw
    simp only [Fl.cs] at kw
    replace kw := Lib.hid kw
    have hdc := fx.ev.blk 1 rfl
    go_wp2_with (refine wpList_ldRow rfl rfl rfl hdc Tryz.underlying25 c14_size ?_)
    clear hdc
    refine kw.out.mono ?_
    rintro e W10 ⟨rfl, hb⟩
    replace fx := (fx.bel hb).new0 43 (A6 pu au qu)
    clear hb kw hwh
    go_upto_region 15 with fail
    generalize W10.alloc (.cells (A6 pu au qu) 43) = W11 at *
    generalize W10.heap.size = gu at *
    have kS := fx.ev.stp hc.out hou.out (by omega) (by omega) true FA nn fa (k : Int) (1000 + (fl_ : Int)) F1 (fx.ev.rd 0 rfl hnn.out) hfa1 (by omega) (by omega) hR.out
    replace kS := Lib.hid kS
    have x2 := (fx.ev.blk 2 rfl).cell 2
    go_wp2_with fail
    refine kS.out.mono ?_
    rintro e W12 ⟨XA, nx, xc, np2, nf2, rfl, hxn, hxc1, hxc2, ev12, hnp2, hnf2, hsz, hu⟩
    have hxb : nx ≤ 130 := by have h1 : X1.length = nx := hxn; have h2 := hXn.out; omega
    replace fx := (fx.step ev12 hu).new 47 Z3 (A13 XA nx xc 0)
    clear kS hsz ev12 hu x2
    go_upto_region 16 with (refine wpList_stRow rfl rfl rfl rfl rfl (Blk.new W12 _ _) man_size rfl (by simp [Value.oneCell']) ?_; generalize (W12.alloc (.cells Z3 47)).setRow W12.heap.size (A13 XA nx xc 0) = W13 at *)
    generalize W12.heap.size = gx at *
    have kP := rPart_any X1 XA nx xc W13 (fx.ev.rd 0 rfl hxn) hxc1 hxc2 (by omega)
    rw [hq.out] at kP
    unfold PartT at kP
    simp only [Pt.val] at kP
    clear hq
    replace kP := Lib.hid kP
    have z0 := (fx.ev.blk 0 rfl).cell 0
    go_wp2_with fail
    clear z0
    refine kP.out.mono ?_
    rintro e W14 ⟨rfl, hb⟩
    replace fx := (fx.bel hb).new 54 Z0 (A0 pr po ds fl ki co false i0 i1 i2 i3 i4 i5 pat bb)
    clear hb kP
    go_upto_region 17 with (refine wpList_stRow rfl rfl rfl rfl rfl (Blk.new W14 _ _) rpt_size rfl (by simp [Value.oneCell']) ?_; generalize (W14.alloc (.cells Z0 54)).setRow W14.heap.size (A0 pr po ds fl ki co false i0 i1 i2 i3 i4 i5 pat bb) = W15 at *)
    generalize W14.heap.size = gp at *
    have bu := fx.ev.blk 2 rfl
    have a1 := (fx.ev.blk 1 rfl).cell 1
    have s1 := (fx.ev.blk 0 rfl).cell 1
    have q2 := (fx.ev.blk 4 rfl).cell 2
    have hl1 := fx.kp.km.look0 rflow_int hur.out
    have y1 := wpList_ldX (P := Tryz.prog) bu Tryz.underlying43 mrf_size
    rcases hF'.out with ⟨hFe, hpg⟩ | ⟨hFe, huF, hpe⟩
    ·rw [hpg] at hl1
     simp only [Option.getD_some, Fl.cs] at hl1
     have y2 := wpList_lookX (P := Tryz.prog) hl1
     replace y1 := Lib.hid y1
     replace y2 := Lib.hid y2
     replace hFe := Lib.hid hFe
     clear hl1 hpg hF'
     have hp0 : (po == 0) = false := by simp; omega
     have hp0' : (po != 0) = true := by simp; omega
     go_upto_region 20 with (first
      | (with_reducible refine y1.out _ _ _ _ _ ?_ ?_; exact ⟨_, rfl, rfl, by kernel_rfl⟩)
      | (with_reducible refine y2.out _ _ _ _ _ ?_ ?_; exact ⟨_, _, rfl, rfl, rfl, by kernel_rfl⟩))
     go_wp2_with (first
      | (with_reducible refine y1.out _ _ _ _ _ ?_ ?_; exact ⟨_, rfl, rfl, by kernel_rfl⟩)
      | (with_reducible refine y2.out _ _ _ _ _ ?_ ?_; exact ⟨_, _, rfl, rfl, rfl, by kernel_rfl⟩))
     refine Handed.intro (n - (k + 1)) (by have := hgk.out; omega) ?_
     go_step
     refine frm_meet (by kernel_rfl) ?_
     have hFe := hFe.out
     have hfl := hfl.out
     subst hFe
     exact ⟨k + 1, F', rfl, by omega, by omega, ⟨rfl, rfl, rfl, rfl, rfl, rfl⟩, by rw [hfl]; rfl, rfl, ⟨np2, nf2, n1, n2, L', fx.sub (fun x hx => by simp at hx ⊢; simp [hx]) (fun x hx => by simp at hx), hi'.out, hnd'.out, by omega, by omega, by omega, by omega, by omega⟩⟩
    ·rw [pG_none huF] at hl1
     simp only [Option.getD_none, Fl.cs] at hl1
     have y2 := wpList_lookX (P := Tryz.prog) hl1
     replace y1 := Lib.hid y1
     replace y2 := Lib.hid y2
     replace hFe := Lib.hid hFe
     replace huF := Lib.hid huF
     replace hpe := Lib.hid hpe
     clear hl1 hF'
     go_upto_region 20 with (first
      | (with_reducible refine y1.out _ _ _ _ _ ?_ ?_; exact ⟨_, rfl, rfl, by kernel_rfl⟩)
      | (with_reducible refine y2.out _ _ _ _ _ ?_ ?_; exact ⟨_, _, rfl, rfl, rfl, by kernel_rfl⟩))
     go_upto_region 21 with (first
      | (with_reducible refine y1.out _ _ _ _ _ ?_ ?_; exact ⟨_, rfl, rfl, by kernel_rfl⟩)
      | (with_reducible refine y2.out _ _ _ _ _ ?_ ?_; exact ⟨_, _, rfl, rfl, rfl, by kernel_rfl⟩))
     obtain rfl := hpe.out
     clear hpe
     go_upto_region 23 with fail
     clear y1 y2 q2 a1 s1
     have z1 : ∀ w', (∃ t : Tw (fun w' => Blk w' gu 43 (A6 pu au qu)), w' = t.w) → Blk w' gu 43 (A6 pu au qu) := fun w' ⟨t, ht⟩ => ht ▸ t.h
     have z0 : ∀ t : Tw (fun w' => Blk w' gu 43 (A6 pu au qu)), t.w.cell? ⟨gu, 0, none⟩ = some (.int .i64 pu) := fun t => t.h.cell 0
     have zz : Nonempty (Tw (fun w' => Blk w' gu 43 (A6 pu au qu))) := ⟨⟨_, bu⟩⟩
     refine wp_region_plan (fun w' => Blk w' gu 43 (A6 pu au qu)) [(0, true), (1, true), (2, true), (3, true), (4, true), (5, true), (6, true), (7, true), (8, true), (9, false), (10, false)] (by kernel_rfl) (by kernel_rfl) (by kernel_rfl) (by kernel_rfl) bu.drew ?_
     replace fx := fx.drew
     replace bu := bu.drew
     generalize W15.drew = W16 at *
     refine wpPl_qs 9 _ _ _ (by kernel_rfl) (by kernel_rfl) (by simp) ?_
     unfold clsS
     simp only [qq1, qq2, qq3, qq4, List.filterMap_cons, qq6, qq7, qq8, qq9]
     repeat (first
      | go_big_quiet_skip
      | (go_big_quiet_want; first | (refine quiet_ldRow rfl rfl z1 Tryz.underlying43 mrf_size ?_; go_simp; go_big_quiet_on) | (go_big_quiet_op; go_big_quiet_on))
      | (refine id (?_ : wpQuiet _ _ _ _ (_ :: _) _); first | go_big_quiet_skip | (go_big_quiet_want; first | (refine quiet_ldRow rfl rfl z1 Tryz.underlying43 mrf_size ?_; go_simp; go_big_quiet_on) | (go_big_quiet_op; go_big_quiet_on))))
     refine wpQuiet_nil ?_
     clear z0 z1 zz
     obtain ⟨W17, W18, r1, r2, fx2, hbk⟩ := fx.put (by omega) (by omega) hur.out huF.out (by rw [hfl.out]; exact hpk2.out)
     obtain ⟨bu1, bu2⟩ := hbk _ _ _ bu
     rw [hfl.out] at r1 r2
     simp only [Fl.cs, prV] at r1 r2
     clear hbk fx bu
     refine wpPl_e _ (by rfl) (by kernel_rfl) (fun K hK => ?_)
     refine wp_updN rfl rfl rfl rfl rfl r1 ?_
     refine hK _ _ bu1 ?_
     clear hK K r1
     refine wpPl_e _ (by rfl) (by kernel_rfl) (fun K hK => ?_)
     refine wp_updN rfl rfl rfl rfl rfl r2 ?_
     refine hK _ _ bu2 ?_
     clear hK K r2
     unfold wpPl
     refine NoPanic.normal ?_
     go_wp2_with fail
     refine Handed.intro (n - (k + 1)) (by have := hgk.out; omega) ?_
     go_step
     refine frm_meet (by kernel_rfl) ?_
     have hFe := hFe.out
     have hfl := hfl.out
     subst hFe
     have hFl : (F ++ [(⟨pu, au, qu⟩ : Fl)]).length = fl_ + 1 := by rw [List.length_append, hfl]; rfl
     exact ⟨k + 1, F ++ [⟨pu, au, qu⟩], rfl, by omega, by omega, ⟨rfl, rfl, rfl, rfl, rfl, rfl⟩, by rw [hFl]; rfl, rfl, ⟨np2, nf2, n1 + 1, n2 + 1, L', fx2.sub (fun x hx => by simp at hx ⊢; simp [hx]) (fun x hx => by simp at hx), hi'.out, hnd'.out, by omega, by omega, by omega, by omega, by omega⟩⟩
   ·have hcond : decide (k < n) = false ∨ (decide (k < n) = true ∧ decide ((k : Int) < 30) = false) := by
     rcases Nat.lt_or_ge k n with h | h
     ·exact .inr ⟨by simpa using h, by simp; omega⟩
     ·exact .inl (by simp; omega)
    rcases hcond with d1 | ⟨d1, d2⟩
    ·have d3 : decide ((k : Int) < (n : Int)) = false := by simp at d1 ⊢; omega
     go_wp2_with fail
     refine Met.intro ?_
     go_step
     refine frm_meet (by kernel_rfl) ?_
     exact ⟨⟨rfl, rfl, rfl, rfl, rfl, rfl⟩, F, ⟨np, nf, n1, n2, L, fx, hi, hnd, by omega, by omega, by omega, by omega, by omega⟩⟩
    ·have d3 : decide ((k : Int) < (n : Int)) = true := by simpa using d1
     go_wp2_with fail
     refine Met.intro ?_
     go_step
     refine frm_meet (by kernel_rfl) ?_
     exact ⟨⟨rfl, rfl, rfl, rfl, rfl, rfl⟩, F, ⟨np, nf, n1, n2, L, fx, hi, hnd, by omega, by omega, by omega, by omega, by omega⟩⟩
 ·intro a' wx hcut
  clear fm0
  obtain ⟨v, rfl, cm, F, hFi⟩ := hcut
  have hfr := frm_lit v
  rw [cm.v0, cm.v1, cm.v5, cm.v6, cm.v8, cm.v9] at hfr
  rw [hfr]
  clear hfr cm
  go_wp2_with fail
  refine wp_loop_ghost_k (fun gk a' wr => ∃ v : Nat → Value, a' = ⟨(frm v).toArray, []⟩ ∧ ∃ k : Nat, gk = m - k ∧ k ≤ m ∧ k ≤ 30 ∧ Cm A n ca B m cb gc gn pm qm v ∧ v 20 = .int .i64 (k : Int) ∧ Fi w wr gn pb fm pm qm gc (30 + k) F) m ?_ ?_
  ·refine frm_meet (by kernel_rfl) ?_
   exact ⟨0, rfl, by omega, by omega, ⟨rfl, rfl, rfl, rfl, rfl, rfl⟩, rfl, hFi⟩
  ·clear hFi
   intro gk a' wr hrel _ _ _ _
   obtain ⟨v, rfl, k, hgk, hkn, hk30, cm, hv20, ⟨np, nf, n1, n2, L, fx, hi, hnd, hFk, e1, e2, e3, e4⟩⟩ := hrel
   have hfr := frm_lit v
   rw [cm.v0, cm.v1, cm.v5, cm.v6, cm.v8, cm.v9, hv20] at hfr
   rw [hfr]
   clear hfr cm
   clear hv20
   by_cases hlt : k < m ∧ k < 30
   ·obtain ⟨hlt, hlt30⟩ := hlt
    obtain ⟨b, o, rfl, hbl, hcl⟩ := hB.out (by omega)
    obtain ⟨x, hx, hcl⟩ := hcl k hlt
    have hcx : ∀ j u, x.cs[j]? = some u → wr.cell? ⟨b, o + k * 9 + j, none⟩ = some u := fun j u hu => (fx.ev.ln.bel.cell (p := ⟨b, o + k * 9 + j, none⟩) hbl).trans (hcl j u hu)
    unfold Sn.cs at hcx
    clear hcl
    obtain ⟨_, ⟨l, hr⟩, hxc, hxm⟩ := hx
    have kF := fun w' (h : Below w.heap.size w w') => Frame15_any false x.wt x.wo x.po x.f x.be 0 x.ti x.A x.n x.c l w' ((hr.below h).more h.size) hxc hxm (by omega)
    unfold FR Gives at kF
    clear hr
    have d1 : decide (k < m) = true := by simpa using hlt
    have d2 : decide ((k : Int) < 30) = true := by simp; omega
    have d3 : decide ((k : Int) < (m : Int)) = true := by simpa using hlt
    have k0 : (0 : Int) ≤ (k : Int) := by omega
    have k1 : (k : Int) < (m : Int) := by omega
    replace hgk := Lib.hid hgk
    replace kF := Lib.hid kF
    replace hi := Lib.hid hi
    replace hnd := Lib.hid hnd
    have ba := (Blk.new wr 38 Z11).setRow (A11 x.out x.wt x.wo x.po x.f x.A x.n x.c x.be x.by_ x.ti)
    have hbA : Below wr.heap.size wr ((wr.alloc (.cells Z11 38)).setRow wr.heap.size (A11 x.out x.wt x.wo x.po x.f x.A x.n x.c x.be x.by_ x.ti)) := below_setRow (bel_alloc _ _) (Nat.le_refl _) _
    have hgw : w.heap.size ≤ wr.heap.size := fx.ev.ln.bel.size
    replace fx := fx.bel hbA
    go_upto_region 29 with (first
     | (refine wpList_ldAt rfl rfl rfl hcx Tryz.underlying38 msn_size ?_)
     | (refine wpList_stRow rfl rfl rfl rfl rfl (Blk.new wr _ _) msn_size rfl (by simp [Value.oneCell']) ?_; generalize (wr.alloc (.cells Z11 38)).setRow wr.heap.size (A11 x.out x.wt x.wo x.po x.f x.A x.n x.c x.be x.by_ x.ti) = W7 at *; generalize wr.heap.size = ga at *))
    clear hcx hbA
    have p0 := ba.frozen 0
    have p7 := ba.frozen 7
    have c0 := ba.cell 0
    have c7 := ba.cell 7
    go_upto_region 30 with fail
    clear p0 p7 c0 c7
    have bn : Blk ((W7.setCell ⟨ga, 0, none⟩ (.bool false)).setCell ⟨ga, 7, none⟩ (.int .u8 0)) ga 38 (A11 false x.wt x.wo x.po x.f x.A x.n x.c x.be 0 x.ti) := (ba.set_ 0 (.bool false)).set_ 7 (.int .u8 0)
    have hu : Upd (fun k => k = ga) W7 ((W7.setCell ⟨ga, 0, none⟩ (.bool false)).setCell ⟨ga, 7, none⟩ (.int .u8 0)) := ((Upd.refl (fun k => k = ga) W7).setCell (p := ⟨ga, 0, none⟩) (fun _ => rfl) (.bool false)).setCell (p := ⟨ga, 7, none⟩) (fun _ => rfl) (.int .u8 0)
    replace fx := fx.upd1 ba rfl (by decide) (by decide) hgw hu bn
    clear hu ba hgw
    generalize (W7.setCell ⟨ga, 0, none⟩ (.bool false)).setCell ⟨ga, 7, none⟩ (.int .u8 0) = W8 at *
    go_wp2_with (refine wpList_ldRow rfl rfl rfl bn Tryz.underlying38 msn_size ?_)
    refine (kF.out _ fx.ev.ln.bel).mono ?_
    rintro e W9 ⟨F1, hF1, v9, rfl, own9, hb⟩
    obtain ⟨nn, hnn⟩ : ∃ nn, F1.length = nn := ⟨_, rfl⟩
    rw [hnn] at hF1
    obtain ⟨FA, fa, rfl, hfa1, hfa2, _⟩ := own9.form hnn
    unfold maxLen at hfa2
    replace fx := fx.row hb own9
    clear hb own9 kF bn
    have g8 := fx.ev.b8 0 rfl
    obtain ⟨L', E, X1, hR, hi', hIn⟩ := fm_in g8 hi.out fx.ev.ln.nm.inv
    have hwr := whoP_rng 3221225985 false g8
    obtain ⟨f, th, hf1, hf2, hT⟩ := in_tell hIn
    clear hIn g8 hi
    have kw := rWhose_any 1 3221225985 1000 1039 2 4 false F1 FA nn fa W9 (fx.ev.rd 0 rfl hnn) hfa1 (by omega) (by omega)
    obtain ⟨Wp, hWp⟩ : ∃ Wp, whoP 3221225985 false F1 = Wp := ⟨_, rfl⟩
    rw [hWp] at kw hf1 hf2 hT hwr
    clear hWp
    obtain ⟨⟨ur, ua, up⟩, g⟩ := Wp
    unfold WhoR at kw
    simp only [Fl.cs] at kw
    simp only at hf1 hf2 hT hwr
    have hpk : prOk (ur, up) := ⟨hwr.1, i64_inr (by have := inr_u16 hwr.2.2; show _ ≤ up ∧ up ≤ _; simp only at this; omega)⟩
    have hup := inr_u16 hwr.2.2
    simp only at hup
    obtain ⟨hup1, hup2⟩ := hup
    obtain ⟨g0, g1, g2⟩ := f
    replace kw := Lib.hid kw
    replace hnn := Lib.hid hnn
    replace hR := Lib.hid hR
    replace hi' := Lib.hid hi'
    replace hf1 := Lib.hid hf1
    replace hf2 := Lib.hid hf2
    replace hT := Lib.hid hT
    replace hpk := Lib.hid hpk
    clear hwr
    have hdc := fx.ev.blk 1 rfl
    go_wp2_with (refine wpList_ldRow rfl rfl rfl hdc Tryz.underlying25 c14_size ?_)
    clear hdc
    refine kw.out.mono ?_
    rintro e W10 ⟨rfl, hb⟩
    replace fx := (fx.bel hb).new0 43 (A6 ur ua up)
    clear hb kw
    go_upto_region 32 with fail
    generalize W10.alloc (.cells (A6 ur ua up) 43) = W11 at *
    generalize W10.heap.size = gu at *
    have kS := fx.ev.stp hc.out hou.out (by omega) (by omega) false FA nn fa 30 0 F1 (fx.ev.rd 0 rfl hnn.out) hfa1 (by omega) (by omega) hR.out
    replace kS := Lib.hid kS
    go_wp2_with fail
    refine kS.out.mono ?_
    rintro e W12 ⟨XA, nx, xc, np2, nf2, rfl, hxn, hxc1, hxc2, ev12, hnp2, hnf2, hsz, hu⟩
    replace fx := (fx.step ev12 hu).new 47 Z3 (A13 XA nx xc E)
    clear kS hsz ev12 hu
    go_upto_region 33 with (refine wpList_stRow rfl rfl rfl rfl rfl (Blk.new W12 _ _) man_size rfl (by simp [Value.oneCell']) ?_; generalize (W12.alloc (.cells Z3 47)).setRow W12.heap.size (A13 XA nx xc E) = W13 at *)
    generalize W12.heap.size = gx at *
    have u0 := (fx.ev.blk 1 rfl).cell 0
    have u2 := (fx.ev.blk 1 rfl).cell 2
    have hl1 := fx.kq.km.look2 pr_flow hpk.out
    rw [hf1.out, hf2.out] at hl1
    simp only [prV, Fl.cs] at hl1
    have y2 := wpList_lookX (P := Tryz.prog) hl1
    replace y2 := Lib.hid y2
    clear hl1 hf1 hf2 hpk
    replace fx := fx.new0 43 (A6 g0 g1 g2)
    go_upto_region 34 with (with_reducible refine y2.out _ _ _ _ _ ?_ ?_; exact ⟨_, _, rfl, rfl, rfl, by kernel_rfl⟩)
    clear y2 u0 u2
    generalize W13.alloc (.cells (A6 g0 g1 g2) 43) = W14 at *
    generalize W13.heap.size = gw at *
    have a1 := (fx.ev.blk 1 rfl).cell 1
    rcases hT.out with ⟨hE, hgt⟩ | ⟨rfl, hg, rfl, hX15, q, hq, hq1, hq2⟩
    ·clear hT
     have hE1 : (E == 0) = false := by simpa using hE
     replace hE := Lib.hid hE
     rcases Classical.em (g = 0) with rfl | hg
     ·obtain rfl : th = false := by rcases hgt with h | h; exact absurd rfl h; exact h
      go_wp2_with fail
      refine Handed.intro (m - (k + 1)) (by have := hgk.out; omega) ?_
      go_step
      refine frm_meet (by kernel_rfl) ?_
      exact ⟨k + 1, rfl, by omega, by omega, ⟨rfl, rfl, rfl, rfl, rfl, rfl⟩, rfl, ⟨np2, nf2, n1, n2, L', fx.sub (fun x hx => by simp at hx ⊢; simp [hx]) (fun x hx => by simp at hx), hi'.out, hnd.out, by omega, by omega, by omega, by omega, by omega⟩⟩
     ·have hg1 : (g == 0) = false := by simpa using hg
      have hg2 : (g != 0) = true := by simpa using hg
      replace hg := Lib.hid hg
      clear hgt
      go_wp2_with fail
      refine Handed.intro (m - (k + 1)) (by have := hgk.out; omega) ?_
      go_step
      refine frm_meet (by kernel_rfl) ?_
      exact ⟨k + 1, rfl, by omega, by omega, ⟨rfl, rfl, rfl, rfl, rfl, rfl⟩, rfl, ⟨np2, nf2, n1, n2, L', fx.sub (fun x hx => by simp at hx ⊢; simp [hx]) (fun x hx => by simp at hx), hi'.out, hnd.out, by omega, by omega, by omega, by omega, by omega⟩⟩
    ·clear hT
     have hg' : g = 0 := hg
     subst hg'
     clear hg
     obtain ⟨pr, sr, ds, fl, ki, co, er, ⟨i0, i1, i2, i3, i4, i5⟩, pat, bb⟩ := q
     have hxb : nx ≤ 1500 := by have h1 : X1.length = nx := hxn; omega
     have kP := rPart_any X1 XA nx xc W14 (fx.ev.rd 0 rfl hxn) hxc1 hxc2 (by omega)
     rw [hq] at kP
     unfold PartT at kP
     simp only [Pt.val] at kP
     clear hq
     replace kP := Lib.hid kP
     have z0 := (fx.ev.blk 1 rfl).cell 0
     replace hq1 := Lib.hid hq1
     replace hq2 := Lib.hid hq2
     go_wp2_with fail
     clear z0 a1
     refine kP.out.mono ?_
     rintro e W15 ⟨rfl, hb⟩
     replace fx := (fx.bel hb).new 54 Z0 (A0 pr sr ds fl ki co er i0 i1 i2 i3 i4 i5 pat bb)
     clear hb kP
     go_upto_region 38 with (refine wpList_stRow rfl rfl rfl rfl rfl (Blk.new W15 _ _) rpt_size rfl (by simp [Value.oneCell']) ?_; generalize (W15.alloc (.cells Z0 54)).setRow W15.heap.size (A0 pr sr ds fl ki co er i0 i1 i2 i3 i4 i5 pat bb) = W16 at *)
     generalize W15.heap.size = gp at *
     have a1 := (fx.ev.blk 2 rfl).cell 1
     have s1 := (fx.ev.blk 0 rfl).cell 1
     have s2 := (fx.ev.blk 0 rfl).cell 2
     have s6 := (fx.ev.blk 0 rfl).cell 6
     have s11 := (fx.ev.blk 0 rfl).cell 11
     have t1 := (fx.ev.blk 1 rfl).cell 1
     have t2 := (fx.ev.blk 1 rfl).cell 2
     cases er with
     | true =>
      obtain ⟨h1, h2⟩ := hq1.out rfl
      have h1' : i4 = g1 := h1
      have h2' : sr = g2 := h2
      subst h1' h2'
      clear h1 h2 hq1 hq2
      go_wp2_with fail
      refine Handed.intro (m - (k + 1)) (by have := hgk.out; omega) ?_
      go_step
      refine frm_meet (by kernel_rfl) ?_
      exact ⟨k + 1, rfl, by omega, by omega, ⟨rfl, rfl, rfl, rfl, rfl, rfl⟩, rfl, ⟨np2, nf2, n1, n2, L', fx.sub (fun x hx => by simp at hx ⊢; simp [hx]) (fun x hx => by simp at hx), hi'.out, hnd.out, by omega, by omega, by omega, by omega, by omega⟩⟩
     | false =>
      have h1 := hq2.out rfl
      have h1' : ds = g2 := h1
      subst h1'
      clear h1 hq1 hq2
      go_wp2_with fail
      refine Handed.intro (m - (k + 1)) (by have := hgk.out; omega) ?_
      go_step
      refine frm_meet (by kernel_rfl) ?_
      exact ⟨k + 1, rfl, by omega, by omega, ⟨rfl, rfl, rfl, rfl, rfl, rfl⟩, rfl, ⟨np2, nf2, n1, n2, L', fx.sub (fun x hx => by simp at hx ⊢; simp [hx]) (fun x hx => by simp at hx), hi'.out, hnd.out, by omega, by omega, by omega, by omega, by omega⟩⟩
   ·have hcond : decide (k < m) = false ∨ (decide (k < m) = true ∧ decide ((k : Int) < 30) = false) := by
     rcases Nat.lt_or_ge k m with h | h
     ·exact .inr ⟨by simpa using h, by simp; omega⟩
     ·exact .inl (by simp; omega)
    have hlen : L.length = F.length := hi.len
    have kB := fx.ev.bnd hc.out (by omega)
    rw [hlen] at kB
    have kL := fun ty => fx.kp.len rflow_int ty
    have hFd : decide ((F.length : Int) ≤ 120) = true := by simp; omega
    obtain ⟨fl_, hfl⟩ : ∃ fl_, F.length = fl_ := ⟨_, rfl⟩
    rw [hfl] at kB kL hFd
    replace kB := Lib.hid kB
    clear kL
    replace hfl := Lib.hid hfl
    rcases hcond with d1 | ⟨d1, d2⟩
    ·have d3 : decide ((k : Int) < (m : Int)) = false := by simp at d1 ⊢; omega
     go_wp2_with fail
     refine kB.out.mono ?_
     rintro e V1 ⟨BA, bcp, rfl, hbc, _, ev1, hb1⟩
     replace fx := fx.bel hb1
     have kL := fun ty => fx.kp.len rflow_int ty
     rw [hfl.out] at kL
     have y1 := wpList_lenX (P := Tryz.prog) kL
     replace y1 := Lib.hid y1
     have y3 := wpList_ldX (P := Tryz.prog) (fx.ev.blk 0 rfl) Tryz.underlying25 c14_size
     replace y3 := Lib.hid y3
     clear kL kB ev1 hb1
     go_wp2_with (first
      | (with_reducible refine y1.out _ _ _ _ _ ?_ ?_; exact ⟨_, rfl, rfl, by kernel_rfl⟩)
      | (with_reducible refine y3.out _ _ _ _ _ ?_ ?_; exact ⟨_, rfl, rfl, by kernel_rfl⟩))
     refine (To_any (cfL 39) _).mono ?_
     rintro e V2 ⟨rfl, hb2⟩
     replace fx := fx.bel hb2
     clear y1 y3 hb2
     go_wp2_with fail
     refine (Places39 _).mono ?_
     rintro e V3 ⟨rfl, hb3⟩
     replace fx := fx.bel hb3
     clear hb3
     go_wp2_with fail
     go_ret
     exact ⟨rfl, fx.ev.ln.bel⟩
    ·have d3 : decide ((k : Int) < (m : Int)) = true := by simpa using d1
     go_wp2_with fail
     refine kB.out.mono ?_
     rintro e V1 ⟨BA, bcp, rfl, hbc, _, ev1, hb1⟩
     replace fx := fx.bel hb1
     have kL := fun ty => fx.kp.len rflow_int ty
     rw [hfl.out] at kL
     have y1 := wpList_lenX (P := Tryz.prog) kL
     replace y1 := Lib.hid y1
     have y3 := wpList_ldX (P := Tryz.prog) (fx.ev.blk 0 rfl) Tryz.underlying25 c14_size
     replace y3 := Lib.hid y3
     clear kL kB ev1 hb1
     go_wp2_with (first
      | (with_reducible refine y1.out _ _ _ _ _ ?_ ?_; exact ⟨_, rfl, rfl, by kernel_rfl⟩)
      | (with_reducible refine y3.out _ _ _ _ _ ?_ ?_; exact ⟨_, rfl, rfl, by kernel_rfl⟩))
     refine (To_any (cfL 39) _).mono ?_
     rintro e V2 ⟨rfl, hb2⟩
     replace fx := fx.bel hb2
     clear y1 y3 hb2
     go_wp2_with fail
     refine (Places39 _).mono ?_
     rintro e V3 ⟨rfl, hb3⟩
     replace fx := fx.bel hb3
     clear hb3
     go_wp2_with fail
     go_ret
     exact ⟨rfl, fx.ev.ln.bel⟩
theorem FanlightModels_args (W : World) (args : Array Value) (hs : args.size = Tryz.f3.params.size) (hA : ∀ (j : Nat) t v, Tryz.f3.params[j]? = some t → args[j]? = some v → Arg Tryz.prog W t v) :
  Calls Tryz.prog 3 args W fun e W' => e = .returned (.bool true) ∧ Below W.heap.size W W' := by
 obtain ⟨v0, v1, rfl⟩ := args2 hs
 obtain ⟨A, n, ca, rfl, h1, h2, h3⟩ := arg_sents (hA 0 22 v0 rfl rfl)
 obtain ⟨B, m, cb, rfl, g1, g2, g3⟩ := arg_sents (hA 1 22 v1 rfl rfl)
 exact FanlightModels_walk A B n ca m cb W h3 g3 h1 h2 g1 g2
theorem FanlightModels_lifted (os : Os) (started : os.Started) (H : Type) (enc : TypeId × Value → H) :
  ReturnsInHanded {} Tryz.checked os 3 .any (Rows.fanlightModelsSpec.pre6 enc Tryz.prog Tryz.f3 Rows.fanlightModelsRow.domain false) (Rows.fanlightModelsSpec.post enc Tryz.prog Tryz.f3 false true false false) :=
 law_lifted os started H enc (by kernel_rfl) Tryz.func3 rfl rfl (fun H ds h => by match ds, h with | [_, _], _ => exact ⟨rfl, rfl, rfl⟩) (by kernel_rfl)
  (ChangeSpec.witness6 (enc := enc) (C := Tryz.checked) false ⟨#[], #[.slice none 0 0, .slice none 0 0], []⟩ 8 (by kernel_rfl) (by kernel_rfl) (by kernel_rfl) (by kernel_rfl))
  FanlightModels_args
theorem fanlightModels_holds : Rows.FanlightModelsSaid :=
 OpenClaim.holds_of_wide 3 Tryz.f3 rfl rfl rfl rfl rfl rfl rfl ⟨rfl, rfl, rfl, rfl, rfl⟩ rfl rfl rfl rfl rfl (by kernel_rfl) Tryz.func3 (by kernel_rfl)
  (of_decide_eq_true (by kernel_rfl)) (by unfold Func.isWrapper; first | (rw [if_pos (by decide +kernel)]; kernel_rfl) | (rw [if_neg (by decide +kernel)]; exact ⟨rfl, rfl⟩))
  (fun os started H enc _ => FanlightModels_lifted os started H enc)
end
end Go.Proofs.YtbichbdcibchlaaGreat
