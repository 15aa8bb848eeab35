/- Every input of ModelErrors answers true, and reads behind the call as it read before. No condition. -/
import Derived.Test.YtbckoohljkmahaaGreatPE04
namespace Go.Proofs.YtbckoohljkmahaaGreat
set_option linter.unusedVariables false
set_option linter.unusedSimpArgs false
open Go.RowKit
set_option maxRecDepth 100000 in
set_option maxHeartbeats 4000000 in
theorem ModelErrors_walk (out : Bool) (wt wo po f be by_ ti fr tick : Int) (A : Option Addr) (len cap : Nat) (l : List Int) (w : World) (hr : Rd .u8 w w.heap.size A len l) (hlc : len ≤ cap) (hcm : cap ≤ 9223372036854775807) (hfr : 0 ≤ fr ∧ fr ≤ 4294967295) :
    Calls Tryz.prog 8 #[.agg #[.bool out, .int .i64 wt, .int .i64 wo, .int .i64 po, .int .i64 f, .slice A len cap, .int .i64 be, .int .u8 by_, .int .i64 ti], .int .u32 fr, .int .i64 tick] w fun e w' => e = .returned (.bool true) ∧ Below w.heap.size w w' := by
  have hc : (cfL 39).ok := cfL_ok (by omega)
  have hou : 0 ≤ (cfL 39).ou ∧ (cfL 39).ou ≤ 4294967295 := by decide
  have kT : ∀ W, Calls Tryz.prog 14 #[.agg #[.int .i64 1, .int .u32 3221225985, .int .i64 1000, .int .i64 1039, .int .i64 2, .int .i64 4]] W fun e w' => e = .returned (.agg #[.int .i64 1, .int .u32 3221225985, .int .i64 1000, .int .i64 1039, .int .i64 2, .int .i64 4]) ∧ Below W.heap.size W w' := fun W => To_any (cfL 39) W
  have kN : ∀ W, Calls Tryz.prog 20 #[.agg #[.int .i64 1, .int .u32 3221225985, .int .i64 1000, .int .i64 1039, .int .i64 2, .int .i64 4]] W (NewR W (cfL 39)) := fun W => New_ok (cfL 39) W hc
  obtain ⟨k, hk, hk3⟩ := modn wt 3 (by omega)
  have hk3' : k < 3 := by omega
  have hkv : Value.int .u64 ((IntKind.u64.wrap wt).tmod 3) = .int .u64 (k : Int) := by rw [hk]
  obtain ⟨tt, htt, htt3⟩ := modn tick 1000 (by omega)
  have htv : Value.int .u64 ((IntKind.u64.wrap tick).tmod 1000) = .int .u64 (tt : Int) := by rw [htt]
  clear hk htt
  obtain ⟨m, hmn, hm1, hm2⟩ := minc 20 (by omega) len
  obtain ⟨a, ha, hab⟩ := modn wo 3 (by omega)
  obtain ⟨c, hc3, hcb⟩ := modn ((IntKind.u64.wrap wo).tdiv 3) 3 (by omega)
  obtain ⟨p, hp, hpb⟩ := modn po 5 (by omega)
  have kF := fun w' (h : Below w.heap.size w w') => Frame15_k (k : Int) wo po 2 be ti A len cap l a c p m k w' ((hr.below h).more h.size) hlc hcm hmn hm1 (modk k (by omega)) hk3' ha hab hc3 hcb hp hpb
  unfold Gives at kF
  have h8 : Bytes8 ((l.take m).take 40) := fun x hx => inr_u8 (hr.rng x (List.mem_of_mem_take (List.mem_of_mem_take hx)))
  have hn : ((l.take m).take 40).length ≤ 40 := by rw [List.length_take]; omega
  have hfb : 28 ≤ (frameL k (167772161 + (a : Int)) (134744065 + (c : Int)) (5 + (p : Int)) 53 2 ((l.take m).take 40)).length ∧ (frameL k (167772161 + (a : Int)) (134744065 + (c : Int)) (5 + (p : Int)) 53 2 ((l.take m).take 40)).length ≤ 130 := frame_bd hn
  have hwh := frame_who (k := k) (s := 167772161 + (a : Int)) (d := 134744065 + (c : Int)) (a := 5 + (p : Int)) (b := 53) (f := 2) (l := (l.take m).take 40) (by omega) (by omega) (by omega) (by omega) h8 hn (by omega) 3221225985
  have hag := fun (g8 : Bytes8 (frameL k (167772161 + (a : Int)) (134744065 + (c : Int)) (5 + (p : Int)) 53 2 ((l.take m).take 40))) => frame_again (k := k) (s := 167772161 + (a : Int)) (d := 134744065 + (c : Int)) (a := 5 + (p : Int)) (b := 53) (f := 2) (l := (l.take m).take 40) (by omega) (by omega) (by omega) (by omega) h8 hn (by omega) true (ou := 3221225985) (po := 1007) g8 (by omega) (by omega)
  have hR1 := step_new (k := k) (s := 167772161 + (a : Int)) (d := 134744065 + (c : Int)) (a := 5 + (p : Int)) (b := 53) (f := 2) (l := (l.take m).take 40) (by omega) (by omega) (by omega) (by omega) h8 hn hk3' (cfL 39) [] 3 1007 (fun _ => rfl) (by omega) (by omega) rfl (place39 hk3' (by omega)) rfl
  rw [putB_nil, show (cfL 39).ou = 3221225985 from rfl] at hR1
  have hau : 0 ≤ 167772161 + (a : Int) ∧ 167772161 + (a : Int) ≤ 4294967295 := by omega
  have hqu : 0 ≤ 5 + (p : Int) ∧ 5 + (p : Int) ≤ 65535 := by omega
  obtain ⟨n1, hn1⟩ : ∃ n, (frameL k (167772161 + (a : Int)) (134744065 + (c : Int)) (5 + (p : Int)) 53 2 ((l.take m).take 40)).length = n := ⟨_, rfl⟩
  rw [hn1] at hfb
  rw [hn1] at hag
  generalize frameL k (167772161 + (a : Int)) (134744065 + (c : Int)) (5 + (p : Int)) 53 2 ((l.take m).take 40) = F at *
  generalize rwL F true 3221225985 1007 = X at *
  generalize 134744065 + (c : Int) = dd at *
  generalize 167772161 + (a : Int) = au at *
  generalize 5 + (p : Int) = qu at *
  have hat := atB_one (c := cfL 39) (b := ⟨⟨carP k, au, qu⟩, 1007, 0, 3⟩)
  have hS2 := fun g8 => (about_step hk3' (hag g8) (by omega) hfr (by omega) (cfL 39) rfl [⟨⟨carP k, au, qu⟩, 1007, 0, 3⟩] (4 + (tt : Int)) 0 (by omega)).1 _ hat
  have hS3 := fun g8 => (about_step hk3' (hag g8) (by omega) hfr (by omega) (cfL 39) rfl [] 1 0 (by omega)).2 rfl
  have hIn := fun g8 a8 => about_in hk3' (hag g8) (by omega) hfr (by omega) hau hqu a8
  have hXl := fun g8 => (hag g8).len
  have hX8 := fun g8 => (hag g8).b8
  simp only at hS2
  obtain ⟨Ab, hAb⟩ : ∃ Ab, AbA fr 3221225985 X = Ab := ⟨_, rfl⟩
  rw [hAb] at hS2 hS3 hIn
  have hAbl : Ab.length = 28 + (fewL X).length := by rw [← hAb]; show (putL 9 1 fr 3221225985 (faultL 3 1 X)).length = _; rw [put_len, faultL_len]; omega
  have hfe : (fewL X).length ≤ X.length := by unfold fewL; rw [List.length_take]; omega
  obtain ⟨Y, hY⟩ : ∃ Y, rwL Ab false au qu = Y := ⟨_, rfl⟩
  rw [hY] at hS2 hIn
  generalize carP k = pu at *
  generalize (⟨⟨pu, au, qu⟩, 1007, 0, 3⟩ : Bd) = B1 at *
  clear hag hat hau hqu ha hc3 hp hab hcb hpb hmn hm1 hm2 hY
  replace hc := Lib.hid hc
  replace hou := Lib.hid hou
  replace kT := Lib.hid kT
  replace kN := Lib.hid kN
  replace kF := Lib.hid kF
  replace hwh := Lib.hid hwh
  replace hR1 := Lib.hid hR1
  replace hS2 := Lib.hid hS2
  replace hS3 := Lib.hid hS3
  replace hIn := Lib.hid hIn
  replace hXl := Lib.hid hXl
  replace hX8 := Lib.hid hX8
  replace hn1 := Lib.hid hn1
  replace hr := Lib.hid hr
  replace hAbl := Lib.hid hAbl
  replace hAb := Lib.hid hAb
  go_enter Tryz.func8, Tryz.ntmps8
  go_upto_region 1 with fail
  have ba := Blk.new w 24 #[.bool out, .int .i64 wt, .int .i64 wo, .int .i64 po, .int .i64 f, .slice A len cap, .int .i64 be, .int .u8 by_, .int .i64 ti]
  have bel := bel_alloc w (.cells #[.bool out, .int .i64 wt, .int .i64 wo, .int .i64 po, .int .i64 f, .slice A len cap, .int .i64 be, .int .u8 by_, .int .i64 ti] 24)
  generalize w.alloc (.cells #[.bool out, .int .i64 wt, .int .i64 wo, .int .i64 po, .int .i64 f, .slice A len cap, .int .i64 be, .int .u8 by_, .int .i64 ti] 24) = W at *
  have c0 := ba.cell 0
  have c1 := ba.cell 1
  have c4 := ba.cell 4
  have c7 := ba.cell 7
  have f0 := ba.frozen 0
  have f1 := ba.frozen 1
  have f4 := ba.frozen 4
  have f7 := ba.frozen 7
  have bs := ((((ba.set_ 0 (.bool true)).set_ 7 (.int .u8 0)).set_ 4 (.int .i64 2)).set_ 1 (.int .i64 (k : Int)))
  have hu := ((((Upd.refl (fun j => j = w.heap.size) W).setCell (p := ⟨w.heap.size, 0, none⟩) (fun _ => rfl) (.bool true)).setCell (p := ⟨w.heap.size, 7, none⟩) (fun _ => rfl) (.int .u8 0)).setCell (p := ⟨w.heap.size, 4, none⟩) (fun _ => rfl) (.int .i64 2)).setCell (p := ⟨w.heap.size, 1, none⟩) (fun _ => rfl) (.int .i64 (k : Int))
  go_upto_region 2 with fail
  generalize (((W.setCell ⟨w.heap.size, 0, none⟩ (.bool true)).setCell ⟨w.heap.size, 7, none⟩ (.int .u8 0)).setCell ⟨w.heap.size, 4, none⟩ (.int .i64 2)).setCell ⟨w.heap.size, 1, none⟩ (.int .i64 (k : Int)) = W1 at *
  replace bs : Blk W1 w.heap.size 24 #[.bool true, .int .i64 (k : Int), .int .i64 wo, .int .i64 po, .int .i64 2, .slice A len cap, .int .i64 be, .int .u8 0, .int .i64 ti] := bs
  replace bel := bel.trans (hu.below bel.size (fun j hj e => by omega))
  clear c0 c1 c4 c7 f0 f1 f4 f7 hu ba hkv
  go_wp2_with fail
  refine (Config39 _).mono ?_
  rintro e w1 ⟨rfl, hb⟩
  replace bs := bs.bel hb
  replace bel := bel_after bel hb
  clear hb
  have bc := (Blk.new w1 27 #[.int .i64 0, .int .u32 0, .int .i64 0, .int .i64 0, .int .i64 0, .int .i64 0]).setRow #[.int .i64 1, .int .u32 3221225985, .int .i64 1000, .int .i64 1039, .int .i64 2, .int .i64 4]
  have hbK : Below w1.heap.size w1 ((w1.alloc (.cells #[.int .i64 0, .int .u32 0, .int .i64 0, .int .i64 0, .int .i64 0, .int .i64 0] 27)).setRow w1.heap.size #[.int .i64 1, .int .u32 3221225985, .int .i64 1000, .int .i64 1039, .int .i64 2, .int .i64 4]) := below_setRow (bel_alloc _ _) (Nat.le_refl _) _
  go_upto_region 3 with (refine wpList_stRow rfl rfl rfl rfl rfl (Blk.new w1 _ _) c14_size rfl (by simp [Value.oneCell']) ?_; generalize (w1.alloc (.cells #[.int .i64 0, .int .u32 0, .int .i64 0, .int .i64 0, .int .i64 0, .int .i64 0] 27)).setRow w1.heap.size #[.int .i64 1, .int .u32 3221225985, .int .i64 1000, .int .i64 1039, .int .i64 2, .int .i64 4] = W2 at *)
  replace bs := bs.bel hbK
  replace bel := bel_after bel hbK
  clear hbK
  generalize w1.heap.size = gc at *
  go_wp2_with (refine wpList_ldRow rfl rfl rfl bc Tryz.underlying27 c14_size ?_)
  refine (kT.out _).mono ?_
  rintro e w2 ⟨rfl, hb⟩
  replace bs := bs.bel hb
  replace bc := bc.bel hb
  replace bel := bel_after bel hb
  clear hb
  go_wp2_with fail
  refine (kN.out _).mono ?_
  intro e w3 hN
  have hb := hN.choose_spec.choose_spec.choose_spec.2.2.1
  replace bs := bs.bel hb
  replace bc := bc.bel hb
  obtain ⟨gn, pb, fm, rfl, ln⟩ := LN.made bel hN
  clear hN bel hb
  have ev : Ev w w3 (cfL 39) gn pb fm 0 0 [] [(w.heap.size, 24, #[.bool true, .int .i64 (k : Int), .int .i64 wo, .int .i64 po, .int .i64 2, .slice A len cap, .int .i64 be, .int .u8 0, .int .i64 ti]), (gc, 27, #[.int .i64 1, .int .u32 3221225985, .int .i64 1000, .int .i64 1039, .int .i64 2, .int .i64 4])] [] :=
    ⟨ln, fun x hx => by
      rcases List.mem_cons.1 hx with rfl | hx
      · exact bs
      rcases List.mem_cons.1 hx with rfl | hx
      · exact bc
      · exact (List.not_mem_nil hx).elim, fun x hx => (List.not_mem_nil hx).elim⟩
  clear bc ln
  go_wp2_with (refine wpList_ldRow rfl rfl rfl bs Tryz.underlying24 s15_size ?_)
  clear bs
  refine (kF.out _ ev.ln.bel).mono ?_
  rintro e w4 ⟨v4, rfl, own4, hb⟩
  obtain ⟨FA, fa, rfl, hfa1, hfa2, _⟩ := own4.form hn1.out
  unfold maxLen at hfa2
  replace ev := ev.row hb own4
  clear hb own4
  have g8 := ev.b8 0 rfl
  have hXn : X.length = n1 := by have : (X.length : Int) = (n1 : Int) := hXl.out g8; omega
  have hX8' := hX8.out g8
  have hS2' := hS2.out g8
  have hS3' := hS3.out g8
  have hIn' := hIn.out g8
  replace hS2' := Lib.hid hS2'
  replace hS3' := Lib.hid hS3'
  replace hIn' := Lib.hid hIn'
  replace hX8' := Lib.hid hX8'
  clear hXl hX8 hS2 hS3 hIn g8
  have kS := ev.stp hc.out hou.out (by omega) (by omega) true FA n1 fa 3 1007 F (ev.rd 0 rfl hn1.out) hfa1 (by omega) (by omega) hR1.out
  replace kS := Lib.hid kS
  go_wp2_with fail
  refine kS.out.mono ?_
  rintro e w5 ⟨XA, nx, xc, np, nf, rfl, hxn, hxc1, hxc2, ev5, hnp, hnf, hsz⟩
  have hxb : nx ≤ 130 ∧ 28 ≤ nx := by have : X.length = nx := hxn; omega
  clear kS hsz ev
  have ev := ev5.new 55 #[.slice none 0 0, .int .i64 0] #[.slice XA nx xc, .int .i64 0]
  go_upto_region 6 with (refine wpList_stRow rfl rfl rfl rfl rfl (Blk.new w5 _ _) an_size rfl (by simp [Value.oneCell']) ?_; generalize (w5.alloc (.cells #[.slice none 0 0, .int .i64 0] 55)).setRow w5.heap.size #[.slice XA nx xc, .int .i64 0] = w6 at *)
  clear ev5
  generalize w5.heap.size = gx at *
  have kw := rWhose_any 1 3221225985 1000 1039 2 4 true F FA n1 fa w6 (ev.rd 1 rfl hn1.out) hfa1 (by omega) (by omega)
  rw [hwh.out] at kw
  unfold WhoR at kw
  simp only [Fl.cs] at kw
  replace kw := Lib.hid kw
  have hdc := ev.blk 2 rfl
  go_wp2_with (refine wpList_ldRow rfl rfl rfl hdc Tryz.underlying27 c14_size ?_)
  clear hdc
  refine kw.out.mono ?_
  rintro e w7 ⟨rfl, hb⟩
  replace ev := (ev.bel hb).new0 38 #[.int .i64 pu, .int .u32 au, .int .u16 qu]
  clear hb kw
  go_upto_region 7 with fail
  generalize w7.alloc (.cells #[.int .i64 pu, .int .u32 au, .int .u16 qu] 38) = w8 at *
  generalize w7.heap.size = gu at *
  have x1 := (ev.blk 1 rfl).cell 1
  go_wp2_with fail
  refine (binds_any _).mono ?_
  rintro e w9 ⟨rfl, hb⟩
  replace ev := ev.bel hb
  clear hb x1
  have x1 := (ev.blk 1 rfl).cell 1
  have kB := ev.bnd hc.out (by omega)
  replace kB := Lib.hid kB
  go_wp2_with fail
  refine kB.out.mono ?_
  rintro e w10 ⟨BA, bc, rfl, hbc, ownB, ev10, hb⟩
  clear kB x1 ev
  have ev := ev10
  clear ev10 hb
  have kf := from_any [B1] BA 1 bc w10 (ownB.rd BdL_len rfl rfl) hbc (by omega)
  replace kf := Lib.hid kf
  go_wp2_with fail
  refine kf.out.mono ?_
  rintro e w11 ⟨v11, rfl, own1, hb⟩
  replace ev := ev.bel hb
  clear hb kf ownB
  obtain ⟨WA, wc, rfl, hwc1, hwc2⟩ := own1.form (n := 1) rfl
  have x0 := (ev.blk 1 rfl).cell 0
  have kFa := rFault_any 3 1 X XA nx xc _ w11 (ev.rd 0 rfl hxn) (Nat.le_refl _) hxc1 hxc2
  unfold Gives at kFa
  replace kFa := Lib.hid kFa
  go_wp2_with fail
  clear x0
  refine kFa.out.mono ?_
  rintro e w12 ⟨v12, rfl, own12, hb⟩
  have hXr : X.length = nx := hxn
  have hfn : (faultL 3 1 X).length ≤ 1480 := by rw [faultL_len]; omega
  obtain ⟨qn, hqn⟩ : ∃ n, (faultL 3 1 X).length = n := ⟨_, rfl⟩
  rw [hqn] at hfn
  obtain ⟨QA, qc, rfl, hq1, hq2, _⟩ := own12.form hqn
  replace ev := ev.row hb own12
  replace own1 := own1.below hb
  clear hb own12 kFa
  have kPu := rPut_any 0 0 9 1 fr 3221225985 (faultL 3 1 X) QA qn qc _ w12 (ev.rd 0 rfl hqn) (Nat.le_refl _) (by omega) (by omega) hfr (by omega) hfn
  unfold rPutRes at kPu
  rw [show putL 9 1 fr 3221225985 (faultL 3 1 X) = Ab from hAb.out] at kPu
  replace kPu := Lib.hid kPu
  go_wp2_with fail
  refine kPu.out.mono ?_
  rintro e w13 ⟨v13, rfl, own13, hb⟩
  obtain ⟨n3, hn3⟩ : ∃ n, Ab.length = n := ⟨_, rfl⟩
  have hn3b : n3 ≤ 200 := by have h1 := hAbl.out; omega
  obtain ⟨UA, uc, rfl, hu1, hu2, _⟩ := own13.form hn3
  unfold maxLen at hu2
  replace ev := ev.row hb own13
  replace own1 := own1.below hb
  clear hb own13 kPu
  have a8 := ev.b8 0 rfl
  have hI := hIn'.out a8
  rw [hn3] at hI
  replace hI := Lib.hid hI
  clear hIn'
  have kS := ev.stp hc.out hou.out (by omega) (by omega) false UA n3 uc (4 + (tt : Int)) 0 Ab (ev.rd 0 rfl hn3) hu1 (by omega) (by omega) hS2'.out
  replace kS := Lib.hid kS
  go_wp2_with fail
  refine kS.out.mono ?_
  rintro e w14 ⟨YA, ny, yc, np2, nf2, rfl, hyn, hyc1, hyc2, ev14, hnp2, hnf2, hsz, hu⟩
  replace own1 := ev.ln.nm.ownTU own1 hu
  have hyb : ny ≤ 200 := by
    have h1 : Y.length = ny := hyn
    have h2 : (Y.length : Int) = (n3 : Int) := hI.out.2.2.1
    omega
  clear kS hsz hu ev htv
  have ev := ev14.new 55 #[.slice none 0 0, .int .i64 0] #[.slice YA ny yc, .int .i64 0]
  have hbA : Below w14.heap.size w14 ((w14.alloc (.cells #[.slice none 0 0, .int .i64 0] 55)).setRow w14.heap.size #[.slice YA ny yc, .int .i64 0]) := below_setRow (bel_alloc _ _) (Nat.le_refl _) _
  replace own1 := own1.below hbA
  go_upto_region 12 with (refine wpList_stRow rfl rfl rfl rfl rfl (Blk.new w14 _ _) an_size rfl (by simp [Value.oneCell']) ?_; generalize (w14.alloc (.cells #[.slice none 0 0, .int .i64 0] 55)).setRow w14.heap.size #[.slice YA ny yc, .int .i64 0] = w15 at *)
  clear ev14 hbA
  generalize w14.heap.size = gy at *
  have kG := rGet_any Y false YA ny yc _ w15 (ev.rd 0 rfl hyn) (Nat.le_refl _) hyc1 hyc2 (by omega)
  have hh : hdIf Y 0 = ⟨20, (n3 : Int), 9, 1, fr, au⟩ := hI.out.2.1
  rw [show getP Y false = getE Y from rfl, hI.out.1, hh] at kG
  simp only [Hd.val] at kG
  clear hh
  replace kG := Lib.hid kG
  have z0 := (ev.blk 0 rfl).cell 0
  go_wp2_with fail
  refine kG.out.mono ?_
  rintro e w16 ⟨rfl, hb⟩
  replace ev := (ev.bel hb).new 67 #[.int .i64 0, .int .i64 0, .int .i64 0, .int .i64 0, .int .u32 0, .int .u32 0] #[.int .i64 20, .int .i64 (n3 : Int), .int .i64 9, .int .i64 1, .int .u32 fr, .int .u32 au]
  replace own1 := own1.below hb
  have hbA : Below w16.heap.size w16 ((w16.alloc (.cells #[.int .i64 0, .int .i64 0, .int .i64 0, .int .i64 0, .int .u32 0, .int .u32 0] 67)).setRow w16.heap.size #[.int .i64 20, .int .i64 (n3 : Int), .int .i64 9, .int .i64 1, .int .u32 fr, .int .u32 au]) := below_setRow (bel_alloc _ _) (Nat.le_refl _) _
  replace own1 := own1.below hbA
  clear hb kG z0 hbA
  go_upto_region 13 with (refine wpList_stRow rfl rfl rfl rfl rfl (Blk.new w16 _ _) rhd_size rfl (by simp [Value.oneCell']) ?_; generalize (w16.alloc (.cells #[.int .i64 0, .int .i64 0, .int .i64 0, .int .i64 0, .int .u32 0, .int .u32 0] 67)).setRow w16.heap.size #[.int .i64 20, .int .i64 (n3 : Int), .int .i64 9, .int .i64 1, .int .u32 fr, .int .u32 au] = w17 at *)
  generalize w16.heap.size = gh at *
  obtain ⟨⟨pr3, sr3, ds3, fl3, ki3, co3, er3, ⟨t0, t1, t2, t3, t4, t5⟩, pat3, bb3⟩, hq, hqe, hqi, hqs⟩ := hI.out.2.2.2
  have he' : er3 = true := hqe
  obtain rfl : au = t4 := Eq.symm hqi
  obtain rfl : qu = sr3 := Eq.symm hqs
  subst he'
  clear hqe hI
  have kP := rPart_any Y YA ny yc w17 (ev.rd 0 rfl hyn) hyc1 hyc2 (by omega)
  rw [hq] at kP
  unfold PartT at kP
  simp only [Pt.val] at kP
  clear hq
  replace kP := Lib.hid kP
  have z0 := (ev.blk 1 rfl).cell 0
  go_wp2_with fail
  clear z0
  refine kP.out.mono ?_
  rintro e w18 ⟨rfl, hb⟩
  replace ev := (ev.bel hb).new 69 #[.int .i64 0, .int .u16 0, .int .u16 0, .int .i64 0, .int .i64 0, .int .i64 0, .bool false, .int .i64 0, .int .i64 0, .int .i64 0, .int .i64 0, .int .u32 0, .int .u32 0, .int .i64 0, .bool false] #[.int .i64 pr3, .int .u16 qu, .int .u16 ds3, .int .i64 fl3, .int .i64 ki3, .int .i64 co3, .bool true, .int .i64 t0, .int .i64 t1, .int .i64 t2, .int .i64 t3, .int .u32 au, .int .u32 t5, .int .i64 pat3, .bool bb3]
  replace own1 := own1.below hb
  have hbA : Below w18.heap.size w18 ((w18.alloc (.cells #[.int .i64 0, .int .u16 0, .int .u16 0, .int .i64 0, .int .i64 0, .int .i64 0, .bool false, .int .i64 0, .int .i64 0, .int .i64 0, .int .i64 0, .int .u32 0, .int .u32 0, .int .i64 0, .bool false] 69)).setRow w18.heap.size #[.int .i64 pr3, .int .u16 qu, .int .u16 ds3, .int .i64 fl3, .int .i64 ki3, .int .i64 co3, .bool true, .int .i64 t0, .int .i64 t1, .int .i64 t2, .int .i64 t3, .int .u32 au, .int .u32 t5, .int .i64 pat3, .bool bb3]) := below_setRow (bel_alloc _ _) (Nat.le_refl _) _
  replace own1 := own1.below hbA
  clear hb kP hbA
  go_upto_region 14 with (refine wpList_stRow rfl rfl rfl rfl rfl (Blk.new w18 _ _) rpt_size rfl (by simp [Value.oneCell']) ?_; generalize (w18.alloc (.cells #[.int .i64 0, .int .u16 0, .int .u16 0, .int .i64 0, .int .i64 0, .int .i64 0, .bool false, .int .i64 0, .int .i64 0, .int .i64 0, .int .i64 0, .int .u32 0, .int .u32 0, .int .i64 0, .bool false] 69)).setRow w18.heap.size #[.int .i64 pr3, .int .u16 qu, .int .u16 ds3, .int .i64 fl3, .int .i64 ki3, .int .i64 co3, .bool true, .int .i64 t0, .int .i64 t1, .int .i64 t2, .int .i64 t3, .int .u32 au, .int .u32 t5, .int .i64 pat3, .bool bb3] = w19 at *)
  generalize w18.heap.size = gs at *
  have hdc := ev.blk 6 rfl
  go_wp2_with (refine wpList_ldRow rfl rfl rfl hdc Tryz.underlying27 c14_size ?_)
  clear hdc
  refine (kT.out _).mono ?_
  rintro e w20 ⟨rfl, hb⟩
  replace ev := ev.bel hb
  replace own1 := own1.below hb
  clear hb
  go_wp2_with fail
  refine (kN.out _).mono ?_
  intro e w21 hN
  obtain ⟨gn2, pb2, fm2, rfl, ln2⟩ := LN.made (Below.refl _ w20) hN
  clear hN kN kT
  have bel20 := ev.ln.bel
  have kS := ln2.stp hc.out hou.out (by omega) (by omega) false UA n3 uc 1 0 Ab ((ev.bel ln2.bel).rd 1 rfl hn3) hu1 (by omega) (by omega)
  rw [hS3'.out] at kS
  unfold StR at kS
  simp only at kS
  replace kS := Lib.hid kS
  clear hS3' hS2' hR1 hwh kF
  go_wp2_with fail
  refine kS.out.mono ?_
  rintro e w22 ⟨v22, np3, nf3, rfl, own22, ln4, hnp3, hnf3, _⟩
  obtain ⟨MA, mc, rfl, _, _⟩ := own22.form (n := 0) rfl
  clear kS own22 ln2
  have hbA : Below w22.heap.size w22 ((w22.alloc (.cells #[.slice none 0 0, .int .i64 0] 55)).setRow w22.heap.size #[.slice MA 0 mc, .int .i64 7]) := below_setRow (bel_alloc _ _) (Nat.le_refl _) _
  have bm := (Blk.new w22 55 #[.slice none 0 0, .int .i64 0]).setRow #[.slice MA 0 mc, .int .i64 7]
  replace ln4 := ln4.bel_ hbA
  go_upto_region 16 with (refine wpList_stRow rfl rfl rfl rfl rfl (Blk.new w22 _ _) an_size rfl (by simp [Value.oneCell']) ?_; generalize (w22.alloc (.cells #[.slice none 0 0, .int .i64 0] 55)).setRow w22.heap.size #[.slice MA 0 mc, .int .i64 7] = w23 at *)
  clear hbA
  generalize w22.heap.size = gm at *
  replace own1 := own1.below ln4.bel
  replace ev := ev.bel ln4.bel
  have x1 := (ev.blk 2 rfl).cell 1
  have x2 := (ev.blk 1 rfl).cell 4
  have x3 := (ev.blk 1 rfl).cell 5
  have x4 := (ev.blk 0 rfl).cell 6
  have x5 := (ev.blk 0 rfl).cell 11
  have x6 := (ev.blk 0 rfl).cell 1
  have x7 := (ev.blk 3 rfl).cell 1
  have x8 := (ev.blk 3 rfl).cell 2
  have kB := ev.bnd hc.out (by omega)
  replace kB := Lib.hid kB
  go_wp2_with fail
  refine kB.out.mono ?_
  rintro e w24 ⟨B2, bc2, rfl, hbc2, ownB, ev24, hb⟩
  clear kB x1 x2 x3 x4 x5 x6 x7 x8
  replace own1 := own1.below hb
  replace bm := bm.bel hb
  have ln5 := ln4.bel_ hb
  clear hb ln4 ev
  have kf := from_any [B1] B2 1 bc2 w24 (ownB.rd BdL_len rfl rfl) hbc2 (by omega)
  replace kf := Lib.hid kf
  go_wp2_with fail
  refine kf.out.mono ?_
  rintro e w25 ⟨v25, rfl, own2, hb⟩
  replace own1 := own1.below hb
  replace bm := bm.bel hb
  replace ln5 := ln5.bel_ hb
  clear hb kf ownB
  obtain ⟨V2, vc, rfl, hvc1, hvc2⟩ := own2.form (n := 1) rfl
  have kY := Same_yes [B1] V2 WA 1 vc wc w25 (own2.rd BdL_len rfl rfl) (own1.rd BdL_len rfl rfl) (by omega)
  replace kY := Lib.hid kY
  go_wp2_with fail
  refine kY.out.mono ?_
  rintro e w26 ⟨rfl, hb⟩
  replace bm := bm.bel hb
  replace ln5 := ln5.bel_ hb
  clear hb kY
  have m1 := bm.cell 1
  have kB := ln5.bnd hc.out (by omega)
  replace kB := Lib.hid kB
  go_wp2_with fail
  refine kB.out.mono ?_
  rintro e w27 ⟨v27, rfl, own27, ln6, hb⟩
  obtain ⟨A27, c27, rfl, _, _⟩ := own27.form (n := 0) rfl
  go_wp2_with fail
  go_ret
  exact ⟨rfl, bel20.trans (ln6.bel.mono bel20.size)⟩
theorem ModelErrors_args (W : World) (args : Array Value) (hs : args.size = Tryz.f8.params.size) (hA : ∀ (j : Nat) t v, Tryz.f8.params[j]? = some t → args[j]? = some v → Arg Tryz.prog W t v) :
    Calls Tryz.prog 8 args W fun e W' => e = .returned (.bool true) ∧ Below W.heap.size W W' := by
  obtain ⟨v0, v1, v2, rfl⟩ := args3 hs
  obtain ⟨o1, wt1, wo1, po1, f1, be1, by1, ti1, A1, len1, cap1, l1, rfl, _, h2, h3, h4⟩ := arg_s15 (hA 0 24 v0 rfl rfl)
  obtain ⟨far, rfl, hr⟩ := arg_int Tryz.underlying25 (hA 1 25 v1 rfl rfl)
  obtain ⟨tk, rfl, _⟩ := arg_int Tryz.underlying3 (hA 2 3 v2 rfl rfl)
  unfold maxLen at h3
  exact ModelErrors_walk o1 wt1 wo1 po1 f1 be1 by1 ti1 far tk A1 len1 cap1 l1 W h4 h2 (by omega) (inr_u32 hr)

set_option maxRecDepth 100000 in
theorem ModelErrors_lifted (os : Os) (started : os.Started) (H : Type) (enc : TypeId × Value → H) :
    ReturnsInHanded {} Tryz.checked os 8 .any (Rows.modelErrorsSpec.pre6 enc Tryz.prog Tryz.f8 Rows.modelErrorsRow.domain false) (Rows.modelErrorsSpec.post enc Tryz.prog Tryz.f8 false true false false) :=
  law_lifted os started H enc (by kernel_rfl) Tryz.func8 rfl rfl (fun H ds h => by match ds, h with | [_, _, _], _ => exact ⟨rfl, rfl, rfl⟩) (by kernel_rfl)
    (ChangeSpec.witness6 (enc := enc) (C := Tryz.checked) false ⟨#[], #[.agg #[.bool false, .int .i64 0, .int .i64 0, .int .i64 0, .int .i64 0, .slice none 0 0, .int .i64 0, .int .u8 0, .int .i64 0], .int .u32 0, .int .i64 0], []⟩ 8 (by kernel_rfl) (by kernel_rfl) (by kernel_rfl) (by kernel_rfl))
    ModelErrors_args

theorem modelErrors_holds : Rows.ModelErrorsSaid :=
  OpenClaim.holds_of_wide 8 Tryz.f8 rfl rfl rfl rfl rfl rfl rfl ⟨rfl, rfl, rfl, rfl, rfl⟩ rfl rfl rfl rfl rfl (by kernel_rfl) Tryz.func8 (by kernel_rfl)
    (of_decide_eq_true (by kernel_rfl)) (by unfold Func.isWrapper; first | (rw [if_pos (by decide +kernel)]; kernel_rfl) | (rw [if_neg (by decide +kernel)]; exact ⟨rfl, rfl⟩))
    (fun os started H enc _ => ModelErrors_lifted os started H enc)

end Go.Proofs.YtbckoohljkmahaaGreat
