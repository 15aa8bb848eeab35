/- Every input of ModelBack answers true, and reads behind the call as it read before. No condition. -/
import Derived.Test.YtbckoohljkmahaaGreatPB02
namespace Go.Proofs.YtbckoohljkmahaaGreat
set_option linter.unusedVariables false
set_option linter.unusedSimpArgs false
open Go.RowKit
set_option maxRecDepth 100000 in
set_option maxHeartbeats 4000000 in
theorem ModelBack_walk (out1 out2 : Bool) (wt1 wo1 po1 f1 be1 by1 ti1 wt2 wo2 po2 f2 be2 by2 ti2 far : Int) (A1 A2 : Option Addr) (len1 cap1 len2 cap2 : Nat) (l1 l2 : List Int) (w : World) (hr1 : Rd .u8 w w.heap.size A1 len1 l1) (hr2 : Rd .u8 w w.heap.size A2 len2 l2) (hlc1 : len1 ≤ cap1) (hcm1 : cap1 ≤ 9223372036854775807) (hlc2 : len2 ≤ cap2) (hcm2 : cap2 ≤ 9223372036854775807) (hfar : 0 ≤ far ∧ far ≤ 4294967295) :
    Calls Tryz.prog 5 #[.agg #[.bool out1, .int .i64 wt1, .int .i64 wo1, .int .i64 po1, .int .i64 f1, .slice A1 len1 cap1, .int .i64 be1, .int .u8 by1, .int .i64 ti1], .agg #[.bool out2, .int .i64 wt2, .int .i64 wo2, .int .i64 po2, .int .i64 f2, .slice A2 len2 cap2, .int .i64 be2, .int .u8 by2, .int .i64 ti2], .int .u32 far] w fun e w' => e = .returned (.bool true) ∧ Below w.heap.size w w' := by
  have hc : (cfL 39).ok := cfL_ok (by omega)
  have hou : 0 ≤ (cfL 39).ou ∧ (cfL 39).ou ≤ 4294967295 := by decide
  have kT : ∀ W, Calls Tryz.prog 14 #[.agg #[.int .i64 1, .int .u32 3221225985, .int .i64 1000, .int .i64 1039, .int .i64 2, .int .i64 4]] W fun e w' => e = .returned (.agg #[.int .i64 1, .int .u32 3221225985, .int .i64 1000, .int .i64 1039, .int .i64 2, .int .i64 4]) ∧ Below W.heap.size W w' := fun W => To_any (cfL 39) W
  have kN : ∀ W, Calls Tryz.prog 20 #[.agg #[.int .i64 1, .int .u32 3221225985, .int .i64 1000, .int .i64 1039, .int .i64 2, .int .i64 4]] W (NewR W (cfL 39)) := fun W => New_ok (cfL 39) W hc
  obtain ⟨k1, hk1, hkk1⟩ := tm2 wt1
  obtain ⟨m1, hmn1, hm11, hm21⟩ := minc 20 (by omega) len1
  obtain ⟨a1, ha1, hab1⟩ := modn wo1 3 (by omega)
  obtain ⟨c1, hc1, hcb1⟩ := modn ((IntKind.u64.wrap wo1).tdiv 3) 3 (by omega)
  obtain ⟨p1, hp1, hpb1⟩ := modn po1 5 (by omega)
  have kF1 := fun w' (h : Below w.heap.size w w') => Frame15_k (wt1.tmod 2) wo1 po1 2 be1 1 A1 len1 cap1 l1 a1 c1 p1 m1 k1 w' ((hr1.below h).more h.size) hlc1 hcm1 hmn1 hm11 hkk1 (by omega) ha1 hab1 hc1 hcb1 hp1 hpb1
  unfold Gives at kF1
  have h81 : Bytes8 ((l1.take m1).take 40) := fun x hx => inr_u8 (hr1.rng x (List.mem_of_mem_take (List.mem_of_mem_take hx)))
  have hn1 : ((l1.take m1).take 40).length ≤ 40 := by rw [List.length_take]; omega
  have hfb1 : 28 ≤ (frameL k1 (167772161 + (a1 : Int)) (134744065 + (c1 : Int)) (5 + (p1 : Int)) 53 2 ((l1.take m1).take 40)).length ∧ (frameL k1 (167772161 + (a1 : Int)) (134744065 + (c1 : Int)) (5 + (p1 : Int)) 53 2 ((l1.take m1).take 40)).length ≤ 130 := frame_bd hn1
  have hwh1 := frame_who (k := k1) (s := 167772161 + (a1 : Int)) (d := 134744065 + (c1 : Int)) (a := 5 + (p1 : Int)) (b := 53) (f := 2) (l := (l1.take m1).take 40) (by omega) (by omega) (by omega) (by omega) h81 hn1 (by omega) 3221225985
  have hag1 := fun (g8 : Bytes8 (frameL k1 (167772161 + (a1 : Int)) (134744065 + (c1 : Int)) (5 + (p1 : Int)) 53 2 ((l1.take m1).take 40))) (y : Int) (hy : 0 ≤ y ∧ y ≤ 65535) => part_src (frame_again (k := k1) (s := 167772161 + (a1 : Int)) (d := 134744065 + (c1 : Int)) (a := 5 + (p1 : Int)) (b := 53) (f := 2) (l := (l1.take m1).take 40) (by omega) (by omega) (by omega) (by omega) h81 hn1 (by omega) true (ou := 3221225985) (po := y) g8 (by omega) hy) gotP_err
  have hal1 := fun (g8 : Bytes8 (frameL k1 (167772161 + (a1 : Int)) (134744065 + (c1 : Int)) (5 + (p1 : Int)) 53 2 ((l1.take m1).take 40))) (y : Int) (hy : 0 ≤ y ∧ y ≤ 65535) => (frame_again (k := k1) (s := 167772161 + (a1 : Int)) (d := 134744065 + (c1 : Int)) (a := 5 + (p1 : Int)) (b := 53) (f := 2) (l := (l1.take m1).take 40) (by omega) (by omega) (by omega) (by omega) h81 hn1 (by omega) true (ou := 3221225985) (po := y) g8 (by omega) hy).len
  obtain ⟨k2, hk2, hkk2⟩ := tm2 wt2
  obtain ⟨m2, hmn2, hm12, hm22⟩ := minc 20 (by omega) len2
  obtain ⟨a2, ha2, hab2⟩ := modn wo2 3 (by omega)
  obtain ⟨c2, hc2, hcb2⟩ := modn ((IntKind.u64.wrap wo2).tdiv 3) 3 (by omega)
  obtain ⟨p2, hp2, hpb2⟩ := modn po2 5 (by omega)
  have kF2 := fun w' (h : Below w.heap.size w w') => Frame15_k (wt2.tmod 2) wo2 po2 2 be2 2 A2 len2 cap2 l2 a2 c2 p2 m2 k2 w' ((hr2.below h).more h.size) hlc2 hcm2 hmn2 hm12 hkk2 (by omega) ha2 hab2 hc2 hcb2 hp2 hpb2
  unfold Gives at kF2
  have h82 : Bytes8 ((l2.take m2).take 40) := fun x hx => inr_u8 (hr2.rng x (List.mem_of_mem_take (List.mem_of_mem_take hx)))
  have hn2 : ((l2.take m2).take 40).length ≤ 40 := by rw [List.length_take]; omega
  have hfb2 : 28 ≤ (frameL k2 (167772161 + (a2 : Int)) (134744065 + (c2 : Int)) (5 + (p2 : Int)) 53 2 ((l2.take m2).take 40)).length ∧ (frameL k2 (167772161 + (a2 : Int)) (134744065 + (c2 : Int)) (5 + (p2 : Int)) 53 2 ((l2.take m2).take 40)).length ≤ 130 := frame_bd hn2
  have hwh2 := frame_who (k := k2) (s := 167772161 + (a2 : Int)) (d := 134744065 + (c2 : Int)) (a := 5 + (p2 : Int)) (b := 53) (f := 2) (l := (l2.take m2).take 40) (by omega) (by omega) (by omega) (by omega) h82 hn2 (by omega) 3221225985
  have hag2 := fun (g8 : Bytes8 (frameL k2 (167772161 + (a2 : Int)) (134744065 + (c2 : Int)) (5 + (p2 : Int)) 53 2 ((l2.take m2).take 40))) (y : Int) (hy : 0 ≤ y ∧ y ≤ 65535) => part_src (frame_again (k := k2) (s := 167772161 + (a2 : Int)) (d := 134744065 + (c2 : Int)) (a := 5 + (p2 : Int)) (b := 53) (f := 2) (l := (l2.take m2).take 40) (by omega) (by omega) (by omega) (by omega) h82 hn2 (by omega) true (ou := 3221225985) (po := y) g8 (by omega) hy) gotP_err
  have hal2 := fun (g8 : Bytes8 (frameL k2 (167772161 + (a2 : Int)) (134744065 + (c2 : Int)) (5 + (p2 : Int)) 53 2 ((l2.take m2).take 40))) (y : Int) (hy : 0 ≤ y ∧ y ≤ 65535) => (frame_again (k := k2) (s := 167772161 + (a2 : Int)) (d := 134744065 + (c2 : Int)) (a := 5 + (p2 : Int)) (b := 53) (f := 2) (l := (l2.take m2).take 40) (by omega) (by omega) (by omega) (by omega) h82 hn2 (by omega) true (ou := 3221225985) (po := y) g8 (by omega) hy).len
  have hR1 := step_new (k := k1) (s := 167772161 + (a1 : Int)) (d := 134744065 + (c1 : Int)) (a := 5 + (p1 : Int)) (b := 53) (f := 2) (l := (l1.take m1).take 40) (by omega) (by omega) (by omega) (by omega) h81 hn1 (by omega) (cfL 39) [] 1 1003 (fun _ => rfl) (by omega) (by omega) rfl (place39 (by omega) (by omega)) rfl
  rw [putB_nil, show (cfL 39).ou = 3221225985 from rfl] at hR1
  obtain ⟨L2, y, x, hR2, hy, hx, hxm, hxk⟩ := bk_two (k1 := k1) (s1 := 167772161 + (a1 : Int)) (a1 := 5 + (p1 : Int)) (k2 := k2) (s2 := 167772161 + (a2 : Int)) (d2 := 134744065 + (c2 : Int)) (a2 := 5 + (p2 : Int)) (b2 := 53) (l2 := (l2.take m2).take 40) (by omega) (by omega) (by omega) (by omega) h82 hn2 (by omega) (by omega)
  have hyb : 0 ≤ y ∧ y ≤ 65535 := by omega
  have h8T : Bytes8 (l1.take 40) := fun x hx => inr_u8 (hr1.rng x (List.mem_of_mem_take hx))
  have hnT : (l1.take 40).length ≤ 40 := by rw [List.length_take]; omega
  have hd3 := gotP_dst2 (a := 9) (b := 1003) (f := 16) hk1
  have hR3 := fun (hi : LInv (cfL 39) L2) => step_back (k := k1) (s := far) (d := 3221225985) (a := 9) (b := 1003) (f := 16) (l := l1.take 40) hfar (by omega) (by omega) (by omega) h8T hnT (by omega) (cfL 39) L2 x 3 0 rfl (by omega) (by rw [hd3, ← hxk]; exact atB_of hi hxm)
  rw [hx] at hR3
  have hT := fun w' (h : Below w.heap.size w w') => Frame_any (wt1.tmod 2) far 3221225985 9 1003 16 l1 A1 len1 cap1 k1 w' ((hr1.below h).more h.size) hlc1 hcm1 hfar (by omega) (by omega) (by omega) hkk1 (by omega)
  unfold Gives at hT
  have hTb : 28 ≤ (frameL k1 far 3221225985 9 1003 16 (l1.take 40)).length ∧ (frameL k1 far 3221225985 9 1003 16 (l1.take 40)).length ≤ 130 := frame_bd hnT
  have hZ := fun g8 => frame_again (k := k1) (s := far) (d := 3221225985) (a := 9) (b := 1003) (f := 16) (l := l1.take 40) hfar (by omega) (by omega) (by omega) h8T hnT (by omega) false (ou := 167772161 + (a1 : Int)) (po := 5 + (p1 : Int)) g8 (by omega) (by omega)
  have hZp := fun g8 => part_back hk1 (hZ g8)
  have hZg := fun g8 => (hZ g8).getE
  have hZh := fun g8 => (hZ g8).hd
  have hZl := fun g8 => (hZ g8).len
  have hL1 := fun g8 => hal1 g8 1003 (by omega)
  have hL2 := fun g8 => hal2 g8 y hyb
  have hX1 := fun g8 => hag1 g8 1003 (by omega)
  have hX2 := fun g8 => hag2 g8 y hyb
  clear hZ hag1 hag2 hal1 hal2 hx hxm hxk hd3 h8T hnT h81 h82 hn1 hn2 hk1 hk2 hm11 hm12 hmn1 hmn2 hm21 hm22 ha1 ha2 hc1 hc2 hp1 hp2
  generalize frameL k1 (167772161 + (a1 : Int)) (134744065 + (c1 : Int)) (5 + (p1 : Int)) 53 2 ((l1.take m1).take 40) = F1 at *
  generalize frameL k2 (167772161 + (a2 : Int)) (134744065 + (c2 : Int)) (5 + (p2 : Int)) 53 2 ((l2.take m2).take 40) = F2 at *
  generalize frameL k1 far 3221225985 9 1003 16 (l1.take 40) = T at *
  generalize rwL F1 true 3221225985 1003 = X1 at *
  generalize rwL F2 true 3221225985 y = X2 at *
  generalize rwL T false (167772161 + (a1 : Int)) (5 + (p1 : Int)) = Z at *
  generalize 167772161 + (a1 : Int) = au at *
  generalize 167772161 + (a2 : Int) = av at *
  generalize 5 + (p1 : Int) = qu at *
  generalize 5 + (p2 : Int) = qv at *
  generalize carP k1 = pu at *
  generalize carP k2 = pv at *
  obtain ⟨n1, hn1⟩ : ∃ n, F1.length = n := ⟨_, rfl⟩
  obtain ⟨n2, hn2⟩ : ∃ n, F2.length = n := ⟨_, rfl⟩
  obtain ⟨n3, hn3⟩ : ∃ n, T.length = n := ⟨_, rfl⟩
  rw [hn1] at hfb1
  rw [hn2] at hfb2
  rw [hn3] at hTb
  rw [hn3] at hZl hZh
  rw [hn1] at hL1
  rw [hn2] at hL2
  obtain ⟨wa, hwa⟩ : ∃ x, wt1.tmod 2 = x := ⟨_, rfl⟩
  obtain ⟨wb, hwb⟩ : ∃ x, wt2.tmod 2 = x := ⟨_, rfl⟩
  rw [hwa] at kF1 hT
  rw [hwb] at kF2
  generalize (⟨⟨pu, au, qu⟩, 1003, 0, 1⟩ : Bd) = B1 at *
  clear hkk1 hkk2 hab1 hab2 hcb1 hcb2 hpb1 hpb2
  replace hc := Lib.hid hc
  replace hou := Lib.hid hou
  replace kT := Lib.hid kT
  replace kN := Lib.hid kN
  replace kF1 := Lib.hid kF1
  replace kF2 := Lib.hid kF2
  replace hT := Lib.hid hT
  replace hwh1 := Lib.hid hwh1
  replace hwh2 := Lib.hid hwh2
  replace hR1 := Lib.hid hR1
  replace hR2 := Lib.hid hR2
  replace hR3 := Lib.hid hR3
  replace hZp := Lib.hid hZp
  replace hZg := Lib.hid hZg
  replace hZh := Lib.hid hZh
  replace hZl := Lib.hid hZl
  replace hX1 := Lib.hid hX1
  replace hX2 := Lib.hid hX2
  replace hL1 := Lib.hid hL1
  replace hL2 := Lib.hid hL2
  replace hn1 := Lib.hid hn1
  replace hn2 := Lib.hid hn2
  replace hr1 := Lib.hid hr1
  replace hr2 := Lib.hid hr2
  replace hn3 := Lib.hid hn3
  replace hy := Lib.hid hy
  go_enter Tryz.func5, Tryz.ntmps5
  go_upto_region 1 with fail
  have ba := (Blk.new w 24 #[.bool out1, .int .i64 wt1, .int .i64 wo1, .int .i64 po1, .int .i64 f1, .slice A1 len1 cap1, .int .i64 be1, .int .u8 by1, .int .i64 ti1]).alloc (.cells #[.bool out2, .int .i64 wt2, .int .i64 wo2, .int .i64 po2, .int .i64 f2, .slice A2 len2 cap2, .int .i64 be2, .int .u8 by2, .int .i64 ti2] 24)
  have bb := Blk.new (w.alloc (.cells #[.bool out1, .int .i64 wt1, .int .i64 wo1, .int .i64 po1, .int .i64 f1, .slice A1 len1 cap1, .int .i64 be1, .int .u8 by1, .int .i64 ti1] 24)) 24 #[.bool out2, .int .i64 wt2, .int .i64 wo2, .int .i64 po2, .int .i64 f2, .slice A2 len2 cap2, .int .i64 be2, .int .u8 by2, .int .i64 ti2]
  rw [show (w.alloc (.cells #[.bool out1, .int .i64 wt1, .int .i64 wo1, .int .i64 po1, .int .i64 f1, .slice A1 len1 cap1, .int .i64 be1, .int .u8 by1, .int .i64 ti1] 24)).heap.size = w.heap.size + 1 by simp] at bb
  have bel : Below w.heap.size w ((w.alloc (.cells #[.bool out1, .int .i64 wt1, .int .i64 wo1, .int .i64 po1, .int .i64 f1, .slice A1 len1 cap1, .int .i64 be1, .int .u8 by1, .int .i64 ti1] 24)).alloc (.cells #[.bool out2, .int .i64 wt2, .int .i64 wo2, .int .i64 po2, .int .i64 f2, .slice A2 len2 cap2, .int .i64 be2, .int .u8 by2, .int .i64 ti2] 24)) := (bel_alloc _ _).alloc (by simp) _
  generalize (w.alloc (.cells #[.bool out1, .int .i64 wt1, .int .i64 wo1, .int .i64 po1, .int .i64 f1, .slice A1 len1 cap1, .int .i64 be1, .int .u8 by1, .int .i64 ti1] 24)).alloc (.cells #[.bool out2, .int .i64 wt2, .int .i64 wo2, .int .i64 po2, .int .i64 f2, .slice A2 len2 cap2, .int .i64 be2, .int .u8 by2, .int .i64 ti2] 24) = W at *
  go_wp2_with fail
  refine (Config39 _).mono ?_
  rintro e w1 ⟨rfl, hb⟩
  replace ba := ba.bel hb
  replace bb := bb.bel hb
  replace bel := bel_after bel hb
  clear hb
  have bc := (Blk.new w1 27 #[.int .i64 0, .int .u32 0, .int .i64 0, .int .i64 0, .int .i64 0, .int .i64 0]).setRow #[.int .i64 1, .int .u32 3221225985, .int .i64 1000, .int .i64 1039, .int .i64 2, .int .i64 4]
  have hbK : Below w1.heap.size w1 ((w1.alloc (.cells #[.int .i64 0, .int .u32 0, .int .i64 0, .int .i64 0, .int .i64 0, .int .i64 0] 27)).setRow w1.heap.size #[.int .i64 1, .int .u32 3221225985, .int .i64 1000, .int .i64 1039, .int .i64 2, .int .i64 4]) := below_setRow (bel_alloc _ _) (Nat.le_refl _) _
  go_upto_region 2 with (refine wpList_stRow rfl rfl rfl rfl rfl (Blk.new w1 _ _) c14_size rfl (by simp [Value.oneCell']) ?_; generalize (w1.alloc (.cells #[.int .i64 0, .int .u32 0, .int .i64 0, .int .i64 0, .int .i64 0, .int .i64 0] 27)).setRow w1.heap.size #[.int .i64 1, .int .u32 3221225985, .int .i64 1000, .int .i64 1039, .int .i64 2, .int .i64 4] = W1 at *)
  replace ba := ba.bel hbK
  replace bb := bb.bel hbK
  replace bel := bel_after bel hbK
  clear hbK
  generalize w1.heap.size = gc at *
  go_wp2_with (refine wpList_ldRow rfl rfl rfl bc Tryz.underlying27 c14_size ?_)
  refine (kT.out _).mono ?_
  rintro e w2 ⟨rfl, hb⟩
  replace ba := ba.bel hb
  replace bb := bb.bel hb
  replace bc := bc.bel hb
  replace bel := bel_after bel hb
  clear hb
  go_wp2_with fail
  refine (kN.out _).mono ?_
  intro e w3 hN
  have hb := hN.choose_spec.choose_spec.choose_spec.2.2.1
  replace ba := ba.bel hb
  replace bb := bb.bel hb
  replace bc := bc.bel hb
  obtain ⟨gn, pb, fm, rfl, ln⟩ := LN.made bel hN
  clear hN bel kN hb
  have ne : w.heap.size ≠ w.heap.size + 1 := by omega
  have ne2 : w.heap.size + 1 ≠ w.heap.size := by omega
  have p0 := ba.frozen 0
  have p4 := ba.frozen 4
  have p7 := ba.frozen 7
  have p8 := ba.frozen 8
  have q0 := bb.frozen 0
  have q4 := bb.frozen 4
  have q7 := bb.frozen 7
  have q8 := bb.frozen 8
  have c0 := ba.cell 0
  have c4 := ba.cell 4
  have c7 := ba.cell 7
  have c8 := ba.cell 8
  have e0 := bb.cell 0
  have e4 := bb.cell 4
  have e7 := bb.cell 7
  have e8 := bb.cell 8
  go_upto_region 4 with fail
  have ba3 := ba
  have bb3 := bb
  clear p0 p4 p7 p8 q0 q4 q7 q8 c0 c4 c7 c8 e0 e4 e7 e8
  replace ba := (((((((ba.set_ 0 (.bool true)).far (p := ⟨w.heap.size + 1, 0, none⟩) ne (.bool true)).set_ 7 (.int .u8 0)).far (p := ⟨w.heap.size + 1, 7, none⟩) ne (.int .u8 0)).set_ 4 (.int .i64 2)).far (p := ⟨w.heap.size + 1, 4, none⟩) ne (.int .i64 2)).set_ 8 (.int .i64 1)).far (p := ⟨w.heap.size + 1, 8, none⟩) ne (.int .i64 2)
  replace bb := (((((((bb.far (p := ⟨w.heap.size, 0, none⟩) ne2 (.bool true)).set_ 0 (.bool true)).far (p := ⟨w.heap.size, 7, none⟩) ne2 (.int .u8 0)).set_ 7 (.int .u8 0)).far (p := ⟨w.heap.size, 4, none⟩) ne2 (.int .i64 2)).set_ 4 (.int .i64 2)).far (p := ⟨w.heap.size, 8, none⟩) ne2 (.int .i64 1)).set_ 8 (.int .i64 2)
  have hu : Upd (fun k => k = w.heap.size ∨ k = w.heap.size + 1) w3 ((((((((w3.setCell ⟨w.heap.size, 0, none⟩ (.bool true)).setCell ⟨w.heap.size + 1, 0, none⟩ (.bool true)).setCell ⟨w.heap.size, 7, none⟩ (.int .u8 0)).setCell ⟨w.heap.size + 1, 7, none⟩ (.int .u8 0)).setCell ⟨w.heap.size, 4, none⟩ (.int .i64 2)).setCell ⟨w.heap.size + 1, 4, none⟩ (.int .i64 2)).setCell ⟨w.heap.size, 8, none⟩ (.int .i64 1)).setCell ⟨w.heap.size + 1, 8, none⟩ (.int .i64 2)) :=
    (((((((((Upd.refl _ w3).setCell (fun _ => .inl rfl) _).setCell (fun _ => .inr rfl) _).setCell (fun _ => .inl rfl) _).setCell (fun _ => .inr rfl) _).setCell (fun _ => .inl rfl) _).setCell (fun _ => .inr rfl) _).setCell (fun _ => .inl rfl) _).setCell (fun _ => .inr rfl) _)
  generalize (((((((w3.setCell ⟨w.heap.size, 0, none⟩ (.bool true)).setCell ⟨w.heap.size + 1, 0, none⟩ (.bool true)).setCell ⟨w.heap.size, 7, none⟩ (.int .u8 0)).setCell ⟨w.heap.size + 1, 7, none⟩ (.int .u8 0)).setCell ⟨w.heap.size, 4, none⟩ (.int .i64 2)).setCell ⟨w.heap.size + 1, 4, none⟩ (.int .i64 2)).setCell ⟨w.heap.size, 8, none⟩ (.int .i64 1)).setCell ⟨w.heap.size + 1, 8, none⟩ (.int .i64 2) = W4 at *
  have p1 := ba.cell 1
  have q1 := bb.cell 1
  have f1 := ba.frozen 1
  have g1 := bb.frozen 1
  have hwa' := hwa
  have hwb' := hwb
  go_region
  clear p1 q1 f1 g1 hwa' hwb'
  replace ba := ((ba.set_ 1 (.int .i64 wa)).far (p := ⟨w.heap.size + 1, 1, none⟩) ne (.int .i64 wb)).drew
  replace bb := ((bb.far (p := ⟨w.heap.size, 1, none⟩) ne2 (.int .i64 wa)).set_ 1 (.int .i64 wb)).drew
  replace hu := (((hu.setCell (p := ⟨w.heap.size, 1, none⟩) (fun _ => .inl rfl) (.int .i64 wa)).setCell (p := ⟨w.heap.size + 1, 1, none⟩) (fun _ => .inr rfl) (.int .i64 wb))).drew
  generalize ((W4.setCell ⟨w.heap.size, 1, none⟩ (.int .i64 wa)).setCell ⟨w.heap.size + 1, 1, none⟩ (.int .i64 wb)).drew = W5 at *
  replace ba : Blk W5 w.heap.size 24 #[.bool true, .int .i64 wa, .int .i64 wo1, .int .i64 po1, .int .i64 2, .slice A1 len1 cap1, .int .i64 be1, .int .u8 0, .int .i64 1] := ba
  replace bb : Blk W5 (w.heap.size + 1) 24 #[.bool true, .int .i64 wb, .int .i64 wo2, .int .i64 po2, .int .i64 2, .slice A2 len2 cap2, .int .i64 be2, .int .u8 0, .int .i64 2] := bb
  have bc5 := bc.upd hu (fun e => by
    rcases e with e | e
    · exact bc.ne_ ba3 (by decide) e
    · exact bc.ne_ bb3 (by decide) e)
  have ln5 := ln.updB hu (fun k e => by rcases e with e | e <;> omega) (fun e => by
    rcases e with e | e
    · exact ln.nm.obj.ne_ ba3 (by decide) e
    · exact ln.nm.obj.ne_ bb3 (by decide) e) (fun e => by
    rcases e with e | e
    · exact ln.nm.pl.notBlk ba3 e.symm
    · exact ln.nm.pl.notBlk bb3 e.symm) (fun e => by
    rcases e with e | e
    · exact ln.nm.fl.notBlk ba3 e.symm
    · exact ln.nm.fl.notBlk bb3 e.symm)
  have ev : Ev w W5 (cfL 39) gn pb fm 0 0 [] [(w.heap.size, 24, #[.bool true, .int .i64 wa, .int .i64 wo1, .int .i64 po1, .int .i64 2, .slice A1 len1 cap1, .int .i64 be1, .int .u8 0, .int .i64 1]), (w.heap.size + 1, 24, #[.bool true, .int .i64 wb, .int .i64 wo2, .int .i64 po2, .int .i64 2, .slice A2 len2 cap2, .int .i64 be2, .int .u8 0, .int .i64 2]), (gc, 27, #[.int .i64 1, .int .u32 3221225985, .int .i64 1000, .int .i64 1039, .int .i64 2, .int .i64 4])] [] :=
    ⟨ln5, fun x hx => by
      rcases List.mem_cons.1 hx with rfl | hx
      · exact ba
      rcases List.mem_cons.1 hx with rfl | hx
      · exact bb
      rcases List.mem_cons.1 hx with rfl | hx
      · exact bc5
      · exact (List.not_mem_nil hx).elim, fun x hx => (List.not_mem_nil hx).elim⟩
  clear ba3 bb3 ba bb bc bc5 ln ln5 hu hwa hwb ne ne2
  go_wp2_with fail
  refine (binds_any _).mono ?_
  rintro e w5 ⟨rfl, hb⟩
  replace ev := ev.bel hb
  clear hb
  go_upto_region 7 with fail
  have za : ∀ w', (∃ t : Tw (Up w5), w' = t.w) → Blk w' w.heap.size 24 #[.bool true, .int .i64 wa, .int .i64 wo1, .int .i64 po1, .int .i64 2, .slice A1 len1 cap1, .int .i64 be1, .int .u8 0, .int .i64 1] := fun w' ⟨t, ht⟩ => ht ▸ (ev.bel t.h).blk 0 rfl
  have zb : ∀ w', (∃ t : Tw (Up w5), w' = t.w) → Blk w' (w.heap.size + 1) 24 #[.bool true, .int .i64 wb, .int .i64 wo2, .int .i64 po2, .int .i64 2, .slice A2 len2 cap2, .int .i64 be2, .int .u8 0, .int .i64 2] := fun w' ⟨t, ht⟩ => ht ▸ (ev.bel t.h).blk 1 rfl
  have zz := Up.one w5
  refine wp_region_plan (Up w5) [(0, true), (2, true), (1, false), (3, false), (4, true), (5, true)] (by kernel_rfl) (by kernel_rfl) (by kernel_rfl) (by kernel_rfl) (Below.refl _ _).drew ?_
  have hup : Below w5.heap.size w5 w5.drew := (Below.refl _ _).drew
  replace ev := ev.drew
  generalize w5.drew = w6 at *
  refine wpPl_qs 2 _ _ _ (by kernel_rfl) (by kernel_rfl) (by simp) ?_
  unfold clsS
  simp only [List.take_succ_cons, List.take_zero, List.drop_succ_cons, List.drop_zero, List.filterMap_cons, List.filterMap_nil, List.getElem?_toArray, List.getElem?_cons_zero, List.getElem?_cons_succ]
  repeat (first
    | go_big_quiet_skip
    | (go_big_quiet_want; first | (refine quiet_ldRow rfl rfl za Tryz.underlying24 s15_size ?_; go_simp; go_big_quiet_on) | (refine quiet_ldRow rfl rfl zb Tryz.underlying24 s15_size ?_; go_simp; go_big_quiet_on) | (go_big_quiet_op; go_big_quiet_on))
    | (refine id (?_ : wpQuiet _ _ _ _ (_ :: _) _); first | go_big_quiet_skip | (go_big_quiet_want; first | (refine quiet_ldRow rfl rfl za Tryz.underlying24 s15_size ?_; go_simp; go_big_quiet_on) | (refine quiet_ldRow rfl rfl zb Tryz.underlying24 s15_size ?_; go_simp; go_big_quiet_on) | (go_big_quiet_op; go_big_quiet_on))))
  refine wpQuiet_nil ?_
  refine wpPl_e _ (by rfl) (by kernel_rfl) (fun K hK => ?_)
  go_simp
  refine (kF1.out _ ev.ln.bel).mono ?_
  rintro e w7 ⟨v7, rfl, own7, hb⟩
  obtain ⟨FA, fa, rfl, hfa1, hfa2, _⟩ := own7.form hn1.out
  unfold maxLen at hfa2
  replace ev := ev.row hb own7
  replace hup := bel_after hup hb
  refine hK _ _ hup ?_
  clear hK K hb own7 kF1
  refine wpPl_e _ (by rfl) (by kernel_rfl) (fun K hK => ?_)
  go_simp
  refine (kF2.out _ ev.ln.bel).mono ?_
  rintro e w8 ⟨v8, rfl, own8, hb⟩
  obtain ⟨FB, fb, rfl, hfb1', hfb2', _⟩ := own8.form hn2.out
  unfold maxLen at hfb2'
  replace ev := ev.row hb own8
  replace hup := bel_after hup hb
  refine hK _ _ hup ?_
  clear hK K hb own8 kF2
  refine wpPl_qs 2 _ _ _ (by kernel_rfl) (by kernel_rfl) (by simp) ?_
  unfold clsS
  simp only [List.take_succ_cons, List.take_zero, List.drop_succ_cons, List.drop_zero, List.filterMap_cons, List.filterMap_nil, List.getElem?_toArray, List.getElem?_cons_zero, List.getElem?_cons_succ]
  repeat (first
    | go_big_quiet_skip
    | (go_big_quiet_want; go_big_quiet_op; go_big_quiet_on)
    | (refine id (?_ : wpQuiet _ _ _ _ (_ :: _) _); first | go_big_quiet_skip | (go_big_quiet_want; go_big_quiet_op; go_big_quiet_on)))
  refine wpQuiet_nil ?_
  clear za zb zz hup
  unfold wpPl
  refine NoPanic.normal ?_
  have hX1' := hX1.out (ev.b8 1 rfl)
  have hXn : X1.length = n1 := by have : (X1.length : Int) = (n1 : Int) := hL1.out (ev.b8 1 rfl); omega
  have hYn : X2.length = n2 := by have : (X2.length : Int) = (n2 : Int) := hL2.out (ev.b8 0 rfl); omega
  have hX2' := hX2.out (ev.b8 0 rfl)
  clear hX1 hX2
  have kS := ev.stp hc.out hou.out (by omega) (by omega) true FA n1 fa 1 1003 F1 (ev.rd 1 rfl hn1.out) hfa1 (by omega) (by omega) hR1.out
  replace kS := Lib.hid kS
  go_wp2_with fail
  refine kS.out.mono ?_
  rintro e w9 ⟨XA, nx, xc, np, nf, rfl, hxn, hxc1, hxc2, ev9, hnp, hnf, hsz⟩
  have hxb : nx ≤ 130 := by have : X1.length = nx := hxn; omega
  clear kS hsz ev
  have ev := ev9.new 55 #[.slice none 0 0, .int .i64 0] #[.slice XA nx xc, .int .i64 0]
  go_upto_region 9 with (refine wpList_stRow rfl rfl rfl rfl rfl (Blk.new w9 _ _) an_size rfl (by simp [Value.oneCell']) ?_; generalize (w9.alloc (.cells #[.slice none 0 0, .int .i64 0] 55)).setRow w9.heap.size #[.slice XA nx xc, .int .i64 0] = w10 at *)
  clear ev9
  generalize w9.heap.size = gx at *
  have kS := ev.stp hc.out hou.out (by omega) (by omega) true FB n2 fb 2 1005 F2 (ev.rd 1 rfl hn2.out) hfb1' (by omega) (by omega) hR2.out
  replace kS := Lib.hid kS
  go_wp2_with fail
  refine kS.out.mono ?_
  rintro e w11 ⟨YA, ny, yc, np2, nf2, rfl, hyn, hyc1, hyc2, ev11, hnp2, hnf2, hsz⟩
  have hyb' : ny ≤ 130 := by have : X2.length = ny := hyn; omega
  clear kS hsz ev
  have ev := ev11.new 55 #[.slice none 0 0, .int .i64 0] #[.slice YA ny yc, .int .i64 0]
  go_upto_region 10 with (refine wpList_stRow rfl rfl rfl rfl rfl (Blk.new w11 _ _) an_size rfl (by simp [Value.oneCell']) ?_; generalize (w11.alloc (.cells #[.slice none 0 0, .int .i64 0] 55)).setRow w11.heap.size #[.slice YA ny yc, .int .i64 0] = w12 at *)
  clear ev11
  generalize w11.heap.size = gy at *
  have kw := fun W (hb : Below w12.heap.size w12 W) => Whose_any 1 3221225985 1000 1039 2 4 true F1 FA n1 fa W ((ev.bel hb).rd 3 rfl hn1.out) hfa1 (by omega) (by omega)
  rw [hwh1.out] at kw
  have kw2 := fun W (hb : Below w12.heap.size w12 W) => Whose_any 1 3221225985 1000 1039 2 4 true F2 FB n2 fb W ((ev.bel hb).rd 2 rfl hn2.out) hfb1' (by omega) (by omega)
  rw [hwh2.out] at kw2
  unfold WhoR at kw kw2
  simp only [Fl.cs] at kw kw2
  have bel := Below.refl w12.heap.size w12
  replace kw := Lib.hid kw
  replace kw2 := Lib.hid kw2
  have hdc := ev.blk 4 rfl
  go_wp2_with (refine wpList_ldRow rfl rfl rfl hdc Tryz.underlying27 c14_size ?_)
  clear hdc
  refine (kT.out _).mono ?_
  rintro e w13 ⟨rfl, hb⟩
  replace ev := ev.bel hb
  replace bel := bel_after bel hb
  clear hb
  go_wp2_with fail
  refine (kw.out _ bel).mono ?_
  rintro e w14 ⟨rfl, hb⟩
  replace ev := (ev.bel hb).new0 32 #[.int .i64 pu, .int .u32 au, .int .u16 qu]
  replace bel := (bel_after bel hb).alloc (bel_after bel hb).size (.cells #[.int .i64 pu, .int .u32 au, .int .u16 qu] 32)
  clear hb kw
  go_upto_region 11 with fail
  generalize w14.alloc (.cells #[.int .i64 pu, .int .u32 au, .int .u16 qu] 32) = w15 at *
  generalize w14.heap.size = gu at *
  have hdc := ev.blk 5 rfl
  go_wp2_with (refine wpList_ldRow rfl rfl rfl hdc Tryz.underlying27 c14_size ?_)
  clear hdc
  refine (kT.out _).mono ?_
  rintro e w16 ⟨rfl, hb⟩
  replace ev := ev.bel hb
  replace bel := bel_after bel hb
  clear hb
  go_wp2_with fail
  refine (kw2.out _ bel).mono ?_
  rintro e w17 ⟨rfl, hb⟩
  replace ev := (ev.bel hb).new0 32 #[.int .i64 pv, .int .u32 av, .int .u16 qv]
  clear hb kw2 bel
  go_upto_region 12 with fail
  generalize w17.alloc (.cells #[.int .i64 pv, .int .u32 av, .int .u16 qv] 32) = w18 at *
  generalize w17.heap.size = gv at *
  obtain ⟨⟨pr, sr, ds, fl, ki, co, er, ⟨i0, i1, i2, i3, i4, i5⟩, pat, bb⟩, hq, hqs, hqe⟩ := hX1'
  subst hqs hqe
  have kP := rPart_any X1 XA nx xc w18 (ev.rd 1 rfl hxn) hxc1 hxc2 (by omega)
  rw [hq] at kP
  unfold PartT at kP
  simp only [Pt.val] at kP
  clear hq
  replace kP := Lib.hid kP
  have z0 := (ev.blk 3 rfl).cell 0
  go_wp2_with fail
  clear z0
  refine kP.out.mono ?_
  rintro e w19 ⟨rfl, hb⟩
  replace ev := (ev.bel hb).new 69 #[.int .i64 0, .int .u16 0, .int .u16 0, .int .i64 0, .int .i64 0, .int .i64 0, .bool false, .int .i64 0, .int .i64 0, .int .i64 0, .int .i64 0, .int .u32 0, .int .u32 0, .int .i64 0, .bool false] #[.int .i64 pr, .int .u16 1003, .int .u16 ds, .int .i64 fl, .int .i64 ki, .int .i64 co, .bool false, .int .i64 i0, .int .i64 i1, .int .i64 i2, .int .i64 i3, .int .u32 i4, .int .u32 i5, .int .i64 pat, .bool bb]
  clear hb kP
  go_upto_region 13 with (refine wpList_stRow rfl rfl rfl rfl rfl (Blk.new w19 _ _) rpt_size rfl (by simp [Value.oneCell']) ?_; generalize (w19.alloc (.cells #[.int .i64 0, .int .u16 0, .int .u16 0, .int .i64 0, .int .i64 0, .int .i64 0, .bool false, .int .i64 0, .int .i64 0, .int .i64 0, .int .i64 0, .int .u32 0, .int .u32 0, .int .i64 0, .bool false] 69)).setRow w19.heap.size #[.int .i64 pr, .int .u16 1003, .int .u16 ds, .int .i64 fl, .int .i64 ki, .int .i64 co, .bool false, .int .i64 i0, .int .i64 i1, .int .i64 i2, .int .i64 i3, .int .u32 i4, .int .u32 i5, .int .i64 pat, .bool bb] = w20 at *)
  generalize w19.heap.size = gp at *
  obtain ⟨⟨pr2, sr2, ds2, fl2, ki2, co2, er2, ⟨j0, j1, j2, j3, j4, j5⟩, pat2, bb2⟩, hq, hqs, hqe⟩ := hX2'
  have hqs' : sr2 = y := hqs
  have hqe' : er2 = false := hqe
  subst hqe'
  rw [hqs'] at hq
  clear hqs hqe hqs' sr2
  have kP := rPart_any X2 YA ny yc w20 (ev.rd 0 rfl hyn) hyc1 hyc2 (by omega)
  rw [hq] at kP
  unfold PartT at kP
  simp only [Pt.val] at kP
  clear hq
  replace kP := Lib.hid kP
  have z0 := (ev.blk 3 rfl).cell 0
  go_wp2_with fail
  clear z0
  refine kP.out.mono ?_
  rintro e w21 ⟨rfl, hb⟩
  replace ev := (ev.bel hb).new 69 #[.int .i64 0, .int .u16 0, .int .u16 0, .int .i64 0, .int .i64 0, .int .i64 0, .bool false, .int .i64 0, .int .i64 0, .int .i64 0, .int .i64 0, .int .u32 0, .int .u32 0, .int .i64 0, .bool false] #[.int .i64 pr2, .int .u16 y, .int .u16 ds2, .int .i64 fl2, .int .i64 ki2, .int .i64 co2, .bool false, .int .i64 j0, .int .i64 j1, .int .i64 j2, .int .i64 j3, .int .u32 j4, .int .u32 j5, .int .i64 pat2, .bool bb2]
  clear hb kP
  go_upto_region 14 with (refine wpList_stRow rfl rfl rfl rfl rfl (Blk.new w21 _ _) rpt_size rfl (by simp [Value.oneCell']) ?_; generalize (w21.alloc (.cells #[.int .i64 0, .int .u16 0, .int .u16 0, .int .i64 0, .int .i64 0, .int .i64 0, .bool false, .int .i64 0, .int .i64 0, .int .i64 0, .int .i64 0, .int .u32 0, .int .u32 0, .int .i64 0, .bool false] 69)).setRow w21.heap.size #[.int .i64 pr2, .int .u16 y, .int .u16 ds2, .int .i64 fl2, .int .i64 ki2, .int .i64 co2, .bool false, .int .i64 j0, .int .i64 j1, .int .i64 j2, .int .i64 j3, .int .u32 j4, .int .u32 j5, .int .i64 pat2, .bool bb2] = w22 at *)
  generalize w21.heap.size = gq at *
  have x1 := (ev.blk 5 rfl).cell 1
  have y1 := (ev.blk 4 rfl).cell 1
  have p1c := (ev.blk 1 rfl).cell 1
  have q1c := (ev.blk 0 rfl).cell 1
  go_cut [137] (fun s137 wx => s137 = .bool false ∧ w22 = wx)
  case first =>
    rcases hy.out with rfl | ⟨rfl, he⟩
    · go_wp2_with fail
      go_meet
      exact ⟨rfl, rfl⟩
    · simp only [Fl.mk.injEq] at he
      obtain ⟨rfl, rfl, rfl⟩ := he
      have u0 := ev.blk 3 rfl
      have v0 := ev.blk 2 rfl
      have u1 := u0.cell 0
      have u2 := u0.cell 1
      have u3 := u0.cell 2
      have v1 := v0.cell 0
      have v2 := v0.cell 1
      have v3 := v0.cell 2
      go_wp2_with fail
      go_meet
      exact ⟨rfl, rfl⟩
  case rest =>
  obtain ⟨rfl, rfl⟩ := hcut
  clear x1 y1 q1c
  have s1 := (ev.blk 6 rfl).cell 1
  have s5 := (ev.blk 6 rfl).cell 5
  have evt := ev.new0 73 #[.int .i64 wa, .int .u32 far, .int .u32 3221225985, .int .u16 9, .int .u16 1003, .int .i64 16, .slice A1 len1 cap1]
  go_upto_region 17 with fail
  clear ev s1 s5 p1c
  generalize w22.alloc (.cells #[.int .i64 wa, .int .u32 far, .int .u32 3221225985, .int .u16 9, .int .u16 1003, .int .i64 16, .slice A1 len1 cap1] 73) = w23 at *
  generalize w22.heap.size = gt at *
  have ev := evt
  clear evt
  have bt := ev.blk 0 rfl
  go_wp2_with (refine wpList_ldRow rfl rfl rfl bt Tryz.underlying73 sn_size ?_)
  refine (hT.out _ ev.ln.bel).mono ?_
  rintro e w24 ⟨v24, rfl, own24, hb⟩
  clear bt
  obtain ⟨TA, tc, rfl, htc1, htc2, _⟩ := own24.form hn3.out
  unfold maxLen at htc2
  replace ev := ev.row hb own24
  clear hb own24
  have g8 := ev.b8 0 rfl
  have hZp' := hZp.out g8
  have hZg' := hZg.out g8
  have hZh' := hZh.out g8
  have hZn : Z.length = n3 := by have : (Z.length : Int) = (n3 : Int) := hZl.out g8; omega
  have kS := ev.stp hc.out hou.out (by omega) (by omega) false TA n3 tc 3 0 T (ev.rd 0 rfl hn3.out) htc1 (by omega) (by omega) (hR3.out ev.ln.nm.inv)
  replace kS := Lib.hid kS
  replace hZp' := Lib.hid hZp'
  replace hZg' := Lib.hid hZg'
  replace hZh' := Lib.hid hZh'
  replace hZn := Lib.hid hZn
  clear hZp hZg hZh hZl hT
  go_wp2_with fail
  refine kS.out.mono ?_
  rintro e w25 ⟨ZA, nz, zc, np3, nf3, rfl, hzn, hzc1, hzc2, ev25, hnp3, hnf3, hsz⟩
  clear kS hsz ev
  have hzb : nz ≤ 130 := by have h1 : Z.length = nz := hzn; have h2 := hZn.out; omega
  have ev := ev25.new 55 #[.slice none 0 0, .int .i64 0] #[.slice ZA nz zc, .int .i64 0]
  go_upto_region 18 with (refine wpList_stRow rfl rfl rfl rfl rfl (Blk.new w25 _ _) an_size rfl (by simp [Value.oneCell']) ?_; generalize (w25.alloc (.cells #[.slice none 0 0, .int .i64 0] 55)).setRow w25.heap.size #[.slice ZA nz zc, .int .i64 0] = w26 at *)
  clear ev25
  generalize w25.heap.size = gz at *
  have kG := rGet_any Z false ZA nz zc _ w26 (ev.rd 0 rfl hzn) (Nat.le_refl _) hzc1 hzc2 (by omega)
  have hh : hdIf Z 0 = ⟨20, (n3 : Int), 64, pu, far, au⟩ := hZh'.out
  rw [show getP Z false = getE Z from rfl, hZg'.out, hh] at kG
  simp only [Hd.val] at kG
  clear hh
  replace kG := Lib.hid kG
  have z0 := (ev.blk 0 rfl).cell 0
  go_wp2_with fail
  refine kG.out.mono ?_
  rintro e w27 ⟨rfl, hb⟩
  replace ev := (ev.bel hb).new 67 #[.int .i64 0, .int .i64 0, .int .i64 0, .int .i64 0, .int .u32 0, .int .u32 0] #[.int .i64 20, .int .i64 (n3 : Int), .int .i64 64, .int .i64 pu, .int .u32 far, .int .u32 au]
  clear hb kG z0
  go_upto_region 19 with (refine wpList_stRow rfl rfl rfl rfl rfl (Blk.new w27 _ _) rhd_size rfl (by simp [Value.oneCell']) ?_; generalize (w27.alloc (.cells #[.int .i64 0, .int .i64 0, .int .i64 0, .int .i64 0, .int .u32 0, .int .u32 0] 67)).setRow w27.heap.size #[.int .i64 20, .int .i64 (n3 : Int), .int .i64 64, .int .i64 pu, .int .u32 far, .int .u32 au] = w28 at *)
  generalize w27.heap.size = gh at *
  obtain ⟨⟨pr3, sr3, ds3, fl3, ki3, co3, er3, ⟨t0, t1, t2, t3, t4, t5⟩, pat3, bb3⟩, hq, hqd, hqs, hqe⟩ := hZp'.out
  have hd' : ds3 = qu := hqd
  have hs' : sr3 = 9 := hqs
  have he' : er3 = false := hqe
  subst hd' hs' he'
  clear hqd hqs hqe hZp'
  have kP := rPart_any Z ZA nz zc w28 (ev.rd 0 rfl hzn) hzc1 hzc2 (by omega)
  rw [hq] at kP
  unfold PartT at kP
  simp only [Pt.val] at kP
  clear hq
  replace kP := Lib.hid kP
  have z0 := (ev.blk 1 rfl).cell 0
  go_wp2_with fail
  clear z0
  refine kP.out.mono ?_
  rintro e w29 ⟨rfl, hb⟩
  replace ev := (ev.bel hb).new 69 #[.int .i64 0, .int .u16 0, .int .u16 0, .int .i64 0, .int .i64 0, .int .i64 0, .bool false, .int .i64 0, .int .i64 0, .int .i64 0, .int .i64 0, .int .u32 0, .int .u32 0, .int .i64 0, .bool false] #[.int .i64 pr3, .int .u16 9, .int .u16 ds3, .int .i64 fl3, .int .i64 ki3, .int .i64 co3, .bool false, .int .i64 t0, .int .i64 t1, .int .i64 t2, .int .i64 t3, .int .u32 t4, .int .u32 t5, .int .i64 pat3, .bool bb3]
  clear hb kP
  go_upto_region 20 with (refine wpList_stRow rfl rfl rfl rfl rfl (Blk.new w29 _ _) rpt_size rfl (by simp [Value.oneCell']) ?_; generalize (w29.alloc (.cells #[.int .i64 0, .int .u16 0, .int .u16 0, .int .i64 0, .int .i64 0, .int .i64 0, .bool false, .int .i64 0, .int .i64 0, .int .i64 0, .int .i64 0, .int .u32 0, .int .u32 0, .int .i64 0, .bool false] 69)).setRow w29.heap.size #[.int .i64 pr3, .int .u16 9, .int .u16 ds3, .int .i64 fl3, .int .i64 ki3, .int .i64 co3, .bool false, .int .i64 t0, .int .i64 t1, .int .i64 t2, .int .i64 t3, .int .u32 t4, .int .u32 t5, .int .i64 pat3, .bool bb3] = w30 at *)
  generalize w29.heap.size = gs at *
  have x1 := (ev.blk 2 rfl).cell 1
  have x2 := (ev.blk 1 rfl).cell 5
  have x3 := (ev.blk 1 rfl).cell 4
  have x4 := (ev.blk 0 rfl).cell 2
  have x5 := (ev.blk 0 rfl).cell 1
  have x6 := (ev.blk 7 rfl).cell 1
  have x7 := (ev.blk 7 rfl).cell 2
  go_wp2_with fail
  go_ret
  exact ⟨rfl, ev.ln.bel⟩
theorem ModelBack_args (W : World) (args : Array Value) (hs : args.size = Tryz.f5.params.size) (hA : ∀ (j : Nat) t v, Tryz.f5.params[j]? = some t → args[j]? = some v → Arg Tryz.prog W t v) :
    Calls Tryz.prog 5 args W fun e W' => e = .returned (.bool true) ∧ Below W.heap.size W W' := by
  obtain ⟨v0, v1, v2, rfl⟩ := args3 hs
  obtain ⟨o1, wt1, wo1, po1, f1, be1, by1, ti1, A1, len1, cap1, l1, rfl, _, h2, h3, h4⟩ := arg_s15 (hA 0 24 v0 rfl rfl)
  obtain ⟨o2, wt2, wo2, po2, f2, be2, by2, ti2, A2, len2, cap2, l2, rfl, _, g2, g3, g4⟩ := arg_s15 (hA 1 24 v1 rfl rfl)
  obtain ⟨far, rfl, hr⟩ := arg_int Tryz.underlying25 (hA 2 25 v2 rfl rfl)
  unfold maxLen at h3 g3
  exact ModelBack_walk o1 o2 wt1 wo1 po1 f1 be1 by1 ti1 wt2 wo2 po2 f2 be2 by2 ti2 far A1 A2 len1 cap1 len2 cap2 l1 l2 W h4 g4 h2 (by omega) g2 (by omega) (inr_u32 hr)

set_option maxRecDepth 100000 in
theorem ModelBack_lifted (os : Os) (started : os.Started) (H : Type) (enc : TypeId × Value → H) :
    ReturnsInHanded {} Tryz.checked os 5 .any (Rows.modelBackSpec.pre6 enc Tryz.prog Tryz.f5 Rows.modelBackRow.domain false) (Rows.modelBackSpec.post enc Tryz.prog Tryz.f5 false true false false) :=
  law_lifted os started H enc (by kernel_rfl) Tryz.func5 rfl rfl (fun H ds h => by match ds, h with | [_, _, _], _ => exact ⟨rfl, rfl, rfl⟩) (by kernel_rfl)
    (ChangeSpec.witness6 (enc := enc) (C := Tryz.checked) false ⟨#[], #[.agg #[.bool false, .int .i64 0, .int .i64 0, .int .i64 0, .int .i64 0, .slice none 0 0, .int .i64 0, .int .u8 0, .int .i64 0], .agg #[.bool false, .int .i64 0, .int .i64 0, .int .i64 0, .int .i64 0, .slice none 0 0, .int .i64 0, .int .u8 0, .int .i64 0], .int .u32 0], []⟩ 8 (by kernel_rfl) (by kernel_rfl) (by kernel_rfl) (by kernel_rfl))
    ModelBack_args

theorem modelBack_holds : Rows.ModelBackSaid :=
  OpenClaim.holds_of_wide 5 Tryz.f5 rfl rfl rfl rfl rfl rfl rfl ⟨rfl, rfl, rfl, rfl, rfl⟩ rfl rfl rfl rfl rfl (by kernel_rfl) Tryz.func5 (by kernel_rfl)
    (of_decide_eq_true (by kernel_rfl)) (by unfold Func.isWrapper; first | (rw [if_pos (by decide +kernel)]; kernel_rfl) | (rw [if_neg (by decide +kernel)]; exact ⟨rfl, rfl⟩))
    (fun os started H enc _ => ModelBack_lifted os started H enc)

end Go.Proofs.YtbckoohljkmahaaGreat
