/- Every input of PartLays answers true, and reads behind the call as it read before. No condition. -/
import Derived.Test.YtfkmallagficfaaPartNests
import Derived.Test.YtfkmallagficfaaPlanS
namespace Go.Proofs.Ytfkmallagficfaa
set_option linter.unusedVariables false
set_option linter.unusedSimpArgs false
open Go.RowKit
set_option maxRecDepth 100000 in
set_option maxHeartbeats 4000000 in
theorem PartLays_walk (wt s d a b f : Int) (l : List Int) (A : Option Addr) (len cap : Nat) (w : World) (hr : Rd .u8 w w.heap.size A len l) (hlc : len ≤ cap) (hcm : cap ≤ maxLen) (hs : 0 ≤ s ∧ s ≤ 4294967295) (hd : 0 ≤ d ∧ d ≤ 4294967295) (ha : 0 ≤ a ∧ a ≤ 65535) (hb : 0 ≤ b ∧ b ≤ 65535) :
    Calls Try.prog 8 #[.agg #[.int .i64 wt, .int .u32 s, .int .u32 d, .int .u16 a, .int .u16 b, .int .i64 f, .slice A len cap]] w fun e w' => e = .returned (.bool true) ∧ Below w.heap.size w w' := by
  unfold maxLen at hcm
  obtain ⟨i0, hi, hz0, hz1, hz2⟩ := info_parts info_u8_
  obtain ⟨m, hmn, hm1, hm2⟩ := minc 1405 (by omega) len
  have hj0 : (0 : Int) ≤ (m : Int) := by omega
  have hj1 : (m : Int) ≤ (cap : Int) := by omega
  have hj2 : m ≤ cap := by omega
  have hrt := hr.take hm1
  obtain ⟨L, hL⟩ : ∃ L, L = l.take m := ⟨_, rfl⟩
  rw [← hL] at hrt
  have hLl := hrt.len
  clear hL
  obtain ⟨k, hk, hk7⟩ := modn wt 7 (by omega)
  have hfr := fun w' (h : Below w.heap.size w w') => Frame_any wt s d a b f l A len cap k w' ((hr.below h).more h.size) hlc hcm hs hd ha hb hk (by omega)
  have hl8 : Bytes8 (l.take 40) := fun x hx => inr_u8 (hr.rng x (List.mem_of_mem_take hx))
  have hlt : (l.take 40).length ≤ 40 := by rw [List.length_take]; omega
  have hbd := frame_bd (k := k) (s := s) (d := d) (a := a) (b := b) (f := f) hlt
  have hgt := frame_get (k := k) (a := a) (b := b) (f := f) hs hd hlt
  have hok := frame_ok (k := k) (f := f) hs hd ha hb hl8 hlt
  obtain ⟨P, hPe⟩ : ∃ P, P = carP k := ⟨_, rfl⟩
  obtain ⟨X, hXe⟩ : ∃ X, X = frameL k s d a b f (l.take 40) := ⟨_, rfl⟩
  obtain ⟨n, hX⟩ : ∃ n, X.length = n := ⟨_, rfl⟩
  rw [← hPe, ← hXe, hX] at hgt hok
  rw [← hXe] at hfr hbd
  rw [hX] at hbd
  obtain ⟨E, ⟨pr, sr, ds, fl, ki, co, er, ⟨i0, i1, i2, i3, i4, i5⟩, pa, ba⟩, hR⟩ : ∃ (E : Int) (p : Pt), getR ⟨20, n, 64, P, s, d⟩ X = (E, p) := ⟨_, _, rfl⟩
  rw [hR] at hok
  simp only at hok
  subst hok
  have hpg := fun W (A : Option Addr) (c1 : Nat) (ho : Rd .u8 W W.heap.size A n X) (h1 : n ≤ c1) (h2 : c1 ≤ 9223372036854775807) => PGet_any ⟨20, n, 64, P, s, d⟩ X A n c1 _ W ho (Nat.le_refl _) h1 h2 (by omega) hs hd
  have hrg := fun W (A : Option Addr) (c1 : Nat) (ho : Rd .u8 W W.heap.size A n X) (h1 : n ≤ c1) (h2 : c1 ≤ 9223372036854775807) => rPGet_any ⟨20, n, 64, P, s, d⟩ X A n c1 _ W ho (Nat.le_refl _) h1 h2 (by omega) hs hd
  have h3 := fun W => PFrom_any ⟨pr, sr, ds, fl, ki, co, er, ⟨i0, i1, i2, i3, i4, i5⟩, pa, ba⟩ W
  rw [hR] at hpg hrg
  simp only [Tells, Pt.val, Hd.val] at hpg hrg h3
  clear hR hXe hPe hk hk7 hl8 hlt
  replace hX := Lib.hid hX
  replace hLl := Lib.hid hLl
  replace hfr := Lib.hid hfr
  replace hpg := Lib.hid hpg
  replace hrg := Lib.hid hrg
  replace h3 := Lib.hid h3
  replace hgt := Lib.hid hgt
  go_enter Try.func8, Try.ntmps8
  go_upto_region 1 with fail
  have bn := Blk.new w 26 #[.int .i64 wt, .int .u32 s, .int .u32 d, .int .u16 a, .int .u16 b, .int .i64 f, .slice A len cap]
  have bel := bel_alloc w (.cells #[.int .i64 wt, .int .u32 s, .int .u32 d, .int .u16 a, .int .u16 b, .int .i64 f, .slice A len cap] 26)
  generalize w.alloc (.cells #[.int .i64 wt, .int .u32 s, .int .u32 d, .int .u16 a, .int .u16 b, .int .i64 f, .slice A len cap] 26) = W at *
  have own0 := Own.new .u8 W 5 w.heap.size bel.size [] (by simp) #[] rfl 0 rfl (by simp)
  have hr2 := ((hrt.below bel).alloc bel.size (.cells #[] 5))
  have bel0 := bel.alloc bel.size (.cells #[] 5)
  have hW := bel.size
  have bn0 := bn.alloc (.cells #[] 5)
  have q6 := bn.cell 6
  have hgh : w.heap.size < W.heap.size := bn.lt
  go_upto_region 2 with (at_builtin; refine wpList_app _ rfl (.tmp 12) (.tmp 19) 24 rfl .u8 w.heap.size 5 _ (.int .u8 0) 1 Try.underlying24 hi hz0 hz1 hz2 rfl (.slice (some ⟨W.heap.size, 0, none⟩) 0 0) rfl [] own0 w.heap.size _ _ _ rfl L hr2 (by simp; omega) (by decide) (by simp; omega) ?_; intro v1 w1 own1 hg1 hv1; rw [List.nil_append] at own1; have bel1 : Below w.heap.size w w1 := bel0.grown hg1 (by simp; omega) (fun k h => by simp [Value.ownBlock] at h; omega); replace bn := bn0.grown hg1 (by simp [Value.ownBlock]; omega); clear hg1 own0 hr2 bel0 bn0 q6)
  clear hi hz0 hz1 hz2 hj0 hj1 hj2 hmn
  replace bel := bel1
  clear bel1
  obtain ⟨Ab, cb, rfl, hb1, hb2, rdb⟩ := own1.form hLl.out
  clear own1
  unfold maxLen at hb2
  have sb := conv_rd (P := Try.prog) rdb 24 5 9 (cap := cb) Try.underlying24 Try.underlying5 Try.underlying9
  obtain ⟨B, hB⟩ : ∃ B, w1.heap.size = B := ⟨_, rfl⟩
  rw [hB] at rdb
  have hBl : B ≤ w1.heap.size := by omega
  clear hB
  obtain ⟨U, hU⟩ : ∃ U, U = udpL s d a b L := ⟨_, rfl⟩
  obtain ⟨T, hT⟩ : ∃ T, T = tcpL s d a b f L := ⟨_, rfl⟩
  obtain ⟨C, hC⟩ : ∃ C, C = echoL (wt.tmod 2 == 0) a L := ⟨_, rfl⟩
  obtain ⟨F, hF⟩ : ∃ F, F = faultL wt f L := ⟨_, rfl⟩
  have pU := fun W (h : Rd .u8 W B Ab m L) (hB : B ≤ W.heap.size) => pUdp_any s d a b L Ab m cb B W h hB hb1 (by omega) hs hd ha hb
  have rU := fun W (h : Rd .u8 W B Ab m L) (hB : B ≤ W.heap.size) => rUdp_any s d a b L Ab m cb B W h hB hb1 (by omega) hs hd ha hb
  have pT := fun W (h : Rd .u8 W B Ab m L) (hB : B ≤ W.heap.size) => pTcp_any s d a b f L Ab m cb B W h hB hb1 (by omega) hs hd ha hb
  have rT := fun W (h : Rd .u8 W B Ab m L) (hB : B ≤ W.heap.size) => rTcp_any s d a b f L Ab m cb B W h hB hb1 (by omega) hs hd ha hb
  have pC := fun W (h : Rd .u8 W B Ab m L) (hB : B ≤ W.heap.size) => pEcho_any (wt.tmod 2 == 0) a L Ab m cb B W h hB hb1 (by omega) ha
  have rC := fun W (h : Rd .u8 W B Ab m L) (hB : B ≤ W.heap.size) => rEcho_any (wt.tmod 2 == 0) a L Ab m cb B W h hB hb1 (by omega) ha
  have pF := fun W (h : Rd .u8 W B Ab m L) (hB : B ≤ W.heap.size) => pFault_any wt f L Ab m cb B W h hB hb1 (by omega)
  have rF := fun W (h : Rd .u8 W B Ab m L) (hB : B ≤ W.heap.size) => rFault_any wt f L Ab m cb B W h hB hb1 (by omega)
  simp only [← hU, ← hT, ← hC, ← hF] at pU rU pT rT pC rC pF rF
  clear hU hT hC hF
  replace pU := Lib.hid pU
  replace rU := Lib.hid rU
  replace pT := Lib.hid pT
  replace rT := Lib.hid rT
  replace pC := Lib.hid pC
  replace rC := Lib.hid rC
  replace pF := Lib.hid pF
  replace rF := Lib.hid rF
  go_upto_region 3 with fail
  clear sb
  replace rdb := rdb.drew
  replace bn := bn.drew
  replace bel := bel.drew
  refine wp_region_planS (Up w1.drew) [(0, true), (1, true), (2, true), (3, true), (4, true), (5, true), (6, true), (7, true), (8, true), (11, true), (12, true), (13, true), (14, true), (15, true), (16, true), (17, true), (18, true), (19, true), (9, false), (10, true), (20, false), (21, true), (22, true), (23, true), (24, true), (25, true), (26, true), (27, true), (28, true), (29, true), (30, true), (31, true), (32, true), (33, true), (34, true), (37, true), (38, true), (39, true), (40, true), (41, true), (42, true), (43, true), (44, true), (45, true), (46, true), (47, true), (35, false), (36, true), (48, false), (49, true), (50, true), (51, true)] (by kernel_rfl) (by kernel_rfl) (by kernel_rfl) (by kernel_rfl) (Up.rfl_ _) ?_
  replace hBl : B ≤ w1.drew.heap.size := hBl
  generalize w1.drew = W1 at *
  have z0 : ∀ t : Tw (Up W1), t.w.cell? ⟨w.heap.size, 0, none⟩ = some (.int .i64 wt) := fun t => bn.up t 0
  have z1 : ∀ t : Tw (Up W1), t.w.cell? ⟨w.heap.size, 1, none⟩ = some (.int .u32 s) := fun t => bn.up t 1
  have z2 : ∀ t : Tw (Up W1), t.w.cell? ⟨w.heap.size, 2, none⟩ = some (.int .u32 d) := fun t => bn.up t 2
  have z3 : ∀ t : Tw (Up W1), t.w.cell? ⟨w.heap.size, 3, none⟩ = some (.int .u16 a) := fun t => bn.up t 3
  have z4 : ∀ t : Tw (Up W1), t.w.cell? ⟨w.heap.size, 4, none⟩ = some (.int .u16 b) := fun t => bn.up t 4
  have z5 : ∀ t : Tw (Up W1), t.w.cell? ⟨w.heap.size, 5, none⟩ = some (.int .i64 f) := fun t => bn.up t 5
  have ne := Up.one W1
  have zc : True := trivial
  have zb : True := trivial
  refine wpPm_qs 18 _ _ _ (by kernel_rfl) (by kernel_rfl) (by simp) ?_
  unfold clsS
  simp only [List.take_succ_cons, List.take_zero, List.drop_succ_cons, List.drop_zero, List.filterMap_cons, List.filterMap_nil, List.getElem?_toArray, List.getElem?_cons_zero, List.getElem?_cons_succ]
  repeat (first
    | go_big_quiet_skip
    | (go_big_quiet_want; go_big_quiet_op; go_big_quiet_on)
    | (refine id (?_ : wpQuiet _ _ _ _ (_ :: _) _); first | go_big_quiet_skip | (go_big_quiet_want; go_big_quiet_op; go_big_quiet_on)))
  refine wpQuiet_nil ?_
  refine wpPm_e _ (by rfl) (by kernel_rfl) (fun K hK => ?_)
  go_simp
  refine (pU.out W1 rdb hBl).mono ?_
  rintro e w2 ⟨v, rfl, own2, bel2⟩
  replace own2 := own2.mono_ bel.size
  replace bn := bn.bel bel2
  replace rdb := rdb.below (bel2.mono hBl)
  replace hBl := Nat.le_trans hBl bel2.size
  replace bel := bel_after bel bel2
  refine hK (Up w2) _ _ (Up.sub bel2) (Up.rfl_ _) ?_
  clear hK K bel2
  obtain ⟨A2, c2, rfl, hc1, hc2, rd2⟩ := own2.form rfl
  clear own2
  clear z0 z1 z2 z3 z4 z5 zc zb ne
  have z0 : ∀ t : Tw (Up w2), t.w.cell? ⟨w.heap.size, 0, none⟩ = some (.int .i64 wt) := fun t => bn.up t 0
  have z1 : ∀ t : Tw (Up w2), t.w.cell? ⟨w.heap.size, 1, none⟩ = some (.int .u32 s) := fun t => bn.up t 1
  have z2 : ∀ t : Tw (Up w2), t.w.cell? ⟨w.heap.size, 2, none⟩ = some (.int .u32 d) := fun t => bn.up t 2
  have z3 : ∀ t : Tw (Up w2), t.w.cell? ⟨w.heap.size, 3, none⟩ = some (.int .u16 a) := fun t => bn.up t 3
  have z4 : ∀ t : Tw (Up w2), t.w.cell? ⟨w.heap.size, 4, none⟩ = some (.int .u16 b) := fun t => bn.up t 4
  have z5 : ∀ t : Tw (Up w2), t.w.cell? ⟨w.heap.size, 5, none⟩ = some (.int .i64 f) := fun t => bn.up t 5
  have ne := Up.one w2
  have zc := fun t : Tw (Up w2) => conv_rd (P := Try.prog) (rd2.up (Nat.le_refl _) t) 24 5 9 (cap := c2) Try.underlying24 Try.underlying5 Try.underlying9
  have zb := fun t : Tw (Up w2) => conv_rd (P := Try.prog) (rdb.up hBl t) 24 5 9 (cap := cb) Try.underlying24 Try.underlying5 Try.underlying9
  refine wpPm_qs 1 _ _ _ (by kernel_rfl) (by kernel_rfl) (by simp) ?_
  unfold clsS
  simp only [List.take_succ_cons, List.take_zero, List.drop_succ_cons, List.drop_zero, List.filterMap_cons, List.filterMap_nil, List.getElem?_toArray, List.getElem?_cons_zero, List.getElem?_cons_succ]
  repeat (first
    | go_big_quiet_skip
    | (go_big_quiet_want; go_big_quiet_op; go_big_quiet_on)
    | (refine id (?_ : wpQuiet _ _ _ _ (_ :: _) _); first | go_big_quiet_skip | (go_big_quiet_want; go_big_quiet_op; go_big_quiet_on)))
  refine wpQuiet_nil ?_
  refine wpPm_e _ (by rfl) (by kernel_rfl) (fun K hK => ?_)
  go_simp
  refine (rU.out w2 rdb hBl).mono ?_
  rintro e w3 ⟨v, rfl, own2, bel2⟩
  replace own2 := own2.mono_ bel.size
  replace bn := bn.bel bel2
  replace rdb := rdb.below (bel2.mono hBl)
  replace hBl := Nat.le_trans hBl bel2.size
  replace bel := bel_after bel bel2
  refine hK (Up w3) _ _ (Up.sub bel2) (Up.rfl_ _) ?_
  clear hK K bel2
  obtain ⟨A2, c2, rfl, hc1, hc2, rd2⟩ := own2.form rfl
  clear own2
  clear z0 z1 z2 z3 z4 z5 zc zb ne
  have z0 : ∀ t : Tw (Up w3), t.w.cell? ⟨w.heap.size, 0, none⟩ = some (.int .i64 wt) := fun t => bn.up t 0
  have z1 : ∀ t : Tw (Up w3), t.w.cell? ⟨w.heap.size, 1, none⟩ = some (.int .u32 s) := fun t => bn.up t 1
  have z2 : ∀ t : Tw (Up w3), t.w.cell? ⟨w.heap.size, 2, none⟩ = some (.int .u32 d) := fun t => bn.up t 2
  have z3 : ∀ t : Tw (Up w3), t.w.cell? ⟨w.heap.size, 3, none⟩ = some (.int .u16 a) := fun t => bn.up t 3
  have z4 : ∀ t : Tw (Up w3), t.w.cell? ⟨w.heap.size, 4, none⟩ = some (.int .u16 b) := fun t => bn.up t 4
  have z5 : ∀ t : Tw (Up w3), t.w.cell? ⟨w.heap.size, 5, none⟩ = some (.int .i64 f) := fun t => bn.up t 5
  have ne := Up.one w3
  have zc := fun t : Tw (Up w3) => conv_rd (P := Try.prog) (rd2.up (Nat.le_refl _) t) 24 5 9 (cap := c2) Try.underlying24 Try.underlying5 Try.underlying9
  have zb := fun t : Tw (Up w3) => conv_rd (P := Try.prog) (rdb.up hBl t) 24 5 9 (cap := cb) Try.underlying24 Try.underlying5 Try.underlying9
  refine wpPm_qs 25 _ _ _ (by kernel_rfl) (by kernel_rfl) (by simp) ?_
  unfold clsS
  simp only [List.take_succ_cons, List.take_zero, List.drop_succ_cons, List.drop_zero, List.filterMap_cons, List.filterMap_nil, List.getElem?_toArray, List.getElem?_cons_zero, List.getElem?_cons_succ]
  repeat (first
    | go_big_quiet_skip
    | (go_big_quiet_want; go_big_quiet_op; go_big_quiet_on)
    | (refine id (?_ : wpQuiet _ _ _ _ (_ :: _) _); first | go_big_quiet_skip | (go_big_quiet_want; go_big_quiet_op; go_big_quiet_on)))
  refine wpQuiet_nil ?_
  refine wpPm_e _ (by rfl) (by kernel_rfl) (fun K hK => ?_)
  go_simp
  refine (pT.out w3 rdb hBl).mono ?_
  rintro e w4 ⟨v, rfl, own2, bel2⟩
  replace own2 := own2.mono_ bel.size
  replace bn := bn.bel bel2
  replace rdb := rdb.below (bel2.mono hBl)
  replace hBl := Nat.le_trans hBl bel2.size
  replace bel := bel_after bel bel2
  refine hK (Up w4) _ _ (Up.sub bel2) (Up.rfl_ _) ?_
  clear hK K bel2
  obtain ⟨A2, c2, rfl, hc1, hc2, rd2⟩ := own2.form rfl
  clear own2
  clear z0 z1 z2 z3 z4 z5 zc zb ne
  have z0 : ∀ t : Tw (Up w4), t.w.cell? ⟨w.heap.size, 0, none⟩ = some (.int .i64 wt) := fun t => bn.up t 0
  have z1 : ∀ t : Tw (Up w4), t.w.cell? ⟨w.heap.size, 1, none⟩ = some (.int .u32 s) := fun t => bn.up t 1
  have z2 : ∀ t : Tw (Up w4), t.w.cell? ⟨w.heap.size, 2, none⟩ = some (.int .u32 d) := fun t => bn.up t 2
  have z3 : ∀ t : Tw (Up w4), t.w.cell? ⟨w.heap.size, 3, none⟩ = some (.int .u16 a) := fun t => bn.up t 3
  have z4 : ∀ t : Tw (Up w4), t.w.cell? ⟨w.heap.size, 4, none⟩ = some (.int .u16 b) := fun t => bn.up t 4
  have z5 : ∀ t : Tw (Up w4), t.w.cell? ⟨w.heap.size, 5, none⟩ = some (.int .i64 f) := fun t => bn.up t 5
  have ne := Up.one w4
  have zc := fun t : Tw (Up w4) => conv_rd (P := Try.prog) (rd2.up (Nat.le_refl _) t) 24 5 9 (cap := c2) Try.underlying24 Try.underlying5 Try.underlying9
  have zb := fun t : Tw (Up w4) => conv_rd (P := Try.prog) (rdb.up hBl t) 24 5 9 (cap := cb) Try.underlying24 Try.underlying5 Try.underlying9
  refine wpPm_qs 1 _ _ _ (by kernel_rfl) (by kernel_rfl) (by simp) ?_
  unfold clsS
  simp only [List.take_succ_cons, List.take_zero, List.drop_succ_cons, List.drop_zero, List.filterMap_cons, List.filterMap_nil, List.getElem?_toArray, List.getElem?_cons_zero, List.getElem?_cons_succ]
  repeat (first
    | go_big_quiet_skip
    | (go_big_quiet_want; go_big_quiet_op; go_big_quiet_on)
    | (refine id (?_ : wpQuiet _ _ _ _ (_ :: _) _); first | go_big_quiet_skip | (go_big_quiet_want; go_big_quiet_op; go_big_quiet_on)))
  refine wpQuiet_nil ?_
  refine wpPm_e _ (by rfl) (by kernel_rfl) (fun K hK => ?_)
  go_simp
  refine (rT.out w4 rdb hBl).mono ?_
  rintro e w5 ⟨v, rfl, own2, bel2⟩
  replace own2 := own2.mono_ bel.size
  replace bn := bn.bel bel2
  replace rdb := rdb.below (bel2.mono hBl)
  replace hBl := Nat.le_trans hBl bel2.size
  replace bel := bel_after bel bel2
  refine hK (Up w5) _ _ (Up.sub bel2) (Up.rfl_ _) ?_
  clear hK K bel2
  obtain ⟨A2, c2, rfl, hc1, hc2, rd2⟩ := own2.form rfl
  clear own2
  clear z0 z1 z2 z3 z4 z5 zc zb ne
  have z0 : ∀ t : Tw (Up w5), t.w.cell? ⟨w.heap.size, 0, none⟩ = some (.int .i64 wt) := fun t => bn.up t 0
  have z1 : ∀ t : Tw (Up w5), t.w.cell? ⟨w.heap.size, 1, none⟩ = some (.int .u32 s) := fun t => bn.up t 1
  have z2 : ∀ t : Tw (Up w5), t.w.cell? ⟨w.heap.size, 2, none⟩ = some (.int .u32 d) := fun t => bn.up t 2
  have z3 : ∀ t : Tw (Up w5), t.w.cell? ⟨w.heap.size, 3, none⟩ = some (.int .u16 a) := fun t => bn.up t 3
  have z4 : ∀ t : Tw (Up w5), t.w.cell? ⟨w.heap.size, 4, none⟩ = some (.int .u16 b) := fun t => bn.up t 4
  have z5 : ∀ t : Tw (Up w5), t.w.cell? ⟨w.heap.size, 5, none⟩ = some (.int .i64 f) := fun t => bn.up t 5
  have ne := Up.one w5
  have zc := fun t : Tw (Up w5) => conv_rd (P := Try.prog) (rd2.up (Nat.le_refl _) t) 24 5 9 (cap := c2) Try.underlying24 Try.underlying5 Try.underlying9
  have zb := fun t : Tw (Up w5) => conv_rd (P := Try.prog) (rdb.up hBl t) 24 5 9 (cap := cb) Try.underlying24 Try.underlying5 Try.underlying9
  refine wpPm_qs 3 _ _ _ (by kernel_rfl) (by kernel_rfl) (by simp) ?_
  unfold clsS
  simp only [List.take_succ_cons, List.take_zero, List.drop_succ_cons, List.drop_zero, List.filterMap_cons, List.filterMap_nil, List.getElem?_toArray, List.getElem?_cons_zero, List.getElem?_cons_succ]
  repeat (first
    | go_big_quiet_skip
    | (go_big_quiet_want; go_big_quiet_op; go_big_quiet_on)
    | (refine id (?_ : wpQuiet _ _ _ _ (_ :: _) _); first | go_big_quiet_skip | (go_big_quiet_want; go_big_quiet_op; go_big_quiet_on)))
  refine wpQuiet_nil ?_
  unfold wpPm
  refine NoPanic.normal ?_
  clear z0 z1 z2 z3 z4 z5 zc zb ne
  clear rd2 hc1 hc2
  go_upto_region 5 with fail
  replace rdb := rdb.drew
  replace bn := bn.drew
  replace bel := bel.drew
  refine wp_region_planS (Up w5.drew) [(0, true), (1, true), (2, true), (3, true), (4, true), (5, true), (6, true), (9, true), (10, true), (11, true), (12, true), (13, true), (14, true), (15, true), (7, false), (8, true), (16, false), (17, true), (18, true), (19, true), (20, true), (21, true), (22, true), (23, true), (24, true), (27, true), (28, true), (29, true), (30, true), (31, true), (25, false), (26, true), (32, false), (33, true), (34, true), (35, true), (36, true), (37, true), (38, true), (39, true), (40, true), (41, true)] (by kernel_rfl) (by kernel_rfl) (by kernel_rfl) (by kernel_rfl) (Up.rfl_ _) ?_
  replace hBl : B ≤ w5.drew.heap.size := hBl
  generalize w5.drew = W5 at *
  have z0 : ∀ t : Tw (Up W5), t.w.cell? ⟨w.heap.size, 0, none⟩ = some (.int .i64 wt) := fun t => bn.up t 0
  have z1 : ∀ t : Tw (Up W5), t.w.cell? ⟨w.heap.size, 1, none⟩ = some (.int .u32 s) := fun t => bn.up t 1
  have z2 : ∀ t : Tw (Up W5), t.w.cell? ⟨w.heap.size, 2, none⟩ = some (.int .u32 d) := fun t => bn.up t 2
  have z3 : ∀ t : Tw (Up W5), t.w.cell? ⟨w.heap.size, 3, none⟩ = some (.int .u16 a) := fun t => bn.up t 3
  have z4 : ∀ t : Tw (Up W5), t.w.cell? ⟨w.heap.size, 4, none⟩ = some (.int .u16 b) := fun t => bn.up t 4
  have z5 : ∀ t : Tw (Up W5), t.w.cell? ⟨w.heap.size, 5, none⟩ = some (.int .i64 f) := fun t => bn.up t 5
  have ne := Up.one W5
  have zc : True := trivial
  have zb : True := trivial
  refine wpPm_qs 14 _ _ _ (by kernel_rfl) (by kernel_rfl) (by simp) ?_
  unfold clsS
  simp only [List.take_succ_cons, List.take_zero, List.drop_succ_cons, List.drop_zero, List.filterMap_cons, List.filterMap_nil, List.getElem?_toArray, List.getElem?_cons_zero, List.getElem?_cons_succ]
  repeat (first
    | go_big_quiet_skip
    | (go_big_quiet_want; go_big_quiet_op; go_big_quiet_on)
    | (refine id (?_ : wpQuiet _ _ _ _ (_ :: _) _); first | go_big_quiet_skip | (go_big_quiet_want; go_big_quiet_op; go_big_quiet_on)))
  refine wpQuiet_nil ?_
  refine wpPm_e _ (by rfl) (by kernel_rfl) (fun K hK => ?_)
  go_simp
  refine (pC.out W5 rdb hBl).mono ?_
  rintro e w6 ⟨v, rfl, own2, bel2⟩
  replace own2 := own2.mono_ bel.size
  replace bn := bn.bel bel2
  replace rdb := rdb.below (bel2.mono hBl)
  replace hBl := Nat.le_trans hBl bel2.size
  replace bel := bel_after bel bel2
  refine hK (Up w6) _ _ (Up.sub bel2) (Up.rfl_ _) ?_
  clear hK K bel2
  obtain ⟨A2, c2, rfl, hc1, hc2, rd2⟩ := own2.form rfl
  clear own2
  clear z0 z1 z2 z3 z4 z5 zc zb ne
  have z0 : ∀ t : Tw (Up w6), t.w.cell? ⟨w.heap.size, 0, none⟩ = some (.int .i64 wt) := fun t => bn.up t 0
  have z1 : ∀ t : Tw (Up w6), t.w.cell? ⟨w.heap.size, 1, none⟩ = some (.int .u32 s) := fun t => bn.up t 1
  have z2 : ∀ t : Tw (Up w6), t.w.cell? ⟨w.heap.size, 2, none⟩ = some (.int .u32 d) := fun t => bn.up t 2
  have z3 : ∀ t : Tw (Up w6), t.w.cell? ⟨w.heap.size, 3, none⟩ = some (.int .u16 a) := fun t => bn.up t 3
  have z4 : ∀ t : Tw (Up w6), t.w.cell? ⟨w.heap.size, 4, none⟩ = some (.int .u16 b) := fun t => bn.up t 4
  have z5 : ∀ t : Tw (Up w6), t.w.cell? ⟨w.heap.size, 5, none⟩ = some (.int .i64 f) := fun t => bn.up t 5
  have ne := Up.one w6
  have zc := fun t : Tw (Up w6) => conv_rd (P := Try.prog) (rd2.up (Nat.le_refl _) t) 24 5 9 (cap := c2) Try.underlying24 Try.underlying5 Try.underlying9
  have zb := fun t : Tw (Up w6) => conv_rd (P := Try.prog) (rdb.up hBl t) 24 5 9 (cap := cb) Try.underlying24 Try.underlying5 Try.underlying9
  refine wpPm_qs 1 _ _ _ (by kernel_rfl) (by kernel_rfl) (by simp) ?_
  unfold clsS
  simp only [List.take_succ_cons, List.take_zero, List.drop_succ_cons, List.drop_zero, List.filterMap_cons, List.filterMap_nil, List.getElem?_toArray, List.getElem?_cons_zero, List.getElem?_cons_succ]
  repeat (first
    | go_big_quiet_skip
    | (go_big_quiet_want; go_big_quiet_op; go_big_quiet_on)
    | (refine id (?_ : wpQuiet _ _ _ _ (_ :: _) _); first | go_big_quiet_skip | (go_big_quiet_want; go_big_quiet_op; go_big_quiet_on)))
  refine wpQuiet_nil ?_
  refine wpPm_e _ (by rfl) (by kernel_rfl) (fun K hK => ?_)
  go_simp
  refine (rC.out w6 rdb hBl).mono ?_
  rintro e w7 ⟨v, rfl, own2, bel2⟩
  replace own2 := own2.mono_ bel.size
  replace bn := bn.bel bel2
  replace rdb := rdb.below (bel2.mono hBl)
  replace hBl := Nat.le_trans hBl bel2.size
  replace bel := bel_after bel bel2
  refine hK (Up w7) _ _ (Up.sub bel2) (Up.rfl_ _) ?_
  clear hK K bel2
  obtain ⟨A2, c2, rfl, hc1, hc2, rd2⟩ := own2.form rfl
  clear own2
  clear z0 z1 z2 z3 z4 z5 zc zb ne
  have z0 : ∀ t : Tw (Up w7), t.w.cell? ⟨w.heap.size, 0, none⟩ = some (.int .i64 wt) := fun t => bn.up t 0
  have z1 : ∀ t : Tw (Up w7), t.w.cell? ⟨w.heap.size, 1, none⟩ = some (.int .u32 s) := fun t => bn.up t 1
  have z2 : ∀ t : Tw (Up w7), t.w.cell? ⟨w.heap.size, 2, none⟩ = some (.int .u32 d) := fun t => bn.up t 2
  have z3 : ∀ t : Tw (Up w7), t.w.cell? ⟨w.heap.size, 3, none⟩ = some (.int .u16 a) := fun t => bn.up t 3
  have z4 : ∀ t : Tw (Up w7), t.w.cell? ⟨w.heap.size, 4, none⟩ = some (.int .u16 b) := fun t => bn.up t 4
  have z5 : ∀ t : Tw (Up w7), t.w.cell? ⟨w.heap.size, 5, none⟩ = some (.int .i64 f) := fun t => bn.up t 5
  have ne := Up.one w7
  have zc := fun t : Tw (Up w7) => conv_rd (P := Try.prog) (rd2.up (Nat.le_refl _) t) 24 5 9 (cap := c2) Try.underlying24 Try.underlying5 Try.underlying9
  have zb := fun t : Tw (Up w7) => conv_rd (P := Try.prog) (rdb.up hBl t) 24 5 9 (cap := cb) Try.underlying24 Try.underlying5 Try.underlying9
  refine wpPm_qs 13 _ _ _ (by kernel_rfl) (by kernel_rfl) (by simp) ?_
  unfold clsS
  simp only [List.take_succ_cons, List.take_zero, List.drop_succ_cons, List.drop_zero, List.filterMap_cons, List.filterMap_nil, List.getElem?_toArray, List.getElem?_cons_zero, List.getElem?_cons_succ]
  repeat (first
    | go_big_quiet_skip
    | (go_big_quiet_want; go_big_quiet_op; go_big_quiet_on)
    | (refine id (?_ : wpQuiet _ _ _ _ (_ :: _) _); first | go_big_quiet_skip | (go_big_quiet_want; go_big_quiet_op; go_big_quiet_on)))
  refine wpQuiet_nil ?_
  refine wpPm_e _ (by rfl) (by kernel_rfl) (fun K hK => ?_)
  go_simp
  refine (pF.out w7 rdb hBl).mono ?_
  rintro e w8 ⟨v, rfl, own2, bel2⟩
  replace own2 := own2.mono_ bel.size
  replace bn := bn.bel bel2
  replace rdb := rdb.below (bel2.mono hBl)
  replace hBl := Nat.le_trans hBl bel2.size
  replace bel := bel_after bel bel2
  refine hK (Up w8) _ _ (Up.sub bel2) (Up.rfl_ _) ?_
  clear hK K bel2
  obtain ⟨A2, c2, rfl, hc1, hc2, rd2⟩ := own2.form rfl
  clear own2
  clear z0 z1 z2 z3 z4 z5 zc zb ne
  have z0 : ∀ t : Tw (Up w8), t.w.cell? ⟨w.heap.size, 0, none⟩ = some (.int .i64 wt) := fun t => bn.up t 0
  have z1 : ∀ t : Tw (Up w8), t.w.cell? ⟨w.heap.size, 1, none⟩ = some (.int .u32 s) := fun t => bn.up t 1
  have z2 : ∀ t : Tw (Up w8), t.w.cell? ⟨w.heap.size, 2, none⟩ = some (.int .u32 d) := fun t => bn.up t 2
  have z3 : ∀ t : Tw (Up w8), t.w.cell? ⟨w.heap.size, 3, none⟩ = some (.int .u16 a) := fun t => bn.up t 3
  have z4 : ∀ t : Tw (Up w8), t.w.cell? ⟨w.heap.size, 4, none⟩ = some (.int .u16 b) := fun t => bn.up t 4
  have z5 : ∀ t : Tw (Up w8), t.w.cell? ⟨w.heap.size, 5, none⟩ = some (.int .i64 f) := fun t => bn.up t 5
  have ne := Up.one w8
  have zc := fun t : Tw (Up w8) => conv_rd (P := Try.prog) (rd2.up (Nat.le_refl _) t) 24 5 9 (cap := c2) Try.underlying24 Try.underlying5 Try.underlying9
  have zb := fun t : Tw (Up w8) => conv_rd (P := Try.prog) (rdb.up hBl t) 24 5 9 (cap := cb) Try.underlying24 Try.underlying5 Try.underlying9
  refine wpPm_qs 1 _ _ _ (by kernel_rfl) (by kernel_rfl) (by simp) ?_
  unfold clsS
  simp only [List.take_succ_cons, List.take_zero, List.drop_succ_cons, List.drop_zero, List.filterMap_cons, List.filterMap_nil, List.getElem?_toArray, List.getElem?_cons_zero, List.getElem?_cons_succ]
  repeat (first
    | go_big_quiet_skip
    | (go_big_quiet_want; go_big_quiet_op; go_big_quiet_on)
    | (refine id (?_ : wpQuiet _ _ _ _ (_ :: _) _); first | go_big_quiet_skip | (go_big_quiet_want; go_big_quiet_op; go_big_quiet_on)))
  refine wpQuiet_nil ?_
  refine wpPm_e _ (by rfl) (by kernel_rfl) (fun K hK => ?_)
  go_simp
  refine (rF.out w8 rdb hBl).mono ?_
  rintro e w9 ⟨v, rfl, own2, bel2⟩
  replace own2 := own2.mono_ bel.size
  replace bn := bn.bel bel2
  replace rdb := rdb.below (bel2.mono hBl)
  replace hBl := Nat.le_trans hBl bel2.size
  replace bel := bel_after bel bel2
  refine hK (Up w9) _ _ (Up.sub bel2) (Up.rfl_ _) ?_
  clear hK K bel2
  obtain ⟨A2, c2, rfl, hc1, hc2, rd2⟩ := own2.form rfl
  clear own2
  clear z0 z1 z2 z3 z4 z5 zc zb ne
  have z0 : ∀ t : Tw (Up w9), t.w.cell? ⟨w.heap.size, 0, none⟩ = some (.int .i64 wt) := fun t => bn.up t 0
  have z1 : ∀ t : Tw (Up w9), t.w.cell? ⟨w.heap.size, 1, none⟩ = some (.int .u32 s) := fun t => bn.up t 1
  have z2 : ∀ t : Tw (Up w9), t.w.cell? ⟨w.heap.size, 2, none⟩ = some (.int .u32 d) := fun t => bn.up t 2
  have z3 : ∀ t : Tw (Up w9), t.w.cell? ⟨w.heap.size, 3, none⟩ = some (.int .u16 a) := fun t => bn.up t 3
  have z4 : ∀ t : Tw (Up w9), t.w.cell? ⟨w.heap.size, 4, none⟩ = some (.int .u16 b) := fun t => bn.up t 4
  have z5 : ∀ t : Tw (Up w9), t.w.cell? ⟨w.heap.size, 5, none⟩ = some (.int .i64 f) := fun t => bn.up t 5
  have ne := Up.one w9
  have zc := fun t : Tw (Up w9) => conv_rd (P := Try.prog) (rd2.up (Nat.le_refl _) t) 24 5 9 (cap := c2) Try.underlying24 Try.underlying5 Try.underlying9
  have zb := fun t : Tw (Up w9) => conv_rd (P := Try.prog) (rdb.up hBl t) 24 5 9 (cap := cb) Try.underlying24 Try.underlying5 Try.underlying9
  refine wpPm_qs 9 _ _ _ (by kernel_rfl) (by kernel_rfl) (by simp) ?_
  unfold clsS
  simp only [List.take_succ_cons, List.take_zero, List.drop_succ_cons, List.drop_zero, List.filterMap_cons, List.filterMap_nil, List.getElem?_toArray, List.getElem?_cons_zero, List.getElem?_cons_succ]
  repeat (first
    | go_big_quiet_skip
    | (go_big_quiet_want; go_big_quiet_op; go_big_quiet_on)
    | (refine id (?_ : wpQuiet _ _ _ _ (_ :: _) _); first | go_big_quiet_skip | (go_big_quiet_want; go_big_quiet_op; go_big_quiet_on)))
  refine wpQuiet_nil ?_
  unfold wpPm
  refine NoPanic.normal ?_
  clear z0 z1 z2 z3 z4 z5 zc zb ne
  clear rd2 hc1 hc2 rdb hBl
  go_wp2_with (refine wpList_ldRow rfl rfl rfl bn Try.underlying26 sn_size ?_)
  refine (hfr.out _ bel).mono ?_
  rintro e w10 ⟨v1, rfl, own1, bel1⟩
  replace own1 := own1.mono_ bel.size
  replace bel := bel_after bel bel1
  clear bel1 bn
  obtain ⟨g, c1, rfl, hc1, hc2, hg1, hg2⟩ := own1.formG hX.out (by omega)
  unfold maxLen at hc2
  have hget := Get_any X (some ⟨g, 0, none⟩) n c1 _ w10 (own1.rd hX.out) (Nat.le_refl _) hc1 (by omega) (by omega)
  rw [hgt.out.1, hgt.out.2] at hget
  simp only [Hd.val] at hget
  replace hget := Lib.hid hget
  go_wp2_with fail
  refine hget.out.mono ?_
  rintro e w11 ⟨rfl, hb2⟩
  clear hget hgt
  replace own1 := own1.below hb2
  replace bel := bel_after bel hb2
  clear hb2
  have hgl : g < w11.heap.size := (own1.lt g rfl).2
  have bh := (Blk.new w11 35 #[.int .i64 0, .int .i64 0, .int .i64 0, .int .i64 0, .int .u32 0, .int .u32 0]).setRow #[.int .i64 20, .int .i64 (n : Int), .int .i64 64, .int .i64 P, .int .u32 s, .int .u32 d]
  replace own1 := (own1.alloc (.cells #[.int .i64 0, .int .i64 0, .int .i64 0, .int .i64 0, .int .u32 0, .int .u32 0] 35)).upd (Upd.row (w11.alloc (.cells #[.int .i64 0, .int .i64 0, .int .i64 0, .int .i64 0, .int .u32 0, .int .u32 0] 35)) w11.heap.size #[.int .i64 20, .int .i64 (n : Int), .int .i64 64, .int .i64 P, .int .u32 s, .int .u32 d]) (by intro x hx e; simp [Value.ownBlock] at hx; omega)
  replace bel := below_setRow (bel.alloc bel.size (.cells #[.int .i64 0, .int .i64 0, .int .i64 0, .int .i64 0, .int .u32 0, .int .u32 0] 35)) bel.size #[.int .i64 20, .int .i64 (n : Int), .int .i64 64, .int .i64 P, .int .u32 s, .int .u32 d]
  go_wp2_with (first
    | (refine wpList_stRow rfl rfl rfl rfl rfl (Blk.new w11 _ _) hd_size rfl (by simp [Value.oneCell']) ?_; generalize (w11.alloc (.cells #[.int .i64 0, .int .i64 0, .int .i64 0, .int .i64 0, .int .u32 0, .int .u32 0] 35)).setRow w11.heap.size #[.int .i64 20, .int .i64 (n : Int), .int .i64 64, .int .i64 P, .int .u32 s, .int .u32 d] = W5 at *; generalize w11.heap.size = g5 at *)
    | (refine wpList_ldRow rfl rfl rfl bh Try.underlying35 hd_size ?_))
  refine (hpg.out _ _ _ (own1.rd hX.out) hc1 (by omega)).mono ?_
  rintro e w12 ⟨rfl, hb5⟩
  replace bh := bh.bel hb5
  replace own1 := own1.below hb5
  replace bel := bel_after bel hb5
  clear hb5
  have hg1l := bh.lt
  have hgl : g < w12.heap.size := (own1.lt g rfl).2
  have bp := (Blk.new w12 37 #[.int .i64 0, .int .u16 0, .int .u16 0, .int .i64 0, .int .i64 0, .int .i64 0, .bool false, .int .i64 0, .int .i64 0, .int .i64 0, .int .i64 0, .int .u32 0, .int .u32 0, .int .i64 0, .bool false]).setRow #[.int .i64 pr, .int .u16 sr, .int .u16 ds, .int .i64 fl, .int .i64 ki, .int .i64 co, .bool er, .int .i64 i0, .int .i64 i1, .int .i64 i2, .int .i64 i3, .int .u32 i4, .int .u32 i5, .int .i64 pa, .bool ba]
  replace bh := (bh.alloc (.cells #[.int .i64 0, .int .u16 0, .int .u16 0, .int .i64 0, .int .i64 0, .int .i64 0, .bool false, .int .i64 0, .int .i64 0, .int .i64 0, .int .i64 0, .int .u32 0, .int .u32 0, .int .i64 0, .bool false] 37)).setRow_far (g' := w12.heap.size) (by omega) #[.int .i64 pr, .int .u16 sr, .int .u16 ds, .int .i64 fl, .int .i64 ki, .int .i64 co, .bool er, .int .i64 i0, .int .i64 i1, .int .i64 i2, .int .i64 i3, .int .u32 i4, .int .u32 i5, .int .i64 pa, .bool ba]
  replace own1 := (own1.alloc (.cells #[.int .i64 0, .int .u16 0, .int .u16 0, .int .i64 0, .int .i64 0, .int .i64 0, .bool false, .int .i64 0, .int .i64 0, .int .i64 0, .int .i64 0, .int .u32 0, .int .u32 0, .int .i64 0, .bool false] 37)).upd (Upd.row (w12.alloc (.cells #[.int .i64 0, .int .u16 0, .int .u16 0, .int .i64 0, .int .i64 0, .int .i64 0, .bool false, .int .i64 0, .int .i64 0, .int .i64 0, .int .i64 0, .int .u32 0, .int .u32 0, .int .i64 0, .bool false] 37)) w12.heap.size #[.int .i64 pr, .int .u16 sr, .int .u16 ds, .int .i64 fl, .int .i64 ki, .int .i64 co, .bool er, .int .i64 i0, .int .i64 i1, .int .i64 i2, .int .i64 i3, .int .u32 i4, .int .u32 i5, .int .i64 pa, .bool ba]) (by intro x hx e; simp [Value.ownBlock] at hx; omega)
  replace bel := below_setRow (bel.alloc bel.size (.cells #[.int .i64 0, .int .u16 0, .int .u16 0, .int .i64 0, .int .i64 0, .int .i64 0, .bool false, .int .i64 0, .int .i64 0, .int .i64 0, .int .i64 0, .int .u32 0, .int .u32 0, .int .i64 0, .bool false] 37)) bel.size #[.int .i64 pr, .int .u16 sr, .int .u16 ds, .int .i64 fl, .int .i64 ki, .int .i64 co, .bool er, .int .i64 i0, .int .i64 i1, .int .i64 i2, .int .i64 i3, .int .u32 i4, .int .u32 i5, .int .i64 pa, .bool ba]
  go_wp2_with (first
    | (refine wpList_stRow rfl rfl rfl rfl rfl (Blk.new w12 _ _) pt_size rfl (by simp [Value.oneCell']) ?_; generalize (w12.alloc (.cells #[.int .i64 0, .int .u16 0, .int .u16 0, .int .i64 0, .int .i64 0, .int .i64 0, .bool false, .int .i64 0, .int .i64 0, .int .i64 0, .int .i64 0, .int .u32 0, .int .u32 0, .int .i64 0, .bool false] 37)).setRow w12.heap.size #[.int .i64 pr, .int .u16 sr, .int .u16 ds, .int .i64 fl, .int .i64 ki, .int .i64 co, .bool er, .int .i64 i0, .int .i64 i1, .int .i64 i2, .int .i64 i3, .int .u32 i4, .int .u32 i5, .int .i64 pa, .bool ba] = W6 at *; generalize w12.heap.size = g1 at *)
    | (refine wpList_ldRow rfl rfl rfl bh Try.underlying35 hd_size ?_))
  refine (From_any _ _ _ _ _ _ _).mono ?_
  rintro e w13 ⟨rfl, hb7⟩
  replace own1 := own1.below hb7
  replace bp := bp.bel hb7
  replace bel := bel_after bel hb7
  clear hb7 bh
  go_wp2_with fail
  refine (hrg.out _ _ _ (own1.rd hX.out) hc1 (by omega)).mono ?_
  rintro e w14 ⟨rfl, hb⟩
  replace bp := bp.bel hb
  replace bel := bel_after bel hb
  clear hb own1
  have bq := (Blk.new w14 42 #[.int .i64 0, .int .u16 0, .int .u16 0, .int .i64 0, .int .i64 0, .int .i64 0, .bool false, .int .i64 0, .int .i64 0, .int .i64 0, .int .i64 0, .int .u32 0, .int .u32 0, .int .i64 0, .bool false]).setRow #[.int .i64 pr, .int .u16 sr, .int .u16 ds, .int .i64 fl, .int .i64 ki, .int .i64 co, .bool er, .int .i64 i0, .int .i64 i1, .int .i64 i2, .int .i64 i3, .int .u32 i4, .int .u32 i5, .int .i64 pa, .bool ba]
  have hg2 := bp.lt
  replace bp := (bp.alloc (.cells #[.int .i64 0, .int .u16 0, .int .u16 0, .int .i64 0, .int .i64 0, .int .i64 0, .bool false, .int .i64 0, .int .i64 0, .int .i64 0, .int .i64 0, .int .u32 0, .int .u32 0, .int .i64 0, .bool false] 42)).setRow_far (g' := w14.heap.size) (by omega) #[.int .i64 pr, .int .u16 sr, .int .u16 ds, .int .i64 fl, .int .i64 ki, .int .i64 co, .bool er, .int .i64 i0, .int .i64 i1, .int .i64 i2, .int .i64 i3, .int .u32 i4, .int .u32 i5, .int .i64 pa, .bool ba]
  replace bel := below_setRow (bel.alloc bel.size (.cells #[.int .i64 0, .int .u16 0, .int .u16 0, .int .i64 0, .int .i64 0, .int .i64 0, .bool false, .int .i64 0, .int .i64 0, .int .i64 0, .int .i64 0, .int .u32 0, .int .u32 0, .int .i64 0, .bool false] 42)) bel.size #[.int .i64 pr, .int .u16 sr, .int .u16 ds, .int .i64 fl, .int .i64 ki, .int .i64 co, .bool er, .int .i64 i0, .int .i64 i1, .int .i64 i2, .int .i64 i3, .int .u32 i4, .int .u32 i5, .int .i64 pa, .bool ba]
  go_wp2_with (refine wpList_stRow rfl rfl rfl rfl rfl (Blk.new w14 _ _) rpt_size rfl (by simp [Value.oneCell']) ?_; generalize (w14.alloc (.cells #[.int .i64 0, .int .u16 0, .int .u16 0, .int .i64 0, .int .i64 0, .int .i64 0, .bool false, .int .i64 0, .int .i64 0, .int .i64 0, .int .i64 0, .int .u32 0, .int .u32 0, .int .i64 0, .bool false] 42)).setRow w14.heap.size #[.int .i64 pr, .int .u16 sr, .int .u16 ds, .int .i64 fl, .int .i64 ki, .int .i64 co, .bool er, .int .i64 i0, .int .i64 i1, .int .i64 i2, .int .i64 i3, .int .u32 i4, .int .u32 i5, .int .i64 pa, .bool ba] = W2 at *; generalize w14.heap.size = g2 at *)
  have k1 : ∀ w', clsS (fun w' => Below W2.heap.size W2 w') w' → Blk w' g1 37 #[.int .i64 pr, .int .u16 sr, .int .u16 ds, .int .i64 fl, .int .i64 ki, .int .i64 co, .bool er, .int .i64 i0, .int .i64 i1, .int .i64 i2, .int .i64 i3, .int .u32 i4, .int .u32 i5, .int .i64 pa, .bool ba] := fun w' ⟨t, ht⟩ => ht ▸ bp.below t.h bp.lt
  have k2 : ∀ w', clsS (fun w' => Below W2.heap.size W2 w') w' → Blk w' g2 42 #[.int .i64 pr, .int .u16 sr, .int .u16 ds, .int .i64 fl, .int .i64 ki, .int .i64 co, .bool er, .int .i64 i0, .int .i64 i1, .int .i64 i2, .int .i64 i3, .int .u32 i4, .int .u32 i5, .int .i64 pa, .bool ba] := fun w' ⟨t, ht⟩ => ht ▸ bq.below t.h bq.lt
  have : Nonempty (Tw (fun w' => Below W2.heap.size W2 w')) := ⟨⟨_, Below.refl _ _⟩⟩
  refine region_tw (fun w' => Below W2.heap.size W2 w') (by kernel_rfl) (by kernel_rfl) (Below.refl _ _).drew ?_
  replace k1 := Lib.hid k1
  replace k2 := Lib.hid k2
  repeat (first
    | go_big_quiet_skip
    | (go_big_quiet_want; first
        | (refine quiet_ldRow rfl rfl k1.out Try.underlying37 pt_size ?_; go_simp; go_big_quiet_on)
        | (refine quiet_ldRow rfl rfl k2.out Try.underlying42 rpt_size ?_; go_simp; go_big_quiet_on)
        | (unfold clsS; go_big_quiet_op; first | go_big_quiet_on | go_big_quiet_call (
            (first
              | (go_at_call 14; exact q_tw (Nat.le_refl _) (parts_any _))
              | (go_at_call 15; exact q_tw (Nat.le_refl _) (h3.out _)))))))
  refine wpQuiet_nil ?_
  intro tq
  go_wp2
  go_ret
  exact ⟨rfl, bel_after bel tq.h⟩
theorem PartLays_args (W : World) (args : Array Value) (hs : args.size = Try.f8.params.size) (hA : ∀ (j : Nat) t v, Try.f8.params[j]? = some t → args[j]? = some v → Arg Try.prog W t v) :
    Calls Try.prog 8 args W fun e W' => e = .returned (.bool true) ∧ Below W.heap.size W W' := by
  obtain ⟨v0, rfl⟩ := args1 hs
  obtain ⟨wt, s, d, a, b, f, A, len, cap, l, rfl, h1, h2, h3, h4, h5, h6, h7⟩ := arg_sent (hA 0 26 v0 rfl rfl)
  exact PartLays_walk wt s d a b f l A len cap W h7 h5 h6 h1 h2 h3 h4

set_option maxRecDepth 100000 in
theorem PartLays_lifted (os : Os) (started : os.Started) (H : Type) (enc : TypeId × Value → H) :
    ReturnsInHanded {} Try.checked os 8 .any (Rows.partLaysSpec.pre6 enc Try.prog Try.f8 Rows.partLaysRow.domain false) (Rows.partLaysSpec.post enc Try.prog Try.f8 false true false false) :=
  law_lifted os started H enc (by kernel_rfl) Try.func8 rfl rfl (fun H ds h => by match ds, h with | [_], _ => exact ⟨rfl, rfl, rfl⟩) (by kernel_rfl)
    (ChangeSpec.witness6 (enc := enc) (C := Try.checked) false ⟨#[], #[.agg #[.int .i64 0, .int .u32 0, .int .u32 0, .int .u16 0, .int .u16 0, .int .i64 0, .slice none 0 0]], []⟩ 8 (by kernel_rfl) (by kernel_rfl) (by kernel_rfl) (by kernel_rfl))
    PartLays_args

/-- the statement -/
theorem partLays_holds : Rows.PartLaysSaid :=
  OpenClaim.holds_of_wide 8 Try.f8 rfl rfl rfl rfl rfl rfl rfl ⟨rfl, rfl, rfl, rfl, rfl⟩ rfl rfl rfl rfl rfl (by kernel_rfl) Try.func8 (by kernel_rfl)
    (of_decide_eq_true (by kernel_rfl)) (by unfold Func.isWrapper; first | (rw [if_pos (by decide +kernel)]; kernel_rfl) | (rw [if_neg (by decide +kernel)]; exact ⟨rfl, rfl⟩))
    (fun os started H enc _ => PartLays_lifted os started H enc)

end Go.Proofs.Ytfkmallagficfaa
