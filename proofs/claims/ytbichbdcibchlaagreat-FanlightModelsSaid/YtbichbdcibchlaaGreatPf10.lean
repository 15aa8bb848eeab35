/- Contracts and plain facts. -/
import Derived.Test.YtbichbdcibchlaaGreatPf06
import Derived.Test.YtbichbdcibchlaaGreatPf07
namespace Go.Proofs.YtbichbdcibchlaaGreat
set_option linter.unusedVariables false
set_option linter.unusedSimpArgs false
set_option maxRecDepth 100000
set_option maxHeartbeats 16000000
open Go.RowKit
theorem word_any (n : Int) (w : World) (hn : 0 ≤ n ∧ n ≤ 65535) :
  Calls Tryz.prog 75 #[.int .i64 n] w fun e w' => e = .returned (.slice (some ⟨w.heap.size, 0, none⟩) 2 2) ∧ w' = w.alloc (.cells (A16 (n / 256) (n % 256)) 5) := by
 go_enter Tryz.func75, Tryz.ntmps75
 go_wp2
 go_ret
 exact ⟨rfl, rfl⟩
theorem wide_any (n : Int) (w : World) (hn : 0 ≤ n ∧ n ≤ 4294967295) :
  Calls Tryz.prog 74 #[.int .u32 n] w fun e w' => e = .returned (.slice (some ⟨w.heap.size, 0, none⟩) 4 4) ∧ w' = w.alloc (.cells #[.int .u8 (n / 16777216), .int .u8 (n / 65536 % 256), .int .u8 (n / 256 % 256), .int .u8 (n % 256)] 5) := by
 go_enter Tryz.func74, Tryz.ntmps74
 go_wp2
 go_ret
 exact ⟨rfl, rfl⟩
theorem App.new_ (w : World) (base : Nat) (l : List Int) (hr : ∀ x, x ∈ l → inr .u8 x) (cs : Array Value) (hcs : cs = (l.map (Value.int .u8)).toArray) (n : Nat) (hn : n = l.length) (h0 : n ≤ 100000) (hb : base ≤ w.heap.size) :
  App w (w.alloc (.cells cs 5)) base (.slice none 0 0) (.slice (some ⟨w.heap.size, 0, none⟩) n n) l :=
 ⟨Own.new .u8 w 5 base hb l hr cs hcs n hn (by unfold maxLen; omega), (Upd.refl _ _).alloc _, fun g hg => by right; simp [Value.ownBlock] at hg; omega⟩
theorem be2_inr {n : Int} (h : 0 ≤ n ∧ n ≤ 65535) : ∀ x, x ∈ be2 n → inr .u8 x := fun x hx => u8_inr (be2_bd n h x hx)
theorem be4_inr {n : Int} (h : 0 ≤ n ∧ n ≤ 4294967295) : ∀ x, x ∈ be4 n → inr .u8 x := fun x hx => u8_inr (be4_bd n h x hx)
theorem Pseudo_any (s d p : Int) (l : List Int) (A : Option Addr) (len c B : Nat) (w : World) (hr : Rd .u8 w B A len l) (hB : B ≤ w.heap.size) (hs : 0 ≤ s ∧ s ≤ 4294967295) (hd : 0 ≤ d ∧ d ≤ 4294967295) (hp : 0 ≤ p ∧ p ≤ 255) (hl : len ≤ 60000) :
  Calls Tryz.prog 50 #[.int .u32 s, .int .u32 d, .int .i64 p, .slice A len c] w fun e w' => e = .returned (.int .u16 (csum s d p l)) ∧ Below w.heap.size w w' := by
 obtain ⟨i0, hi, hz0, hz1, hz2⟩ := info_parts info_u8_
 have hrB := hr.more hB
 have hcs : csum s d p l = sumOf ((be4 s ++ be4 d ++ [0, p] ++ be2 (len : Int)) ++ l) := by
  unfold csum ph; rw [hr.len]
 have hlen := Lib.hid hr.len
 rw [hcs]
 obtain ⟨S, hS⟩ : ∃ S, S = sumOf ((be4 s ++ be4 d ++ [0, p] ++ be2 (len : Int)) ++ l) := ⟨_, rfl⟩
 rw [← hS]
 replace hS := Lib.hid hS
 clear hcs
 have hlw : 0 ≤ (len : Int) ∧ (len : Int) ≤ 65535 := by omega
 go_enter Tryz.func50, Tryz.ntmps50
 go_wp2_with fail
 refine (wide_any s _ hs).mono ?_
 rintro e w1 ⟨rfl, hw1⟩
 have a1 := App.new_ w w.heap.size (be4 s) (be4_inr hs) #[.int .u8 (s / 16777216), .int .u8 (s / 65536 % 256), .int .u8 (s / 256 % 256), .int .u8 (s % 256)] rfl 4 rfl (by omega) (Nat.le_refl _)
 rw [← hw1] at a1
 replace hw1 := Lib.hid hw1
 go_wp2_with fail
 refine (wide_any d _ hd).mono ?_
 rintro e w2 ⟨rfl, hw2⟩
 have x2 := Rd.new .u8 w1 5 (be4 d) (be4_inr hd) #[.int .u8 (d / 16777216), .int .u8 (d / 65536 % 256), .int .u8 (d / 256 % 256), .int .u8 (d % 256)] rfl 4 rfl
 have a2 := a1.alloc (.cells #[.int .u8 (d / 16777216), .int .u8 (d / 65536 % 256), .int .u8 (d / 256 % 256), .int .u8 (d % 256)] 5)
 have hz : w2.heap.size = w1.heap.size + 1 := by rw [hw2]; simp
 rw [← hw2] at x2 a2
 replace hw2 := Lib.hid hw2
 have bel2 := a2.bel.size
 go_wp2_with (first
  | (at_builtin; (refine wpList_app _ rfl (.tmp 11) (.tmp 13) 36 rfl .u8 w.heap.size 5 i0 (.int .u8 0) 1 Tryz.underlying36 hi hz0 hz1 hz2 rfl _ (by rfl) _ a2.own (w1.heap.size + 1) _ 4 4 (by rfl) (be4 d) x2 (by simp [be4]) (by decide) bel2 ?_; intro v3 w3 own3 hg3 hb3; have a3 := a2.app own3 hg3 hb3; clear own3 hg3 hb3))
  | (at_builtin; (have hx := Rd.new .u8 w3 5 [0, p] (by intro y hy; simp at hy; rcases hy with rfl | rfl <;> exact u8_inr (by omega)) (A16 0 p) rfl 2 rfl; refine wpList_app _ rfl (.tmp 14) (.tmp 17) 36 rfl .u8 w.heap.size 5 i0 (.int .u8 0) 1 Tryz.underlying36 hi hz0 hz1 hz2 rfl _ (by rfl) _ (a3.own.alloc _) (w3.heap.size + 1) _ 2 2 rfl [0, p] hx (by simp [be4]) (by decide) (by have := a3.upd.size; simp; omega) ?_; intro v4 w4 own4 hg4 hb4; have a4 := (a3.alloc (.cells (A16 0 p) 5)).app own4 hg4 hb4; clear own4 hg4 hb4 hx)))
 refine (word_any len w4 hlw).mono ?_
 rintro e w5 ⟨rfl, hw5⟩
 have x5 := Rd.new .u8 w4 5 (be2 (len : Int)) (be2_inr hlw) (A16 ((len : Int) / 256) ((len : Int) % 256)) rfl 2 rfl
 have a5 := a4.alloc (.cells (A16 ((len : Int) / 256) ((len : Int) % 256)) 5)
 rw [← hw5] at x5 a5
 have hz5 : w5.heap.size = w4.heap.size + 1 := by rw [hw5]; simp
 replace hw5 := Lib.hid hw5
 have bel5 := a5.bel
 have bel5s := bel5.size
 have hrd5 := (hrB.below bel5).more bel5s
 go_wp2_with (first
  | (at_builtin; (refine wpList_app _ rfl (.tmp 18) (.tmp 21) 36 rfl .u8 w.heap.size 5 i0 (.int .u8 0) 1 Tryz.underlying36 hi hz0 hz1 hz2 rfl _ (by rfl) _ a5.own (w4.heap.size + 1) _ 2 2 (by rfl) (be2 (len : Int)) x5 (by simp [be4, be2]) (by decide) bel5s ?_; intro v6 w6 own6 hg6 hb6; have a6 := a5.app own6 hg6 hb6; clear own6 hg6 hb6; have hrd6 := hrB.below a6.bel))
  | (at_builtin; (refine wpList_app _ rfl (.tmp 23) (.tmp 24) 36 rfl .u8 w.heap.size 5 i0 (.int .u8 0) 1 Tryz.underlying36 hi hz0 hz1 hz2 rfl _ (by rfl) _ a6.own w.heap.size _ len c (by rfl) l hrd6 (by simp [be4, be2]; omega) (by decide) a6.bel.size ?_; intro v7 w7 own7 hg7 hb7; have a7 := a6.app own7 hg7 hb7; clear own7 hg7 hb7)))
 have hl7 : (be4 s ++ be4 d ++ [0, p] ++ be2 (len : Int) ++ l).length = 12 + len := by simp [be4, be2, hlen.out]; omega
 obtain ⟨A7, c7, rfl, _, _, rd7⟩ := a7.own.form hl7
 refine (rOf_any _ A7 (12 + len) c7 _ w7 (by omega) rd7).mono ?_
 rw [← hS.out]
 rintro e w8 ⟨rfl, rfl⟩
 have bel7 := a7.bel
 clear a7 rd7 hl7
 go_wp2
 go_ret
 exact ⟨rfl, bel7⟩
theorem rpt_size : (Tryz.prog.info? 54).map (·.size) = some 15 := by kernel_rfl
theorem rhd_size : (Tryz.prog.info? 52).map (·.size) = some 6 := by kernel_rfl
theorem ricmp_plain (h : Hd) (l : List Int) (A : Option Addr) (len c B : Nat) (w : World) (hr : Rd .u8 w B A len l) (hB : B ≤ w.heap.size) (hlc : len ≤ c) (hcm : c ≤ 9223372036854775807) (hl : len ≤ 100000) (hh : 0 ≤ h.size ∧ h.size ≤ 1000) (hnf : 8 ≤ l.length → sumOf l = 0 → ¬ (l.getD 0 0 = 3 ∨ l.getD 0 0 = 11 ∨ l.getD 0 0 = 12)) :
  Calls Tryz.prog 51 #[.agg Z4, h.val, .slice A len c] w (Tells w (icmpR h l)) := by
 have hcs := icmpR_cases h l rfl
 rw [hr.len] at hcs hnf
 have hrB := hr.more hB
 have hsm := fun w' (hb : Below w.heap.size w w') => rOf_any l A len c _ w' hl (hrB.below hb)
 obtain ⟨h0, h1, h2, h3, h4, h5⟩ := h
 unfold Hd.val Tells
 simp only at hh hcs ⊢
 generalize icmpR ⟨h0, h1, h2, h3, h4, h5⟩ l = R at *
 generalize hf0 : l.getD 0 0 = f0 at *
 generalize hf1 : l.getD 1 0 = f1 at *
 obtain ⟨S, hS⟩ : ∃ S, S = sumOf l := ⟨_, rfl⟩
 rw [← hS] at hsm hcs hnf
 replace hsm := Lib.hid hsm
 clear hS
 rcases hcs with ⟨hlt, rfl⟩ | ⟨h8, ⟨hne, rfl⟩ | ⟨rfl, hcs⟩⟩
 ·clear hf0 hf1 hnf
  have d1 : decide (len < 8) = true := by simpa using hlt
  have d2 : decide ((len : Int) < 8) = true := by simp; omega
  go_enter Tryz.func51, Tryz.ntmps51
  go_upto_region 1 with fail
  have bp := ((Blk.new w 54 Z4).alloc (.cells (A4 h0 h1 h2 h3 h4 h5) 52)).alloc (.cells Z0 54)
  have bh := (Blk.new (w.alloc (.cells Z4 54)) 52 (A4 h0 h1 h2 h3 h4 h5)).alloc (.cells Z0 54)
  have bk := Blk.new ((w.alloc (.cells Z4 54)).alloc (.cells (A4 h0 h1 h2 h3 h4 h5) 52)) 54 Z0
  rw [show (w.alloc (.cells Z4 54)).heap.size = w.heap.size + 1 by simp] at bh
  rw [show ((w.alloc (.cells Z4 54)).alloc (.cells (A4 h0 h1 h2 h3 h4 h5) 52)).heap.size = w.heap.size + 2 by simp] at bk
  have bel : Below w.heap.size w (((w.alloc (.cells Z4 54)).alloc (.cells (A4 h0 h1 h2 h3 h4 h5) 52)).alloc (.cells Z0 54)) := ((bel_alloc _ _).alloc (by simp) _).alloc (by simp; omega) _
  generalize (((w.alloc (.cells Z4 54)).alloc (.cells (A4 h0 h1 h2 h3 h4 h5) 52)).alloc (.cells Z0 54)) = W at *
  go_wp2_with (refine wpList_stRow rfl rfl rfl rfl rfl bk rpt_size rfl (by simp [Value.oneCell', Pt.z, Hd.z, portsP]) ?_)
  exact bodyPost_ret (results_row2 rfl _ rfl (bk.setRow _) Tryz.underlying54 rpt_size) rfl ⟨rfl, below_setRow bel (by omega) _⟩
 ·clear hf0 hf1 hnf
  have d1 : decide (len < 8) = false := by simp; omega
  have d2 : decide ((len : Int) < 8) = false := by simp; omega
  have e1 : (S != 0) = true := by simpa using hne
  go_enter Tryz.func51, Tryz.ntmps51
  go_upto_region 1 with fail
  have bp := ((Blk.new w 54 Z4).alloc (.cells (A4 h0 h1 h2 h3 h4 h5) 52)).alloc (.cells Z0 54)
  have bh := (Blk.new (w.alloc (.cells Z4 54)) 52 (A4 h0 h1 h2 h3 h4 h5)).alloc (.cells Z0 54)
  have bk := Blk.new ((w.alloc (.cells Z4 54)).alloc (.cells (A4 h0 h1 h2 h3 h4 h5) 52)) 54 Z0
  rw [show (w.alloc (.cells Z4 54)).heap.size = w.heap.size + 1 by simp] at bh
  rw [show ((w.alloc (.cells Z4 54)).alloc (.cells (A4 h0 h1 h2 h3 h4 h5) 52)).heap.size = w.heap.size + 2 by simp] at bk
  have bel : Below w.heap.size w (((w.alloc (.cells Z4 54)).alloc (.cells (A4 h0 h1 h2 h3 h4 h5) 52)).alloc (.cells Z0 54)) := ((bel_alloc _ _).alloc (by simp) _).alloc (by simp; omega) _
  generalize (((w.alloc (.cells Z4 54)).alloc (.cells (A4 h0 h1 h2 h3 h4 h5) 52)).alloc (.cells Z0 54)) = W at *
  go_wp2_with fail
  refine (hsm.out _ bel).mono ?_
  rintro e w' ⟨rfl, rfl⟩
  go_wp2_with (refine wpList_stRow rfl rfl rfl rfl rfl bk rpt_size rfl (by simp [Value.oneCell', Pt.z, Hd.z, portsP]) ?_)
  exact bodyPost_ret (results_row2 rfl _ rfl (bk.setRow _) Tryz.underlying54 rpt_size) rfl ⟨rfl, below_setRow bel (by omega) _⟩
 replace hnf := Lib.hid (hnf h8 rfl)
 have d1 : decide (len < 8) = false := by simp; omega
 have d2 : decide ((len : Int) < 8) = false := by simp; omega
 obtain ⟨b, o, rfl⟩ := hr.form (by omega)
 obtain ⟨c0, x0⟩ := hrB.cell0 (by omega)
 obtain ⟨c1, x1⟩ := hrB.cell 1 (by omega)
 replace x0 := inr_u8 x0
 replace x1 := inr_u8 x1
 rw [hf0] at c0 x0
 rw [hf1] at c1 x1
 clear hf0 hf1
 have y0 := cell_lt c0
 simp only at y0
 have z0 : ∀ t : Tw (fun w' => Below w.heap.size w w'), t.w.cell? ⟨b, o, none⟩ = some (.int .u8 f0) := fun t => (t.h.cell (p := ⟨b, o, none⟩) (cell_lt c0)).trans c0
 have z1 : ∀ t : Tw (fun w' => Below w.heap.size w w'), t.w.cell? ⟨b, o + 1, none⟩ = some (.int .u8 f1) := fun t => (t.h.cell (p := ⟨b, o + 1, none⟩) (cell_lt c1)).trans c1
 clear c0 c1
 replace hcs := Lib.hid hcs
 go_enter Tryz.func51, Tryz.ntmps51
 go_upto_region 1 with fail
 have bp := ((Blk.new w 54 Z4).alloc (.cells (A4 h0 h1 h2 h3 h4 h5) 52)).alloc (.cells Z0 54)
 have bh := (Blk.new (w.alloc (.cells Z4 54)) 52 (A4 h0 h1 h2 h3 h4 h5)).alloc (.cells Z0 54)
 have bk := Blk.new ((w.alloc (.cells Z4 54)).alloc (.cells (A4 h0 h1 h2 h3 h4 h5) 52)) 54 Z0
 rw [show (w.alloc (.cells Z4 54)).heap.size = w.heap.size + 1 by simp] at bh
 rw [show ((w.alloc (.cells Z4 54)).alloc (.cells (A4 h0 h1 h2 h3 h4 h5) 52)).heap.size = w.heap.size + 2 by simp] at bk
 have bel : Below w.heap.size w (((w.alloc (.cells Z4 54)).alloc (.cells (A4 h0 h1 h2 h3 h4 h5) 52)).alloc (.cells Z0 54)) := ((bel_alloc _ _).alloc (by simp) _).alloc (by simp; omega) _
 generalize (((w.alloc (.cells Z4 54)).alloc (.cells (A4 h0 h1 h2 h3 h4 h5) 52)).alloc (.cells Z0 54)) = W at *
 go_wp2_with fail
 refine (hsm.out _ bel).mono ?_
 rintro e w' ⟨rfl, rfl⟩
 go_upto_region 5 with fail
 have : Nonempty (Tw (fun w' => Below w.heap.size w w')) := ⟨⟨_, bel⟩⟩
 refine wp_region_plan (fun w' => Below w.heap.size w w') [(0, true), (1, true), (2, true), (3, true), (4, true), (5, true), (6, true), (7, true), (8, true), (9, false), (10, true), (11, false)] (by kernel_rfl) (by kernel_rfl) (by kernel_rfl) (by kernel_rfl) bel.drew ?_
 replace bp := bp.drew
 replace bh := bh.drew
 replace bk := bk.drew
 replace bel := bel.drew
 generalize W.drew = W1 at *
 refine wpPl_qs 9 _ _ _ (by kernel_rfl) (by kernel_rfl) (by simp) ?_
 unfold clsS
 simp only [qq1, qq2, qq3, qq4, List.filterMap_cons, qq6, qq7, qq8, qq9]
 repeat (first | go_big_quiet_skip | (go_big_quiet_want; go_big_quiet_op; go_big_quiet_on) | refine id (?_ : wpQuiet _ _ _ _ (_ :: _) _))
 refine wpQuiet_nil ?_
 have q4 := bp.cell 4
 have r4 := bp.frozen 4
 refine wpPl_e _ (by rfl) (by kernel_rfl) (fun K hK => ?_)
 go_simp
 replace bh := bh.far (p := ⟨w.heap.size, 4, none⟩) (by show w.heap.size + 1 ≠ w.heap.size; omega) (.int .i64 f0)
 replace bk := bk.far (p := ⟨w.heap.size, 4, none⟩) (by show w.heap.size + 2 ≠ w.heap.size; omega) (.int .i64 f0)
 replace bel := bel.setCell (p := ⟨w.heap.size, 4, none⟩) (Nat.le_refl _) (.int .i64 f0)
 replace bp := bp.set_ 4 (.int .i64 f0)
 clear q4 r4
 refine hK _ _ bel ?_
 clear hK K
 refine wpPl_qs 1 _ _ _ (by kernel_rfl) (by kernel_rfl) (by simp) ?_
 unfold clsS
 simp only [qq1, qq2, qq3, qq4, List.filterMap_cons, qq6, qq7, qq8, qq9]
 repeat (first | go_big_quiet_skip | (go_big_quiet_want; go_big_quiet_op; go_big_quiet_on) | refine id (?_ : wpQuiet _ _ _ _ (_ :: _) _))
 refine wpQuiet_nil ?_
 have q5 := bp.cell 5
 have r5 := bp.frozen 5
 refine wpPl_e _ (by rfl) (by kernel_rfl) (fun K hK => ?_)
 go_simp
 replace bh := bh.far (p := ⟨w.heap.size, 5, none⟩) (by show w.heap.size + 1 ≠ w.heap.size; omega) (.int .i64 f1)
 replace bk := bk.far (p := ⟨w.heap.size, 5, none⟩) (by show w.heap.size + 2 ≠ w.heap.size; omega) (.int .i64 f1)
 replace bel := bel.setCell (p := ⟨w.heap.size, 5, none⟩) (Nat.le_refl _) (.int .i64 f1)
 replace bp := bp.set_ 5 (.int .i64 f1)
 clear q5 r5
 refine hK _ _ bel ?_
 clear hK K
 unfold wpPl
 refine NoPanic.normal ?_
 simp only [List.setIfInBounds_toArray, List.set_cons_succ, List.set_cons_zero] at bp
 generalize ((W1.setCell ⟨w.heap.size, 4, none⟩ (.int .i64 f0)).setCell ⟨w.heap.size, 5, none⟩ (.int .i64 f1)) = W2 at *
 replace hcs := hcs.out
 clear z0 z1
 have q4 := bp.cell 4
 have q5 := bp.cell 5
 have hN4b := n2_bd (l := l) (fun x hx => inr_u8 (hr.rng x hx)) (i := 4) (by rw [hr.len]; omega)
 have hPv : ∀ k, (portsP { Pt.z with proto := 1, kind := k, code := 0 } l 4 4).val = .agg (A0 1 (n2 l 4) (n2 l 4) 0 k 0 false 0 0 0 0 0 0 0 false) := fun k => rfl
 go_wp2_with fail
 refine (Num_any (seg l 4 2) _ 2 (c - 4) _ W2 (by omega) ((hrB.below bel).sub 4 2 (by omega))).mono ?_
 rw [show numOf (seg l 4 2) = n2 l 4 from rfl]
 obtain ⟨N4, hN4⟩ : ∃ N, N = n2 l 4 := ⟨_, rfl⟩
 rw [← hN4] at hN4b ⊢
 simp only [← hN4] at hPv
 replace hN4 := Lib.hid hN4
 replace hPv := Lib.hid hPv
 rintro e w' ⟨rfl, rfl⟩
 rcases hcs with ⟨rfl | rfl, ⟨hne, rfl⟩ | ⟨rfl, rfl⟩⟩ | ⟨hf, hR⟩ | ⟨n0, n8, n3, n11, n12, rfl⟩
 ·have e1 : (f1 != 0) = true := by simpa using hne
  go_wp2_with (refine wpList_stRow rfl rfl rfl rfl rfl bk rpt_size rfl (by simp [Value.oneCell', Pt.z, Hd.z, portsP]) ?_)
  exact bodyPost_ret (results_row2 rfl _ rfl (bk.setRow _) Tryz.underlying54 rpt_size) rfl ⟨rfl, below_setRow bel (by omega) _⟩
 ·have q1 := bp.cell 1
  have q2 := bp.cell 2
  have r := bp.frozen
  go_upto_region 13 with fail
  clear q1 q2 q4 q5 r
  replace bk := (bk.far (p := ⟨w.heap.size, 1, none⟩) (by show w.heap.size + 2 ≠ w.heap.size; omega) (.int .u16 N4)).far (p := ⟨w.heap.size, 2, none⟩) (by show w.heap.size + 2 ≠ w.heap.size; omega) (.int .u16 N4)
  replace bel := (bel.setCell (p := ⟨w.heap.size, 1, none⟩) (Nat.le_refl _) (.int .u16 N4)).setCell (p := ⟨w.heap.size, 2, none⟩) (Nat.le_refl _) (.int .u16 N4)
  replace bp := (bp.set_ 1 (.int .u16 N4)).set_ 2 (.int .u16 N4)
  simp only [List.setIfInBounds_toArray, List.set_cons_succ, List.set_cons_zero] at bp
  generalize ((W2.setCell ⟨w.heap.size, 1, none⟩ (.int .u16 N4)).setCell ⟨w.heap.size, 2, none⟩ (.int .u16 N4)) = W3 at *
  go_wp2_with (first
   | (refine wpList_ldRow rfl rfl rfl bp Tryz.underlying54 rpt_size ?_)
   | (refine wpList_stRow rfl rfl rfl rfl rfl bk rpt_size rfl (by simp [Value.oneCell']) ?_))
  refine bodyPost_ret (results_row2 rfl _ rfl (bk.setRow _) Tryz.underlying54 rpt_size) rfl ⟨?_, below_setRow bel (by omega) _⟩
  exact congrArg (fun x => Ending.returned (.tuple #[x, .int .i64 0])) (hPv.out 0).symm
 ·have e1 : (f1 != 0) = true := by simpa using hne
  go_wp2_with (refine wpList_stRow rfl rfl rfl rfl rfl bk rpt_size rfl (by simp [Value.oneCell', Pt.z, Hd.z, portsP]) ?_)
  exact bodyPost_ret (results_row2 rfl _ rfl (bk.setRow _) Tryz.underlying54 rpt_size) rfl ⟨rfl, below_setRow bel (by omega) _⟩
 ·have q1 := bp.cell 1
  have q2 := bp.cell 2
  have r := bp.frozen
  go_upto_region 13 with fail
  clear q1 q2 q4 q5 r
  replace bk := (bk.far (p := ⟨w.heap.size, 1, none⟩) (by show w.heap.size + 2 ≠ w.heap.size; omega) (.int .u16 N4)).far (p := ⟨w.heap.size, 2, none⟩) (by show w.heap.size + 2 ≠ w.heap.size; omega) (.int .u16 N4)
  replace bel := (bel.setCell (p := ⟨w.heap.size, 1, none⟩) (Nat.le_refl _) (.int .u16 N4)).setCell (p := ⟨w.heap.size, 2, none⟩) (Nat.le_refl _) (.int .u16 N4)
  replace bp := (bp.set_ 1 (.int .u16 N4)).set_ 2 (.int .u16 N4)
  simp only [List.setIfInBounds_toArray, List.set_cons_succ, List.set_cons_zero] at bp
  generalize ((W2.setCell ⟨w.heap.size, 1, none⟩ (.int .u16 N4)).setCell ⟨w.heap.size, 2, none⟩ (.int .u16 N4)) = W3 at *
  go_wp2_with (first
   | (refine wpList_ldRow rfl rfl rfl bp Tryz.underlying54 rpt_size ?_)
   | (refine wpList_stRow rfl rfl rfl rfl rfl bk rpt_size rfl (by simp [Value.oneCell']) ?_))
  refine bodyPost_ret (results_row2 rfl _ rfl (bk.setRow _) Tryz.underlying54 rpt_size) rfl ⟨?_, below_setRow bel (by omega) _⟩
  exact congrArg (fun x => Ending.returned (.tuple #[x, .int .i64 0])) (hPv.out 8).symm
 ·exact absurd hf hnf.out
 ·have e1 : (f0 == 0) = false := by simpa using n0
  have e2 : (f0 == 8) = false := by simpa using n8
  have e3 : (f0 == 3) = false := by simpa using n3
  have e4 : (f0 == 11) = false := by simpa using n11
  have e5 : (f0 == 12) = false := by simpa using n12
  go_wp2_with (refine wpList_stRow rfl rfl rfl rfl rfl bk rpt_size rfl (by simp [Value.oneCell', Pt.z, Hd.z, portsP]) ?_)
  exact bodyPost_ret (results_row2 rfl _ rfl (bk.setRow _) Tryz.underlying54 rpt_size) rfl ⟨rfl, below_setRow bel (by omega) _⟩
theorem ricmp_bad (h : Hd) (l : List Int) (A : Option Addr) (len c B : Nat) (w : World) (hr : Rd .u8 w B A len l) (hB : B ≤ w.heap.size) (hlc : len ≤ c) (hcm : c ≤ 9223372036854775807) (hl : len ≤ 100000) (hh : 0 ≤ h.size ∧ h.size ≤ 1000)
  (h8 : 8 ≤ l.length) (hS : sumOf l = 0) (hf : l.getD 0 0 = 3 ∨ l.getD 0 0 = 11 ∨ l.getD 0 0 = 12) (hbad : ¬ (partE (l.drop 8) = 0 ∧ 8 ≤ ((l.drop 8).length : Int) - (hdOf (l.drop 8)).size ∧ (hdOf (l.drop 8)).size + 8 ≤ (hdOf (l.drop 8)).len)) :
  Calls Tryz.prog 51 #[.agg Z4, h.val, .slice A len c] w (Tells w (faultR { Pt.z with proto := 1, kind := l.getD 0 0, code := l.getD 1 0 } (h.size + 8) (l.drop 8))) := by
 rw [hr.len] at h8
 have hrB := hr.more hB
 have hsm := fun w' (hb : Below w.heap.size w w') => rOf_any l A len c _ w' hl (hrB.below hb)
 rw [hS] at hsm
 have hcs := faultR_cases { Pt.z with proto := 1, kind := l.getD 0 0, code := l.getD 1 0 } (h.size + 8) (l.drop 8) rfl
 have hok := fun h => partE_ok (l := l.drop 8) h
 rw [List.length_drop, hr.len] at hcs hok hbad
 replace hbad := Lib.hid hbad
 obtain ⟨h0, h1, h2, h3, h4, h5⟩ := h
 unfold Hd.val Tells
 simp only at hh hcs ⊢
 generalize hf0 : l.getD 0 0 = f0 at *
 generalize hf1 : l.getD 1 0 = f1 at *
 obtain ⟨R, hR⟩ : ∃ R, R = faultR { Pt.z with proto := 1, kind := f0, code := f1 } (h0 + 8) (l.drop 8) := ⟨_, rfl⟩
 rw [← hR] at hcs ⊢
 replace hsm := Lib.hid hsm
 clear hR hS
 have d1 : decide (len < 8) = false := by simp; omega
 have d2 : decide ((len : Int) < 8) = false := by simp; omega
 obtain ⟨b, o, rfl⟩ := hr.form (by omega)
 obtain ⟨c0, x0⟩ := hrB.cell0 (by omega)
 obtain ⟨c1, x1⟩ := hrB.cell 1 (by omega)
 replace x0 := inr_u8 x0
 replace x1 := inr_u8 x1
 rw [hf0] at c0 x0
 rw [hf1] at c1 x1
 clear hf0 hf1
 have y0 := cell_lt c0
 simp only at y0
 have z0 : ∀ t : Tw (fun w' => Below w.heap.size w w'), t.w.cell? ⟨b, o, none⟩ = some (.int .u8 f0) := fun t => (t.h.cell (p := ⟨b, o, none⟩) (cell_lt c0)).trans c0
 have z1 : ∀ t : Tw (fun w' => Below w.heap.size w w'), t.w.cell? ⟨b, o + 1, none⟩ = some (.int .u8 f1) := fun t => (t.h.cell (p := ⟨b, o + 1, none⟩) (cell_lt c1)).trans c1
 clear c0 c1
 have hf1 : (f0 == 0) = false := by simp; omega
 have hf2 : (f0 == 8) = false := by simp; omega
 replace hf := Lib.hid hf
 replace hcs := Lib.hid hcs
 obtain ⟨A2, hA2, hr2⟩ := hrB.cut (m := 8) (cap := c) (by omega) (by omega)
 replace hA2 : (if c = 8 then some ⟨b, o, none⟩ else some ⟨b, o + 8, none⟩) = A2 := by rw [← hA2]; simp [Addr.add]
 replace hA2 := Lib.hid hA2
 have hgt := fun w' (hb : Below w.heap.size w w') => rGet_any (l.drop 8) true A2 (len - 8) (c - 8) _ w' ((hr2.below hb).more hb.size) (Nat.le_refl _) (by omega) (by omega) (by omega)
 simp only [getP, if_true, hdIf] at hgt
 clear hr2
 go_enter Tryz.func51, Tryz.ntmps51
 go_upto_region 1 with fail
 have bp := ((Blk.new w 54 Z4).alloc (.cells (A4 h0 h1 h2 h3 h4 h5) 52)).alloc (.cells Z0 54)
 have bh := (Blk.new (w.alloc (.cells Z4 54)) 52 (A4 h0 h1 h2 h3 h4 h5)).alloc (.cells Z0 54)
 have bk := Blk.new ((w.alloc (.cells Z4 54)).alloc (.cells (A4 h0 h1 h2 h3 h4 h5) 52)) 54 Z0
 rw [show (w.alloc (.cells Z4 54)).heap.size = w.heap.size + 1 by simp] at bh
 rw [show ((w.alloc (.cells Z4 54)).alloc (.cells (A4 h0 h1 h2 h3 h4 h5) 52)).heap.size = w.heap.size + 2 by simp] at bk
 have bel : Below w.heap.size w (((w.alloc (.cells Z4 54)).alloc (.cells (A4 h0 h1 h2 h3 h4 h5) 52)).alloc (.cells Z0 54)) := ((bel_alloc _ _).alloc (by simp) _).alloc (by simp; omega) _
 generalize (((w.alloc (.cells Z4 54)).alloc (.cells (A4 h0 h1 h2 h3 h4 h5) 52)).alloc (.cells Z0 54)) = W at *
 go_wp2_with fail
 refine (hsm.out _ bel).mono ?_
 rintro e w' ⟨rfl, rfl⟩
 go_upto_region 5 with fail
 have : Nonempty (Tw (fun w' => Below w.heap.size w w')) := ⟨⟨_, bel⟩⟩
 refine wp_region_plan (fun w' => Below w.heap.size w w') [(0, true), (1, true), (2, true), (3, true), (4, true), (5, true), (6, true), (7, true), (8, true), (9, false), (10, true), (11, false)] (by kernel_rfl) (by kernel_rfl) (by kernel_rfl) (by kernel_rfl) bel.drew ?_
 replace bp := bp.drew
 replace bh := bh.drew
 replace bk := bk.drew
 replace bel := bel.drew
 generalize W.drew = W1 at *
 refine wpPl_qs 9 _ _ _ (by kernel_rfl) (by kernel_rfl) (by simp) ?_
 unfold clsS
 simp only [qq1, qq2, qq3, qq4, List.filterMap_cons, qq6, qq7, qq8, qq9]
 repeat (first | go_big_quiet_skip | (go_big_quiet_want; go_big_quiet_op; go_big_quiet_on) | refine id (?_ : wpQuiet _ _ _ _ (_ :: _) _))
 refine wpQuiet_nil ?_
 have q4 := bp.cell 4
 have r4 := bp.frozen 4
 refine wpPl_e _ (by rfl) (by kernel_rfl) (fun K hK => ?_)
 go_simp
 replace bh := bh.far (p := ⟨w.heap.size, 4, none⟩) (by show w.heap.size + 1 ≠ w.heap.size; omega) (.int .i64 f0)
 replace bk := bk.far (p := ⟨w.heap.size, 4, none⟩) (by show w.heap.size + 2 ≠ w.heap.size; omega) (.int .i64 f0)
 replace bel := bel.setCell (p := ⟨w.heap.size, 4, none⟩) (Nat.le_refl _) (.int .i64 f0)
 replace bp := bp.set_ 4 (.int .i64 f0)
 clear q4 r4
 refine hK _ _ bel ?_
 clear hK K
 refine wpPl_qs 1 _ _ _ (by kernel_rfl) (by kernel_rfl) (by simp) ?_
 unfold clsS
 simp only [qq1, qq2, qq3, qq4, List.filterMap_cons, qq6, qq7, qq8, qq9]
 repeat (first | go_big_quiet_skip | (go_big_quiet_want; go_big_quiet_op; go_big_quiet_on) | refine id (?_ : wpQuiet _ _ _ _ (_ :: _) _))
 refine wpQuiet_nil ?_
 have q5 := bp.cell 5
 have r5 := bp.frozen 5
 refine wpPl_e _ (by rfl) (by kernel_rfl) (fun K hK => ?_)
 go_simp
 replace bh := bh.far (p := ⟨w.heap.size, 5, none⟩) (by show w.heap.size + 1 ≠ w.heap.size; omega) (.int .i64 f1)
 replace bk := bk.far (p := ⟨w.heap.size, 5, none⟩) (by show w.heap.size + 2 ≠ w.heap.size; omega) (.int .i64 f1)
 replace bel := bel.setCell (p := ⟨w.heap.size, 5, none⟩) (Nat.le_refl _) (.int .i64 f1)
 replace bp := bp.set_ 5 (.int .i64 f1)
 clear q5 r5
 refine hK _ _ bel ?_
 clear hK K
 unfold wpPl
 refine NoPanic.normal ?_
 simp only [List.setIfInBounds_toArray, List.set_cons_succ, List.set_cons_zero] at bp
 generalize ((W1.setCell ⟨w.heap.size, 4, none⟩ (.int .i64 f0)).setCell ⟨w.heap.size, 5, none⟩ (.int .i64 f1)) = W2 at *
 replace hf := hf.out
 clear z0 z1
 have q4 := bp.cell 4
 have q5 := bp.cell 5
 have hN4b := n2_bd (l := l) (fun x hx => inr_u8 (hr.rng x hx)) (i := 4) (by rw [hr.len]; omega)
 go_wp2_with fail
 refine (Num_any (seg l 4 2) _ 2 (c - 4) _ W2 (by omega) ((hrB.below bel).sub 4 2 (by omega))).mono ?_
 rw [show numOf (seg l 4 2) = n2 l 4 from rfl]
 generalize n2 l 4 = N4 at *
 rintro e w' ⟨rfl, rfl⟩
 go_upto_if 48 with fail
 go_cut [48] (fun s48 wx => s48 = .bool true ∧ W2 = wx)
 case first =>
  rcases hf with rfl | rfl | rfl
  ·go_wp2_with fail
   go_meet
   exact ⟨rfl, rfl⟩
  ·go_wp2_with fail
   go_meet
   exact ⟨rfl, rfl⟩
  ·go_wp2_with fail
   go_meet
   exact ⟨rfl, rfl⟩
 case rest =>
  obtain ⟨rfl, rfl⟩ := hcut
  clear hf hf1 hf2 q4 q5 hsm hr hN4b
  replace hcs := hcs.out
  replace hA2 := hA2.out
  rcases hcs with ⟨he, hR⟩ | ⟨he, hcs⟩
  ·rw [if_neg he] at hgt
   clear hok hbad
   generalize partE (l.drop 8) = E at *
   replace hR := Lib.hid hR
   have e1 : (E != 0) = true := by simpa using he
   have hz : Hd.z.val = .agg Z1 := rfl
   rw [hz] at hgt
   replace hgt := Lib.hid hgt
   go_wp2_with fail
   refine (hgt.out _ bel).mono ?_
   rintro e w' ⟨rfl, hb⟩
   replace bk := bk.bel hb
   replace bh := bh.bel hb
   replace bp := bp.bel hb
   replace bel := bel_after bel hb
   clear hb
   have bkl := bk.lt
   go_wp2_with (first | (refine wpList_stRow rfl rfl rfl rfl rfl (Blk.new _ _ _) rhd_size rfl (by simp [Value.oneCell']) ?_; have by_ := (Blk.new w' 52 Z1).setRow Z1; replace bk := (bk.alloc (.cells Z1 52)).setRow_far (g' := w'.heap.size) (by have := bk.lt; omega) Z1; replace bh := (bh.alloc (.cells Z1 52)).setRow_far (g' := w'.heap.size) (by have := bh.lt; omega) Z1; replace bp := (bp.alloc (.cells Z1 52)).setRow_far (g' := w'.heap.size) (by have := bp.lt; omega) Z1; replace bel := below_setRow (bel.alloc bel.size (.cells Z1 52)) bel.size Z1; have hg3 : w.heap.size + 2 < w'.heap.size := (by have := bkl; omega); generalize (w'.alloc (.cells Z1 52)).setRow w'.heap.size Z1 = W3 at *; generalize w'.heap.size = g3 at *) | (refine wpList_stRow rfl rfl rfl rfl rfl bk rpt_size rfl (by simp [Value.oneCell', Pt.z, Hd.z, portsP]) ?_))
   refine bodyPost_ret (results_row2 rfl _ rfl (bk.setRow _) Tryz.underlying54 rpt_size) rfl ⟨?_, below_setRow bel (by omega) _⟩
   rw [hR.out]
   rfl
  have hk := hok he
  rw [if_pos he, he] at hgt
  clear hok
  obtain ⟨m, y1, y2, y3, y4, y5, hy⟩ : ∃ (m : Nat) (y1 y2 y3 y4 y5 : Int), hdOf (l.drop 8) = ⟨(m : Int), y1, y2, y3, y4, y5⟩ := ⟨(hdOf (l.drop 8)).size.toNat, _, _, _, _, _, by rw [Int.toNat_of_nonneg (by omega)]⟩
  rw [hy] at hgt hcs hk
  replace hy := Lib.hid hy
  simp only [Hd.val] at hgt
  simp only [Int.toNat_natCast, List.drop_drop] at hcs hk
  replace hgt := Lib.hid hgt
  obtain ⟨k, hk8⟩ : ∃ k : Nat, 8 + m = k := ⟨_, rfl⟩
  rw [hk8] at hcs
  have hk9 : 8 + (m : Int) = (k : Int) := by omega
  obtain ⟨A3, hA3, hr3⟩ := hrB.cut (m := k) (cap := c) (by omega) (by omega)
  replace hA3 : (if c = k then some ⟨b, o, none⟩ else some ⟨b, o + k, none⟩) = A3 := by have hk0 : (k = 0) = False := (by simp; omega); rw [← hA3]; simp [Addr.add, hk0]
  rcases hcs with ⟨hlt, rfl⟩ | ⟨hge, hlt, rfl⟩ | ⟨hge, hle, hcs⟩
  ·have d1 : decide (len - k < 8) = true := by simp; omega
   have d2 : decide (((len - k : Nat) : Int) < 8) = true := by simp; omega
   clear hlt
   go_wp2_with fail
   refine (hgt.out _ bel).mono ?_
   rintro e w' ⟨rfl, hb⟩
   replace bk := bk.bel hb
   replace bh := bh.bel hb
   replace bp := bp.bel hb
   replace bel := bel_after bel hb
   clear hb
   have bkl := bk.lt
   go_wp2_with (first | (refine wpList_stRow rfl rfl rfl rfl rfl (Blk.new _ _ _) rhd_size rfl (by simp [Value.oneCell']) ?_; have by_ := (Blk.new w' 52 Z1).setRow (A4 (m : Int) y1 y2 y3 y4 y5); replace bk := (bk.alloc (.cells Z1 52)).setRow_far (g' := w'.heap.size) (by have := bk.lt; omega) (A4 (m : Int) y1 y2 y3 y4 y5); replace bh := (bh.alloc (.cells Z1 52)).setRow_far (g' := w'.heap.size) (by have := bh.lt; omega) (A4 (m : Int) y1 y2 y3 y4 y5); replace bp := (bp.alloc (.cells Z1 52)).setRow_far (g' := w'.heap.size) (by have := bp.lt; omega) (A4 (m : Int) y1 y2 y3 y4 y5); replace bel := below_setRow (bel.alloc bel.size (.cells Z1 52)) bel.size (A4 (m : Int) y1 y2 y3 y4 y5); have hg3 : w.heap.size + 2 < w'.heap.size := (by have := bkl; omega); generalize (w'.alloc (.cells Z1 52)).setRow w'.heap.size (A4 (m : Int) y1 y2 y3 y4 y5) = W3 at *; generalize w'.heap.size = g3 at *; have q0 := by_.cell 0; have q1 := by_.cell 1; have q3 := by_.cell 3) | (refine wpList_stRow rfl rfl rfl rfl rfl bk rpt_size rfl (by simp [Value.oneCell', Pt.z, Hd.z, portsP]) ?_))
   exact bodyPost_ret (results_row2 rfl _ rfl (bk.setRow _) Tryz.underlying54 rpt_size) rfl ⟨rfl, below_setRow bel (by omega) _⟩
  ·have d1 : decide (len - k < 8) = false := by simp; omega
   have d2 : decide (((len - k : Nat) : Int) < 8) = false := by simp; omega
   have d3 : decide (y1 < (m : Int) + 8) = true := by simp; omega
   clear hlt
   go_wp2_with fail
   refine (hgt.out _ bel).mono ?_
   rintro e w' ⟨rfl, hb⟩
   replace bk := bk.bel hb
   replace bh := bh.bel hb
   replace bp := bp.bel hb
   replace bel := bel_after bel hb
   clear hb
   have bkl := bk.lt
   go_wp2_with (first | (refine wpList_stRow rfl rfl rfl rfl rfl (Blk.new _ _ _) rhd_size rfl (by simp [Value.oneCell']) ?_; have by_ := (Blk.new w' 52 Z1).setRow (A4 (m : Int) y1 y2 y3 y4 y5); replace bk := (bk.alloc (.cells Z1 52)).setRow_far (g' := w'.heap.size) (by have := bk.lt; omega) (A4 (m : Int) y1 y2 y3 y4 y5); replace bh := (bh.alloc (.cells Z1 52)).setRow_far (g' := w'.heap.size) (by have := bh.lt; omega) (A4 (m : Int) y1 y2 y3 y4 y5); replace bp := (bp.alloc (.cells Z1 52)).setRow_far (g' := w'.heap.size) (by have := bp.lt; omega) (A4 (m : Int) y1 y2 y3 y4 y5); replace bel := below_setRow (bel.alloc bel.size (.cells Z1 52)) bel.size (A4 (m : Int) y1 y2 y3 y4 y5); have hg3 : w.heap.size + 2 < w'.heap.size := (by have := bkl; omega); generalize (w'.alloc (.cells Z1 52)).setRow w'.heap.size (A4 (m : Int) y1 y2 y3 y4 y5) = W3 at *; generalize w'.heap.size = g3 at *; have q0 := by_.cell 0; have q1 := by_.cell 1; have q3 := by_.cell 3) | (refine wpList_stRow rfl rfl rfl rfl rfl bk rpt_size rfl (by simp [Value.oneCell', Pt.z, Hd.z, portsP]) ?_))
   exact bodyPost_ret (results_row2 rfl _ rfl (bk.setRow _) Tryz.underlying54 rpt_size) rfl ⟨rfl, below_setRow bel (by omega) _⟩
  ·exact absurd ⟨he, by rw [hy.out]; exact hge, by rw [hy.out]; exact hle⟩ hbad.out
theorem ricmp_ok (h : Hd) (l : List Int) (A : Option Addr) (len c B : Nat) (w : World) (hr : Rd .u8 w B A len l) (hB : B ≤ w.heap.size) (hlc : len ≤ c) (hcm : c ≤ 9223372036854775807) (hl : len ≤ 100000) (hh : 0 ≤ h.size ∧ h.size ≤ 1000)
  (h8 : 8 ≤ l.length) (hS : sumOf l = 0) (hf : l.getD 0 0 = 3 ∨ l.getD 0 0 = 11 ∨ l.getD 0 0 = 12) (hgood : partE (l.drop 8) = 0 ∧ 8 ≤ ((l.drop 8).length : Int) - (hdOf (l.drop 8)).size ∧ (hdOf (l.drop 8)).size + 8 ≤ (hdOf (l.drop 8)).len) :
  Calls Tryz.prog 51 #[.agg Z4, h.val, .slice A len c] w (Tells w (faultR { Pt.z with proto := 1, kind := l.getD 0 0, code := l.getD 1 0 } (h.size + 8) (l.drop 8))) := by
 rw [hr.len] at h8
 have hrB := hr.more hB
 have hsm := fun w' (hb : Below w.heap.size w w') => rOf_any l A len c _ w' hl (hrB.below hb)
 rw [hS] at hsm
 have hcs := faultR_cases { Pt.z with proto := 1, kind := l.getD 0 0, code := l.getD 1 0 } (h.size + 8) (l.drop 8) rfl
 have hok := fun h => partE_ok (l := l.drop 8) h
 rw [List.length_drop, hr.len] at hcs hok hgood
 replace hgood := Lib.hid hgood
 obtain ⟨h0, h1, h2, h3, h4, h5⟩ := h
 unfold Hd.val Tells
 simp only at hh hcs ⊢
 generalize hf0 : l.getD 0 0 = f0 at *
 generalize hf1 : l.getD 1 0 = f1 at *
 obtain ⟨R, hR⟩ : ∃ R, R = faultR { Pt.z with proto := 1, kind := f0, code := f1 } (h0 + 8) (l.drop 8) := ⟨_, rfl⟩
 rw [← hR] at hcs ⊢
 replace hsm := Lib.hid hsm
 clear hR hS
 have d1 : decide (len < 8) = false := by simp; omega
 have d2 : decide ((len : Int) < 8) = false := by simp; omega
 obtain ⟨b, o, rfl⟩ := hr.form (by omega)
 obtain ⟨c0, x0⟩ := hrB.cell0 (by omega)
 obtain ⟨c1, x1⟩ := hrB.cell 1 (by omega)
 replace x0 := inr_u8 x0
 replace x1 := inr_u8 x1
 rw [hf0] at c0 x0
 rw [hf1] at c1 x1
 clear hf0 hf1
 have y0 := cell_lt c0
 simp only at y0
 have z0 : ∀ t : Tw (fun w' => Below w.heap.size w w'), t.w.cell? ⟨b, o, none⟩ = some (.int .u8 f0) := fun t => (t.h.cell (p := ⟨b, o, none⟩) (cell_lt c0)).trans c0
 have z1 : ∀ t : Tw (fun w' => Below w.heap.size w w'), t.w.cell? ⟨b, o + 1, none⟩ = some (.int .u8 f1) := fun t => (t.h.cell (p := ⟨b, o + 1, none⟩) (cell_lt c1)).trans c1
 clear c0 c1
 have hf1 : (f0 == 0) = false := by simp; omega
 have hf2 : (f0 == 8) = false := by simp; omega
 replace hf := Lib.hid hf
 replace hcs := Lib.hid hcs
 obtain ⟨A2, hA2, hr2⟩ := hrB.cut (m := 8) (cap := c) (by omega) (by omega)
 replace hA2 : (if c = 8 then some ⟨b, o, none⟩ else some ⟨b, o + 8, none⟩) = A2 := by rw [← hA2]; simp [Addr.add]
 replace hA2 := Lib.hid hA2
 have hgt := fun w' (hb : Below w.heap.size w w') => rGet_any (l.drop 8) true A2 (len - 8) (c - 8) _ w' ((hr2.below hb).more hb.size) (Nat.le_refl _) (by omega) (by omega) (by omega)
 simp only [getP, if_true, hdIf] at hgt
 clear hr2
 go_enter Tryz.func51, Tryz.ntmps51
 go_upto_region 1 with fail
 have bp := ((Blk.new w 54 Z4).alloc (.cells (A4 h0 h1 h2 h3 h4 h5) 52)).alloc (.cells Z0 54)
 have bh := (Blk.new (w.alloc (.cells Z4 54)) 52 (A4 h0 h1 h2 h3 h4 h5)).alloc (.cells Z0 54)
 have bk := Blk.new ((w.alloc (.cells Z4 54)).alloc (.cells (A4 h0 h1 h2 h3 h4 h5) 52)) 54 Z0
 rw [show (w.alloc (.cells Z4 54)).heap.size = w.heap.size + 1 by simp] at bh
 rw [show ((w.alloc (.cells Z4 54)).alloc (.cells (A4 h0 h1 h2 h3 h4 h5) 52)).heap.size = w.heap.size + 2 by simp] at bk
 have bel : Below w.heap.size w (((w.alloc (.cells Z4 54)).alloc (.cells (A4 h0 h1 h2 h3 h4 h5) 52)).alloc (.cells Z0 54)) := ((bel_alloc _ _).alloc (by simp) _).alloc (by simp; omega) _
 generalize (((w.alloc (.cells Z4 54)).alloc (.cells (A4 h0 h1 h2 h3 h4 h5) 52)).alloc (.cells Z0 54)) = W at *
 go_wp2_with fail
 refine (hsm.out _ bel).mono ?_
 rintro e w' ⟨rfl, rfl⟩
 go_upto_region 5 with fail
 have : Nonempty (Tw (fun w' => Below w.heap.size w w')) := ⟨⟨_, bel⟩⟩
 refine wp_region_plan (fun w' => Below w.heap.size w w') [(0, true), (1, true), (2, true), (3, true), (4, true), (5, true), (6, true), (7, true), (8, true), (9, false), (10, true), (11, false)] (by kernel_rfl) (by kernel_rfl) (by kernel_rfl) (by kernel_rfl) bel.drew ?_
 replace bp := bp.drew
 replace bh := bh.drew
 replace bk := bk.drew
 replace bel := bel.drew
 generalize W.drew = W1 at *
 refine wpPl_qs 9 _ _ _ (by kernel_rfl) (by kernel_rfl) (by simp) ?_
 unfold clsS
 simp only [qq1, qq2, qq3, qq4, List.filterMap_cons, qq6, qq7, qq8, qq9]
 repeat (first | go_big_quiet_skip | (go_big_quiet_want; go_big_quiet_op; go_big_quiet_on) | refine id (?_ : wpQuiet _ _ _ _ (_ :: _) _))
 refine wpQuiet_nil ?_
 have q4 := bp.cell 4
 have r4 := bp.frozen 4
 refine wpPl_e _ (by rfl) (by kernel_rfl) (fun K hK => ?_)
 go_simp
 replace bh := bh.far (p := ⟨w.heap.size, 4, none⟩) (by show w.heap.size + 1 ≠ w.heap.size; omega) (.int .i64 f0)
 replace bk := bk.far (p := ⟨w.heap.size, 4, none⟩) (by show w.heap.size + 2 ≠ w.heap.size; omega) (.int .i64 f0)
 replace bel := bel.setCell (p := ⟨w.heap.size, 4, none⟩) (Nat.le_refl _) (.int .i64 f0)
 replace bp := bp.set_ 4 (.int .i64 f0)
 clear q4 r4
 refine hK _ _ bel ?_
 clear hK K
 refine wpPl_qs 1 _ _ _ (by kernel_rfl) (by kernel_rfl) (by simp) ?_
 unfold clsS
 simp only [qq1, qq2, qq3, qq4, List.filterMap_cons, qq6, qq7, qq8, qq9]
 repeat (first | go_big_quiet_skip | (go_big_quiet_want; go_big_quiet_op; go_big_quiet_on) | refine id (?_ : wpQuiet _ _ _ _ (_ :: _) _))
 refine wpQuiet_nil ?_
 have q5 := bp.cell 5
 have r5 := bp.frozen 5
 refine wpPl_e _ (by rfl) (by kernel_rfl) (fun K hK => ?_)
 go_simp
 replace bh := bh.far (p := ⟨w.heap.size, 5, none⟩) (by show w.heap.size + 1 ≠ w.heap.size; omega) (.int .i64 f1)
 replace bk := bk.far (p := ⟨w.heap.size, 5, none⟩) (by show w.heap.size + 2 ≠ w.heap.size; omega) (.int .i64 f1)
 replace bel := bel.setCell (p := ⟨w.heap.size, 5, none⟩) (Nat.le_refl _) (.int .i64 f1)
 replace bp := bp.set_ 5 (.int .i64 f1)
 clear q5 r5
 refine hK _ _ bel ?_
 clear hK K
 unfold wpPl
 refine NoPanic.normal ?_
 simp only [List.setIfInBounds_toArray, List.set_cons_succ, List.set_cons_zero] at bp
 generalize ((W1.setCell ⟨w.heap.size, 4, none⟩ (.int .i64 f0)).setCell ⟨w.heap.size, 5, none⟩ (.int .i64 f1)) = W2 at *
 replace hf := hf.out
 clear z0 z1
 have q4 := bp.cell 4
 have q5 := bp.cell 5
 have hN4b := n2_bd (l := l) (fun x hx => inr_u8 (hr.rng x hx)) (i := 4) (by rw [hr.len]; omega)
 go_wp2_with fail
 refine (Num_any (seg l 4 2) _ 2 (c - 4) _ W2 (by omega) ((hrB.below bel).sub 4 2 (by omega))).mono ?_
 rw [show numOf (seg l 4 2) = n2 l 4 from rfl]
 generalize n2 l 4 = N4 at *
 rintro e w' ⟨rfl, rfl⟩
 go_upto_if 48 with fail
 go_cut [48] (fun s48 wx => s48 = .bool true ∧ W2 = wx)
 case first =>
  rcases hf with rfl | rfl | rfl
  ·go_wp2_with fail
   go_meet
   exact ⟨rfl, rfl⟩
  ·go_wp2_with fail
   go_meet
   exact ⟨rfl, rfl⟩
  ·go_wp2_with fail
   go_meet
   exact ⟨rfl, rfl⟩
 case rest =>
  obtain ⟨rfl, rfl⟩ := hcut
  clear hf hf1 hf2 q4 q5 hsm hr hN4b
  replace hcs := hcs.out
  replace hA2 := hA2.out
  obtain ⟨he, hge, hle⟩ := hgood.out
  clear hgood
  replace hcs := (hcs.resolve_left (fun h => h.1 he)).2
  have hk := hok he
  rw [if_pos he, he] at hgt
  clear hok
  obtain ⟨m, y1, y2, y3, y4, y5, hy⟩ : ∃ (m : Nat) (y1 y2 y3 y4 y5 : Int), hdOf (l.drop 8) = ⟨(m : Int), y1, y2, y3, y4, y5⟩ := ⟨(hdOf (l.drop 8)).size.toNat, _, _, _, _, _, by rw [Int.toNat_of_nonneg (by omega)]⟩
  rw [hy] at hgt hcs hk hge hle
  clear hy he
  simp only [Hd.val] at hgt
  simp only [Int.toNat_natCast, List.drop_drop] at hcs hk hge hle
  replace hgt := Lib.hid hgt
  obtain ⟨k, hk8⟩ : ∃ k : Nat, 8 + m = k := ⟨_, rfl⟩
  rw [hk8] at hcs
  have hk9 : 8 + (m : Int) = (k : Int) := by omega
  replace hcs := ((hcs.resolve_left (fun h => by omega)).resolve_left (fun h => by omega)).2.2
  have hcm1 : (c = k) = False := by simp; omega
  have hcm8 : (c = 8) = False := by simp; omega
  rw [if_neg (by omega)] at hA2
  subst hA2
  have d1 : decide (len - k < 8) = false := by simp; omega
  have d2 : decide (((len - k : Nat) : Int) < 8) = false := by simp; omega
  have d3 : decide (y1 < (m : Int) + 8) = false := by simp; omega
  have hr3 := fun w' (hb : Below w.heap.size w w') => (((hrB.below hb).more hb.size).sub k (len - k) (by omega))
  rw [show seg l k (len - k) = l.drop k by unfold seg; rw [List.take_of_length_le]; rw [List.length_drop, hrB.len]; exact Nat.le_refl _] at hr3
  obtain ⟨L, hL⟩ : ∃ L, L = l.drop k := ⟨_, rfl⟩
  rw [← hL] at hcs hr3
  clear hL
  replace hcs := Lib.hid hcs
  replace hr3 := Lib.hid hr3
  go_wp2_with fail
  refine (hgt.out _ bel).mono ?_
  rintro e w' ⟨rfl, hb⟩
  replace bk := bk.bel hb
  replace bh := bh.bel hb
  replace bp := bp.bel hb
  replace bel := bel_after bel hb
  clear hb
  have bkl := bk.lt
  go_upto_region 23 with (refine wpList_stRow rfl rfl rfl rfl rfl (Blk.new _ _ _) rhd_size rfl (by simp [Value.oneCell']) ?_; have by_ := (Blk.new w' 52 Z1).setRow (A4 (m : Int) y1 y2 y3 y4 y5); replace bk := (bk.alloc (.cells Z1 52)).setRow_far (g' := w'.heap.size) (by have := bk.lt; omega) (A4 (m : Int) y1 y2 y3 y4 y5); replace bh := (bh.alloc (.cells Z1 52)).setRow_far (g' := w'.heap.size) (by have := bh.lt; omega) (A4 (m : Int) y1 y2 y3 y4 y5); replace bp := (bp.alloc (.cells Z1 52)).setRow_far (g' := w'.heap.size) (by have := bp.lt; omega) (A4 (m : Int) y1 y2 y3 y4 y5); replace bel := below_setRow (bel.alloc bel.size (.cells Z1 52)) bel.size (A4 (m : Int) y1 y2 y3 y4 y5); have hg3 : w.heap.size + 2 < w'.heap.size := (by have := bkl; omega); generalize (w'.alloc (.cells Z1 52)).setRow w'.heap.size (A4 (m : Int) y1 y2 y3 y4 y5) = W3 at *; generalize w'.heap.size = g3 at *; have q0 := by_.cell 0; have q1 := by_.cell 1; have q3 := by_.cell 3)
  clear q0 q1 q3
  have z0 : ∀ t : Tw (fun w' => Blk w' g3 52 (A4 (m : Int) y1 y2 y3 y4 y5) ∧ Blk w' (w.heap.size + 1) 52 (A4 h0 h1 h2 h3 h4 h5)), t.w.cell? ⟨g3, 0, none⟩ = some (.int .i64 (m : Int)) := fun t => t.h.1.cell 0
  have z1 : ∀ t : Tw (fun w' => Blk w' g3 52 (A4 (m : Int) y1 y2 y3 y4 y5) ∧ Blk w' (w.heap.size + 1) 52 (A4 h0 h1 h2 h3 h4 h5)), t.w.cell? ⟨g3, 1, none⟩ = some (.int .i64 y1) := fun t => t.h.1.cell 1
  have z2 : ∀ t : Tw (fun w' => Blk w' g3 52 (A4 (m : Int) y1 y2 y3 y4 y5) ∧ Blk w' (w.heap.size + 1) 52 (A4 h0 h1 h2 h3 h4 h5)), t.w.cell? ⟨g3, 2, none⟩ = some (.int .i64 y2) := fun t => t.h.1.cell 2
  have z3 : ∀ t : Tw (fun w' => Blk w' g3 52 (A4 (m : Int) y1 y2 y3 y4 y5) ∧ Blk w' (w.heap.size + 1) 52 (A4 h0 h1 h2 h3 h4 h5)), t.w.cell? ⟨g3, 3, none⟩ = some (.int .i64 y3) := fun t => t.h.1.cell 3
  have z4 : ∀ t : Tw (fun w' => Blk w' g3 52 (A4 (m : Int) y1 y2 y3 y4 y5) ∧ Blk w' (w.heap.size + 1) 52 (A4 h0 h1 h2 h3 h4 h5)), t.w.cell? ⟨g3, 4, none⟩ = some (.int .u32 y4) := fun t => t.h.1.cell 4
  have z5 : ∀ t : Tw (fun w' => Blk w' g3 52 (A4 (m : Int) y1 y2 y3 y4 y5) ∧ Blk w' (w.heap.size + 1) 52 (A4 h0 h1 h2 h3 h4 h5)), t.w.cell? ⟨g3, 5, none⟩ = some (.int .u32 y5) := fun t => t.h.1.cell 5
  have v0 : ∀ t : Tw (fun w' => Blk w' g3 52 (A4 (m : Int) y1 y2 y3 y4 y5) ∧ Blk w' (w.heap.size + 1) 52 (A4 h0 h1 h2 h3 h4 h5)), t.w.cell? ⟨w.heap.size + 1, 0, none⟩ = some (.int .i64 h0) := fun t => t.h.2.cell 0
  clear this
  have : Nonempty (Tw (fun w' => Blk w' g3 52 (A4 (m : Int) y1 y2 y3 y4 y5) ∧ Blk w' (w.heap.size + 1) 52 (A4 h0 h1 h2 h3 h4 h5))) := ⟨⟨_, by_, bh⟩⟩
  refine wp_region_plan (fun w' => Blk w' g3 52 (A4 (m : Int) y1 y2 y3 y4 y5) ∧ Blk w' (w.heap.size + 1) 52 (A4 h0 h1 h2 h3 h4 h5)) [(0, true), (1, true), (2, true), (3, true), (4, true), (5, false), (6, true), (7, false), (8, true), (9, false)] (by kernel_rfl) (by kernel_rfl) (by kernel_rfl) (by kernel_rfl) ⟨by_.drew, bh.drew⟩ ?_
  replace bp := bp.drew
  replace bh := bh.drew
  replace by_ := by_.drew
  replace bk := bk.drew
  replace bel := bel.drew
  generalize W3.drew = W4 at *
  refine wpPl_qs 5 _ _ _ (by kernel_rfl) (by kernel_rfl) (by simp) ?_
  unfold clsS
  simp only [qq1, qq2, qq3, qq4, List.filterMap_cons, qq6, qq7, qq8, qq9]
  repeat (first | go_big_quiet_skip | (go_big_quiet_want; go_big_quiet_op; go_big_quiet_on) | refine id (?_ : wpQuiet _ _ _ _ (_ :: _) _))
  refine wpQuiet_nil ?_
  have q6 := bp.cell 6
  have r6 := bp.frozen 6
  refine wpPl_e _ (by rfl) (by kernel_rfl) (fun K hK => ?_)
  go_simp
  replace by_ := by_.far (p := ⟨w.heap.size, 6, none⟩) (by show g3 ≠ w.heap.size; omega) (.bool true)
  replace bh := bh.far (p := ⟨w.heap.size, 6, none⟩) (by show w.heap.size + 1 ≠ w.heap.size; omega) (.bool true)
  replace bk := bk.far (p := ⟨w.heap.size, 6, none⟩) (by show w.heap.size + 2 ≠ w.heap.size; omega) (.bool true)
  replace bel := bel.setCell (p := ⟨w.heap.size, 6, none⟩) (Nat.le_refl _) (.bool true)
  replace bp := bp.set_ 6 (.bool true)
  clear q6 r6
  refine hK _ _ ⟨by_, bh⟩ ?_
  clear hK K
  generalize W4.setCell ⟨w.heap.size, 6, none⟩ (.bool true) = W5 at *
  simp only [List.setIfInBounds_toArray, List.set_cons_succ, List.set_cons_zero] at bp
  refine wpPl_qs 1 _ _ _ (by kernel_rfl) (by kernel_rfl) (by simp) ?_
  unfold clsS
  simp only [qq1, qq2, qq3, qq4, List.filterMap_cons, qq6, qq7, qq8, qq9]
  repeat (first | go_big_quiet_skip | (go_big_quiet_want; go_big_quiet_op; go_big_quiet_on) | refine id (?_ : wpQuiet _ _ _ _ (_ :: _) _))
  refine wpQuiet_nil ?_
  have c7 := bp.cell 7
  have c8 := bp.cell 8
  have c9 := bp.cell 9
  have c10 := bp.cell 10
  have c11 := bp.cell 11
  have c12 := bp.cell 12
  have r := bp.frozen
  refine wpPl_e _ (by rfl) (by kernel_rfl) (fun K hK => ?_)
  go_simp
  replace by_ := ((((((by_.far (p := ⟨w.heap.size, 7, none⟩) (by show g3 ≠ w.heap.size; omega) (.int .i64 (m : Int))).far (p := ⟨w.heap.size, 8, none⟩) (by show g3 ≠ w.heap.size; omega) (.int .i64 y1)).far (p := ⟨w.heap.size, 9, none⟩) (by show g3 ≠ w.heap.size; omega) (.int .i64 y2)).far (p := ⟨w.heap.size, 10, none⟩) (by show g3 ≠ w.heap.size; omega) (.int .i64 y3)).far (p := ⟨w.heap.size, 11, none⟩) (by show g3 ≠ w.heap.size; omega) (.int .u32 y4)).far (p := ⟨w.heap.size, 12, none⟩) (by show g3 ≠ w.heap.size; omega) (.int .u32 y5))
  replace bh := ((((((bh.far (p := ⟨w.heap.size, 7, none⟩) (by show w.heap.size + 1 ≠ w.heap.size; omega) (.int .i64 (m : Int))).far (p := ⟨w.heap.size, 8, none⟩) (by show w.heap.size + 1 ≠ w.heap.size; omega) (.int .i64 y1)).far (p := ⟨w.heap.size, 9, none⟩) (by show w.heap.size + 1 ≠ w.heap.size; omega) (.int .i64 y2)).far (p := ⟨w.heap.size, 10, none⟩) (by show w.heap.size + 1 ≠ w.heap.size; omega) (.int .i64 y3)).far (p := ⟨w.heap.size, 11, none⟩) (by show w.heap.size + 1 ≠ w.heap.size; omega) (.int .u32 y4)).far (p := ⟨w.heap.size, 12, none⟩) (by show w.heap.size + 1 ≠ w.heap.size; omega) (.int .u32 y5))
  replace bk := ((((((bk.far (p := ⟨w.heap.size, 7, none⟩) (by show w.heap.size + 2 ≠ w.heap.size; omega) (.int .i64 (m : Int))).far (p := ⟨w.heap.size, 8, none⟩) (by show w.heap.size + 2 ≠ w.heap.size; omega) (.int .i64 y1)).far (p := ⟨w.heap.size, 9, none⟩) (by show w.heap.size + 2 ≠ w.heap.size; omega) (.int .i64 y2)).far (p := ⟨w.heap.size, 10, none⟩) (by show w.heap.size + 2 ≠ w.heap.size; omega) (.int .i64 y3)).far (p := ⟨w.heap.size, 11, none⟩) (by show w.heap.size + 2 ≠ w.heap.size; omega) (.int .u32 y4)).far (p := ⟨w.heap.size, 12, none⟩) (by show w.heap.size + 2 ≠ w.heap.size; omega) (.int .u32 y5))
  replace bel := ((((((bel.setCell (p := ⟨w.heap.size, 7, none⟩) (Nat.le_refl _) (.int .i64 (m : Int))).setCell (p := ⟨w.heap.size, 8, none⟩) (Nat.le_refl _) (.int .i64 y1)).setCell (p := ⟨w.heap.size, 9, none⟩) (Nat.le_refl _) (.int .i64 y2)).setCell (p := ⟨w.heap.size, 10, none⟩) (Nat.le_refl _) (.int .i64 y3)).setCell (p := ⟨w.heap.size, 11, none⟩) (Nat.le_refl _) (.int .u32 y4)).setCell (p := ⟨w.heap.size, 12, none⟩) (Nat.le_refl _) (.int .u32 y5))
  replace bp := ((((((bp.set_ 7 (.int .i64 (m : Int))).set_ 8 (.int .i64 y1)).set_ 9 (.int .i64 y2)).set_ 10 (.int .i64 y3)).set_ 11 (.int .u32 y4)).set_ 12 (.int .u32 y5))
  clear c7 c8 c9 c10 c11 c12 r
  refine hK _ _ ⟨by_, bh⟩ ?_
  clear hK K
  generalize ((((((W5.setCell ⟨w.heap.size, 7, none⟩ (.int .i64 (m : Int))).setCell ⟨w.heap.size, 8, none⟩ (.int .i64 y1)).setCell ⟨w.heap.size, 9, none⟩ (.int .i64 y2)).setCell ⟨w.heap.size, 10, none⟩ (.int .i64 y3)).setCell ⟨w.heap.size, 11, none⟩ (.int .u32 y4)).setCell ⟨w.heap.size, 12, none⟩ (.int .u32 y5)) = W6 at *
  simp only [List.setIfInBounds_toArray, List.set_cons_succ, List.set_cons_zero] at bp
  refine wpPl_qs 1 _ _ _ (by kernel_rfl) (by kernel_rfl) (by simp) ?_
  unfold clsS
  simp only [qq1, qq2, qq3, qq4, List.filterMap_cons, qq6, qq7, qq8, qq9]
  repeat (first | go_big_quiet_skip | (go_big_quiet_want; go_big_quiet_op; go_big_quiet_on) | refine id (?_ : wpQuiet _ _ _ _ (_ :: _) _))
  refine wpQuiet_nil ?_
  have q13 := bp.cell 13
  have r13 := bp.frozen 13
  refine wpPl_e _ (by rfl) (by kernel_rfl) (fun K hK => ?_)
  go_simp
  replace by_ := by_.far (p := ⟨w.heap.size, 13, none⟩) (by show g3 ≠ w.heap.size; omega) (.int .i64 (h0 + 8))
  replace bk := bk.far (p := ⟨w.heap.size, 13, none⟩) (by show w.heap.size + 2 ≠ w.heap.size; omega) (.int .i64 (h0 + 8))
  replace bh := bh.far (p := ⟨w.heap.size, 13, none⟩) (by show w.heap.size + 1 ≠ w.heap.size; omega) (.int .i64 (h0 + 8))
  replace bel := bel.setCell (p := ⟨w.heap.size, 13, none⟩) (Nat.le_refl _) (.int .i64 (h0 + 8))
  replace bp := bp.set_ 13 (.int .i64 (h0 + 8))
  clear q13 r13
  refine hK _ _ ⟨by_, bh⟩ ?_
  clear hK K
  unfold wpPl
  refine NoPanic.normal ?_
  generalize W6.setCell ⟨w.heap.size, 13, none⟩ (.int .i64 (h0 + 8)) = W7 at *
  simp only [List.setIfInBounds_toArray, List.set_cons_succ, List.set_cons_zero] at bp
  clear z0 z1 z2 z3 z4 z5 v0 this bh hgt hrB
  replace hcs := hcs.out
  have q3 := by_.cell 3
  clear by_
  have hr4 := hr3.out
  clear hr3
  have hLl : L.length = len - k := (hr4 _ bel).len
  have hLr : ∀ x, x ∈ L → 0 ≤ x ∧ x ≤ 255 := fun x hx => inr_u8 ((hr4 _ bel).rng x hx)
  have hb0 := n2_bd (i := 0) hLr (by omega)
  have hb2 := n2_bd (i := 2) hLr (by omega)
  have hb4 := n2_bd (i := 4) hLr (by omega)
  have hn0 := fun w' (hb : Below w.heap.size w w') => Num_any (seg L 0 2) (some ⟨b, o + k, none⟩) 2 (c - k) _ w' (by omega) ((hr4 _ hb).sub 0 2 (by omega))
  have hn2 := fun w' (hb : Below w.heap.size w w') => Num_any (seg L 2 2) (some ⟨b, o + k + 2, none⟩) 2 (c - k - 2) _ w' (by omega) ((hr4 _ hb).sub 2 2 (by omega))
  have hn4 := fun w' (hb : Below w.heap.size w w') => Num_any (seg L 4 2) (some ⟨b, o + k + 4, none⟩) 2 (c - k - 4) _ w' (by omega) ((hr4 _ hb).sub 4 2 (by omega))
  have hc0 := fun w' hb => (hr4 w' hb).cell0 (by omega)
  clear hr4 hLl hLr
  rw [show numOf (seg L 0 2) = n2 L 0 from rfl] at hn0
  rw [show numOf (seg L 2 2) = n2 L 2 from rfl] at hn2
  rw [show numOf (seg L 4 2) = n2 L 4 from rfl] at hn4
  obtain ⟨q, hq⟩ : ∃ q : Pt, q = { { Pt.z with proto := 1, kind := f0, code := f1 } with err := true, inner := ⟨(m : Int), y1, y2, y3, y4, y5⟩, pat := h0 + 8 } := ⟨_, rfl⟩
  have hqv : q.val = .agg (A0 1 0 0 0 f0 f1 true (m : Int) y1 y2 y3 y4 y5 (h0 + 8) false) := by rw [hq]; rfl
  rw [← hq] at hcs
  clear hq
  have hP02 : (portsP q L 0 2).val = .agg (A0 1 (n2 L 0) (n2 L 2) 0 f0 f1 true (m : Int) y1 y2 y3 y4 y5 (h0 + 8) false) := pt_ports hqv _ _
  have hP44 : (portsP q L 4 4).val = .agg (A0 1 (n2 L 4) (n2 L 4) 0 f0 f1 true (m : Int) y1 y2 y3 y4 y5 (h0 + 8) false) := pt_ports hqv _ _
  generalize n2 L 0 = N0 at *
  generalize n2 L 2 = N2 at *
  obtain ⟨N4, hN4⟩ : ∃ N, N = n2 L 4 := ⟨_, rfl⟩
  rw [← hN4] at hb4 hn4 hP44
  obtain ⟨F0, hF0⟩ : ∃ F, F = L.getD 0 0 := ⟨_, rfl⟩
  rw [← hF0] at hcs
  simp only [← hF0] at hc0
  clear hqv hN4 hF0
  replace hP02 := Lib.hid hP02
  replace hP44 := Lib.hid hP44
  replace hn0 := Lib.hid hn0
  replace hn2 := Lib.hid hn2
  replace hn4 := Lib.hid hn4
  replace hc0 := Lib.hid hc0
  rcases hcs with ⟨rfl, rfl⟩ | ⟨rfl, rfl⟩ | ⟨rfl, hx, rfl⟩ | ⟨rfl, hx, rfl⟩ | ⟨rfl, hx0, hx8, rfl⟩ | ⟨h17, h6, h1, rfl⟩
  ·go_upto_region 28 with fail
   clear q3
   have : Nonempty (Tw (fun w' => Below w.heap.size w w')) := ⟨⟨_, bel⟩⟩
   refine wp_region_plan (fun w' => Below w.heap.size w w') [(0, true), (1, true), (4, true), (5, true), (2, false), (3, true), (8, true), (6, false), (7, true), (9, false), (10, true), (11, false)] (by kernel_rfl) (by kernel_rfl) (by kernel_rfl) (by kernel_rfl) bel.drew ?_
   replace bp := bp.drew
   replace bk := bk.drew
   replace bel := bel.drew
   generalize W7.drew = W8 at *
   refine wpPl_qs 4 _ _ _ (by kernel_rfl) (by kernel_rfl) (by simp) ?_
   unfold clsS
   simp only [qq1, qq2, qq3, qq4, List.filterMap_cons, qq6, qq7, qq8, qq9]
   repeat (first | go_big_quiet_skip | (go_big_quiet_want; go_big_quiet_op; go_big_quiet_on) | refine id (?_ : wpQuiet _ _ _ _ (_ :: _) _))
   refine wpQuiet_nil ?_
   refine wpPl_e _ (by rfl) (by kernel_rfl) (fun K hK => ?_)
   go_simp
   refine (hn0.out _ bel).mono ?_
   rintro e w1 ⟨rfl, rfl⟩
   refine hK _ _ bel ?_
   clear hK K
   refine wpPl_qs 2 _ _ _ (by kernel_rfl) (by kernel_rfl) (by simp) ?_
   unfold clsS
   simp only [qq1, qq2, qq3, qq4, List.filterMap_cons, qq6, qq7, qq8, qq9]
   repeat (first | go_big_quiet_skip | (go_big_quiet_want; go_big_quiet_op; go_big_quiet_on) | refine id (?_ : wpQuiet _ _ _ _ (_ :: _) _))
   refine wpQuiet_nil ?_
   refine wpPl_e _ (by rfl) (by kernel_rfl) (fun K hK => ?_)
   go_simp
   refine (hn2.out _ bel).mono ?_
   rintro e w1 ⟨rfl, rfl⟩
   refine hK _ _ bel ?_
   clear hK K
   refine wpPl_qs 1 _ _ _ (by kernel_rfl) (by kernel_rfl) (by simp) ?_
   unfold clsS
   simp only [qq1, qq2, qq3, qq4, List.filterMap_cons, qq6, qq7, qq8, qq9]
   repeat (first | go_big_quiet_skip | (go_big_quiet_want; go_big_quiet_op; go_big_quiet_on) | refine id (?_ : wpQuiet _ _ _ _ (_ :: _) _))
   refine wpQuiet_nil ?_
   have q1 := bp.cell 1
   have r1 := bp.frozen 1
   refine wpPl_e _ (by rfl) (by kernel_rfl) (fun K hK => ?_)
   go_simp
   replace bk := bk.far (p := ⟨w.heap.size, 1, none⟩) (by show w.heap.size + 2 ≠ w.heap.size; omega) (.int .u16 N0)
   replace bel := bel.setCell (p := ⟨w.heap.size, 1, none⟩) (Nat.le_refl _) (.int .u16 N0)
   replace bp := bp.set_ 1 (.int .u16 N0)
   clear q1 r1
   refine hK _ _ bel ?_
   clear hK K
   refine wpPl_qs 1 _ _ _ (by kernel_rfl) (by kernel_rfl) (by simp) ?_
   unfold clsS
   simp only [qq1, qq2, qq3, qq4, List.filterMap_cons, qq6, qq7, qq8, qq9]
   repeat (first | go_big_quiet_skip | (go_big_quiet_want; go_big_quiet_op; go_big_quiet_on) | refine id (?_ : wpQuiet _ _ _ _ (_ :: _) _))
   refine wpQuiet_nil ?_
   have q2 := bp.cell 2
   have r2 := bp.frozen 2
   refine wpPl_e _ (by rfl) (by kernel_rfl) (fun K hK => ?_)
   go_simp
   replace bk := bk.far (p := ⟨w.heap.size, 2, none⟩) (by show w.heap.size + 2 ≠ w.heap.size; omega) (.int .u16 N2)
   replace bel := bel.setCell (p := ⟨w.heap.size, 2, none⟩) (Nat.le_refl _) (.int .u16 N2)
   replace bp := bp.set_ 2 (.int .u16 N2)
   clear q2 r2
   refine hK _ _ bel ?_
   clear hK K
   unfold wpPl
   refine NoPanic.normal ?_
   simp only [List.setIfInBounds_toArray, List.set_cons_succ, List.set_cons_zero] at bp
   generalize ((W8.setCell ⟨w.heap.size, 1, none⟩ (.int .u16 N0)).setCell ⟨w.heap.size, 2, none⟩ (.int .u16 N2)) = W9 at *
   go_wp2_with (first
    | (refine wpList_ldRow rfl rfl rfl bp Tryz.underlying54 rpt_size ?_)
    | (refine wpList_stRow rfl rfl rfl rfl rfl bk rpt_size rfl (by simp [Value.oneCell']) ?_))
   refine bodyPost_ret (results_row2 rfl _ rfl (bk.setRow _) Tryz.underlying54 rpt_size) rfl ⟨?_, below_setRow bel (by omega) _⟩
   exact congrArg (fun x => Ending.returned (.tuple #[x, .int .i64 0])) hP02.out.symm
  ·go_upto_region 28 with fail
   clear q3
   have : Nonempty (Tw (fun w' => Below w.heap.size w w')) := ⟨⟨_, bel⟩⟩
   refine wp_region_plan (fun w' => Below w.heap.size w w') [(0, true), (1, true), (4, true), (5, true), (2, false), (3, true), (8, true), (6, false), (7, true), (9, false), (10, true), (11, false)] (by kernel_rfl) (by kernel_rfl) (by kernel_rfl) (by kernel_rfl) bel.drew ?_
   replace bp := bp.drew
   replace bk := bk.drew
   replace bel := bel.drew
   generalize W7.drew = W8 at *
   refine wpPl_qs 4 _ _ _ (by kernel_rfl) (by kernel_rfl) (by simp) ?_
   unfold clsS
   simp only [qq1, qq2, qq3, qq4, List.filterMap_cons, qq6, qq7, qq8, qq9]
   repeat (first | go_big_quiet_skip | (go_big_quiet_want; go_big_quiet_op; go_big_quiet_on) | refine id (?_ : wpQuiet _ _ _ _ (_ :: _) _))
   refine wpQuiet_nil ?_
   refine wpPl_e _ (by rfl) (by kernel_rfl) (fun K hK => ?_)
   go_simp
   refine (hn0.out _ bel).mono ?_
   rintro e w1 ⟨rfl, rfl⟩
   refine hK _ _ bel ?_
   clear hK K
   refine wpPl_qs 2 _ _ _ (by kernel_rfl) (by kernel_rfl) (by simp) ?_
   unfold clsS
   simp only [qq1, qq2, qq3, qq4, List.filterMap_cons, qq6, qq7, qq8, qq9]
   repeat (first | go_big_quiet_skip | (go_big_quiet_want; go_big_quiet_op; go_big_quiet_on) | refine id (?_ : wpQuiet _ _ _ _ (_ :: _) _))
   refine wpQuiet_nil ?_
   refine wpPl_e _ (by rfl) (by kernel_rfl) (fun K hK => ?_)
   go_simp
   refine (hn2.out _ bel).mono ?_
   rintro e w1 ⟨rfl, rfl⟩
   refine hK _ _ bel ?_
   clear hK K
   refine wpPl_qs 1 _ _ _ (by kernel_rfl) (by kernel_rfl) (by simp) ?_
   unfold clsS
   simp only [qq1, qq2, qq3, qq4, List.filterMap_cons, qq6, qq7, qq8, qq9]
   repeat (first | go_big_quiet_skip | (go_big_quiet_want; go_big_quiet_op; go_big_quiet_on) | refine id (?_ : wpQuiet _ _ _ _ (_ :: _) _))
   refine wpQuiet_nil ?_
   have q1 := bp.cell 1
   have r1 := bp.frozen 1
   refine wpPl_e _ (by rfl) (by kernel_rfl) (fun K hK => ?_)
   go_simp
   replace bk := bk.far (p := ⟨w.heap.size, 1, none⟩) (by show w.heap.size + 2 ≠ w.heap.size; omega) (.int .u16 N0)
   replace bel := bel.setCell (p := ⟨w.heap.size, 1, none⟩) (Nat.le_refl _) (.int .u16 N0)
   replace bp := bp.set_ 1 (.int .u16 N0)
   clear q1 r1
   refine hK _ _ bel ?_
   clear hK K
   refine wpPl_qs 1 _ _ _ (by kernel_rfl) (by kernel_rfl) (by simp) ?_
   unfold clsS
   simp only [qq1, qq2, qq3, qq4, List.filterMap_cons, qq6, qq7, qq8, qq9]
   repeat (first | go_big_quiet_skip | (go_big_quiet_want; go_big_quiet_op; go_big_quiet_on) | refine id (?_ : wpQuiet _ _ _ _ (_ :: _) _))
   refine wpQuiet_nil ?_
   have q2 := bp.cell 2
   have r2 := bp.frozen 2
   refine wpPl_e _ (by rfl) (by kernel_rfl) (fun K hK => ?_)
   go_simp
   replace bk := bk.far (p := ⟨w.heap.size, 2, none⟩) (by show w.heap.size + 2 ≠ w.heap.size; omega) (.int .u16 N2)
   replace bel := bel.setCell (p := ⟨w.heap.size, 2, none⟩) (Nat.le_refl _) (.int .u16 N2)
   replace bp := bp.set_ 2 (.int .u16 N2)
   clear q2 r2
   refine hK _ _ bel ?_
   clear hK K
   unfold wpPl
   refine NoPanic.normal ?_
   simp only [List.setIfInBounds_toArray, List.set_cons_succ, List.set_cons_zero] at bp
   generalize ((W8.setCell ⟨w.heap.size, 1, none⟩ (.int .u16 N0)).setCell ⟨w.heap.size, 2, none⟩ (.int .u16 N2)) = W9 at *
   go_wp2_with (first
    | (refine wpList_ldRow rfl rfl rfl bp Tryz.underlying54 rpt_size ?_)
    | (refine wpList_stRow rfl rfl rfl rfl rfl bk rpt_size rfl (by simp [Value.oneCell']) ?_))
   refine bodyPost_ret (results_row2 rfl _ rfl (bk.setRow _) Tryz.underlying54 rpt_size) rfl ⟨?_, below_setRow bel (by omega) _⟩
   exact congrArg (fun x => Ending.returned (.tuple #[x, .int .i64 0])) hP02.out.symm
  ·obtain ⟨c0, x0⟩ := hc0.out _ bel
   replace x0 := inr_u8 x0
   subst hx
   go_upto_region 32 with fail
   clear q3
   have : Nonempty (Tw (fun w' => Below w.heap.size w w')) := ⟨⟨_, bel⟩⟩
   refine wp_region_plan (fun w' => Below w.heap.size w w') [(0, true), (1, true), (4, true), (5, true), (2, false), (3, true), (8, true), (6, false), (7, true), (9, false), (10, true), (11, false)] (by kernel_rfl) (by kernel_rfl) (by kernel_rfl) (by kernel_rfl) bel.drew ?_
   replace bp := bp.drew
   replace bk := bk.drew
   replace bel := bel.drew
   generalize W7.drew = W8 at *
   refine wpPl_qs 4 _ _ _ (by kernel_rfl) (by kernel_rfl) (by simp) ?_
   unfold clsS
   simp only [qq1, qq2, qq3, qq4, List.filterMap_cons, qq6, qq7, qq8, qq9]
   repeat (first | go_big_quiet_skip | (go_big_quiet_want; go_big_quiet_op; go_big_quiet_on) | refine id (?_ : wpQuiet _ _ _ _ (_ :: _) _))
   refine wpQuiet_nil ?_
   refine wpPl_e _ (by rfl) (by kernel_rfl) (fun K hK => ?_)
   go_simp
   refine (hn4.out _ bel).mono ?_
   rintro e w1 ⟨rfl, rfl⟩
   refine hK _ _ bel ?_
   clear hK K
   refine wpPl_qs 2 _ _ _ (by kernel_rfl) (by kernel_rfl) (by simp) ?_
   unfold clsS
   simp only [qq1, qq2, qq3, qq4, List.filterMap_cons, qq6, qq7, qq8, qq9]
   repeat (first | go_big_quiet_skip | (go_big_quiet_want; go_big_quiet_op; go_big_quiet_on) | refine id (?_ : wpQuiet _ _ _ _ (_ :: _) _))
   refine wpQuiet_nil ?_
   refine wpPl_e _ (by rfl) (by kernel_rfl) (fun K hK => ?_)
   go_simp
   refine (hn4.out _ bel).mono ?_
   rintro e w1 ⟨rfl, rfl⟩
   refine hK _ _ bel ?_
   clear hK K
   refine wpPl_qs 1 _ _ _ (by kernel_rfl) (by kernel_rfl) (by simp) ?_
   unfold clsS
   simp only [qq1, qq2, qq3, qq4, List.filterMap_cons, qq6, qq7, qq8, qq9]
   repeat (first | go_big_quiet_skip | (go_big_quiet_want; go_big_quiet_op; go_big_quiet_on) | refine id (?_ : wpQuiet _ _ _ _ (_ :: _) _))
   refine wpQuiet_nil ?_
   have q1 := bp.cell 1
   have r1 := bp.frozen 1
   refine wpPl_e _ (by rfl) (by kernel_rfl) (fun K hK => ?_)
   go_simp
   replace bk := bk.far (p := ⟨w.heap.size, 1, none⟩) (by show w.heap.size + 2 ≠ w.heap.size; omega) (.int .u16 N4)
   replace bel := bel.setCell (p := ⟨w.heap.size, 1, none⟩) (Nat.le_refl _) (.int .u16 N4)
   replace bp := bp.set_ 1 (.int .u16 N4)
   clear q1 r1
   refine hK _ _ bel ?_
   clear hK K
   refine wpPl_qs 1 _ _ _ (by kernel_rfl) (by kernel_rfl) (by simp) ?_
   unfold clsS
   simp only [qq1, qq2, qq3, qq4, List.filterMap_cons, qq6, qq7, qq8, qq9]
   repeat (first | go_big_quiet_skip | (go_big_quiet_want; go_big_quiet_op; go_big_quiet_on) | refine id (?_ : wpQuiet _ _ _ _ (_ :: _) _))
   refine wpQuiet_nil ?_
   have q2 := bp.cell 2
   have r2 := bp.frozen 2
   refine wpPl_e _ (by rfl) (by kernel_rfl) (fun K hK => ?_)
   go_simp
   replace bk := bk.far (p := ⟨w.heap.size, 2, none⟩) (by show w.heap.size + 2 ≠ w.heap.size; omega) (.int .u16 N4)
   replace bel := bel.setCell (p := ⟨w.heap.size, 2, none⟩) (Nat.le_refl _) (.int .u16 N4)
   replace bp := bp.set_ 2 (.int .u16 N4)
   clear q2 r2
   refine hK _ _ bel ?_
   clear hK K
   unfold wpPl
   refine NoPanic.normal ?_
   simp only [List.setIfInBounds_toArray, List.set_cons_succ, List.set_cons_zero] at bp
   generalize ((W8.setCell ⟨w.heap.size, 1, none⟩ (.int .u16 N4)).setCell ⟨w.heap.size, 2, none⟩ (.int .u16 N4)) = W9 at *
   go_wp2_with (first
    | (refine wpList_ldRow rfl rfl rfl bp Tryz.underlying54 rpt_size ?_)
    | (refine wpList_stRow rfl rfl rfl rfl rfl bk rpt_size rfl (by simp [Value.oneCell']) ?_))
   refine bodyPost_ret (results_row2 rfl _ rfl (bk.setRow _) Tryz.underlying54 rpt_size) rfl ⟨?_, below_setRow bel (by omega) _⟩
   exact congrArg (fun x => Ending.returned (.tuple #[x, .int .i64 0])) hP44.out.symm
  ·obtain ⟨c0, x0⟩ := hc0.out _ bel
   replace x0 := inr_u8 x0
   subst hx
   go_upto_region 32 with fail
   clear q3
   have : Nonempty (Tw (fun w' => Below w.heap.size w w')) := ⟨⟨_, bel⟩⟩
   refine wp_region_plan (fun w' => Below w.heap.size w w') [(0, true), (1, true), (4, true), (5, true), (2, false), (3, true), (8, true), (6, false), (7, true), (9, false), (10, true), (11, false)] (by kernel_rfl) (by kernel_rfl) (by kernel_rfl) (by kernel_rfl) bel.drew ?_
   replace bp := bp.drew
   replace bk := bk.drew
   replace bel := bel.drew
   generalize W7.drew = W8 at *
   refine wpPl_qs 4 _ _ _ (by kernel_rfl) (by kernel_rfl) (by simp) ?_
   unfold clsS
   simp only [qq1, qq2, qq3, qq4, List.filterMap_cons, qq6, qq7, qq8, qq9]
   repeat (first | go_big_quiet_skip | (go_big_quiet_want; go_big_quiet_op; go_big_quiet_on) | refine id (?_ : wpQuiet _ _ _ _ (_ :: _) _))
   refine wpQuiet_nil ?_
   refine wpPl_e _ (by rfl) (by kernel_rfl) (fun K hK => ?_)
   go_simp
   refine (hn4.out _ bel).mono ?_
   rintro e w1 ⟨rfl, rfl⟩
   refine hK _ _ bel ?_
   clear hK K
   refine wpPl_qs 2 _ _ _ (by kernel_rfl) (by kernel_rfl) (by simp) ?_
   unfold clsS
   simp only [qq1, qq2, qq3, qq4, List.filterMap_cons, qq6, qq7, qq8, qq9]
   repeat (first | go_big_quiet_skip | (go_big_quiet_want; go_big_quiet_op; go_big_quiet_on) | refine id (?_ : wpQuiet _ _ _ _ (_ :: _) _))
   refine wpQuiet_nil ?_
   refine wpPl_e _ (by rfl) (by kernel_rfl) (fun K hK => ?_)
   go_simp
   refine (hn4.out _ bel).mono ?_
   rintro e w1 ⟨rfl, rfl⟩
   refine hK _ _ bel ?_
   clear hK K
   refine wpPl_qs 1 _ _ _ (by kernel_rfl) (by kernel_rfl) (by simp) ?_
   unfold clsS
   simp only [qq1, qq2, qq3, qq4, List.filterMap_cons, qq6, qq7, qq8, qq9]
   repeat (first | go_big_quiet_skip | (go_big_quiet_want; go_big_quiet_op; go_big_quiet_on) | refine id (?_ : wpQuiet _ _ _ _ (_ :: _) _))
   refine wpQuiet_nil ?_
   have q1 := bp.cell 1
   have r1 := bp.frozen 1
   refine wpPl_e _ (by rfl) (by kernel_rfl) (fun K hK => ?_)
   go_simp
   replace bk := bk.far (p := ⟨w.heap.size, 1, none⟩) (by show w.heap.size + 2 ≠ w.heap.size; omega) (.int .u16 N4)
   replace bel := bel.setCell (p := ⟨w.heap.size, 1, none⟩) (Nat.le_refl _) (.int .u16 N4)
   replace bp := bp.set_ 1 (.int .u16 N4)
   clear q1 r1
   refine hK _ _ bel ?_
   clear hK K
   refine wpPl_qs 1 _ _ _ (by kernel_rfl) (by kernel_rfl) (by simp) ?_
   unfold clsS
   simp only [qq1, qq2, qq3, qq4, List.filterMap_cons, qq6, qq7, qq8, qq9]
   repeat (first | go_big_quiet_skip | (go_big_quiet_want; go_big_quiet_op; go_big_quiet_on) | refine id (?_ : wpQuiet _ _ _ _ (_ :: _) _))
   refine wpQuiet_nil ?_
   have q2 := bp.cell 2
   have r2 := bp.frozen 2
   refine wpPl_e _ (by rfl) (by kernel_rfl) (fun K hK => ?_)
   go_simp
   replace bk := bk.far (p := ⟨w.heap.size, 2, none⟩) (by show w.heap.size + 2 ≠ w.heap.size; omega) (.int .u16 N4)
   replace bel := bel.setCell (p := ⟨w.heap.size, 2, none⟩) (Nat.le_refl _) (.int .u16 N4)
   replace bp := bp.set_ 2 (.int .u16 N4)
   clear q2 r2
   refine hK _ _ bel ?_
   clear hK K
   unfold wpPl
   refine NoPanic.normal ?_
   simp only [List.setIfInBounds_toArray, List.set_cons_succ, List.set_cons_zero] at bp
   generalize ((W8.setCell ⟨w.heap.size, 1, none⟩ (.int .u16 N4)).setCell ⟨w.heap.size, 2, none⟩ (.int .u16 N4)) = W9 at *
   go_wp2_with (first
    | (refine wpList_ldRow rfl rfl rfl bp Tryz.underlying54 rpt_size ?_)
    | (refine wpList_stRow rfl rfl rfl rfl rfl bk rpt_size rfl (by simp [Value.oneCell']) ?_))
   refine bodyPost_ret (results_row2 rfl _ rfl (bk.setRow _) Tryz.underlying54 rpt_size) rfl ⟨?_, below_setRow bel (by omega) _⟩
   exact congrArg (fun x => Ending.returned (.tuple #[x, .int .i64 0])) hP44.out.symm
  ·obtain ⟨c0, x0⟩ := hc0.out _ bel
   replace x0 := inr_u8 x0
   have e1 : (F0 != 0) = true := by simpa using hx0
   have e2 : (F0 != 8) = true := by simpa using hx8
   go_wp2_with (refine wpList_stRow rfl rfl rfl rfl rfl bk rpt_size rfl (by simp [Value.oneCell', Pt.z, Hd.z, portsP]) ?_)
   exact bodyPost_ret (results_row2 rfl _ rfl (bk.setRow _) Tryz.underlying54 rpt_size) rfl ⟨rfl, below_setRow bel (by omega) _⟩
  ·have e1 : (y3 == 17) = false := by simpa using h17
   have e2 : (y3 == 6) = false := by simpa using h6
   have e3 : (y3 == 1) = false := by simpa using h1
   go_wp2_with (refine wpList_stRow rfl rfl rfl rfl rfl bk rpt_size rfl (by simp [Value.oneCell', Pt.z, Hd.z, portsP]) ?_)
   exact bodyPost_ret (results_row2 rfl _ rfl (bk.setRow _) Tryz.underlying54 rpt_size) rfl ⟨rfl, below_setRow bel (by omega) _⟩
theorem ricmp_any (h : Hd) (l : List Int) (A : Option Addr) (len c B : Nat) (w : World) (hr : Rd .u8 w B A len l) (hB : B ≤ w.heap.size) (hlc : len ≤ c) (hcm : c ≤ 9223372036854775807) (hl : len ≤ 100000) (hh : 0 ≤ h.size ∧ h.size ≤ 1000) :
  Calls Tryz.prog 51 #[.agg Z4, h.val, .slice A len c] w (Tells w (icmpR h l)) := by
 by_cases hb : 8 ≤ l.length ∧ sumOf l = 0 ∧ (l.getD 0 0 = 3 ∨ l.getD 0 0 = 11 ∨ l.getD 0 0 = 12)
 ·obtain ⟨h8, hs, hf⟩ := hb
  have e : icmpR h l = faultR { Pt.z with proto := 1, kind := l.getD 0 0, code := l.getD 1 0 } (h.size + 8) (l.drop 8) := by
   unfold icmpR
   rw [if_neg (by omega), if_neg (by simp [hs]), if_neg (by omega), if_pos hf]
  rw [e]
  by_cases hg : partE (l.drop 8) = 0 ∧ 8 ≤ ((l.drop 8).length : Int) - (hdOf (l.drop 8)).size ∧ (hdOf (l.drop 8)).size + 8 ≤ (hdOf (l.drop 8)).len
  ·exact ricmp_ok h l A len c B w hr hB hlc hcm hl hh h8 hs hf hg
  ·exact ricmp_bad h l A len c B w hr hB hlc hcm hl hh h8 hs hf hg
 ·exact ricmp_plain h l A len c B w hr hB hlc hcm hl hh (fun h8 hs hf => hb ⟨h8, hs, hf⟩)
theorem rPGet_bad (h : Hd) (l : List Int) (A : Option Addr) (len c : Nat) (w : World) (hbad : h.size < 20 ∨ 60 < h.size ∨ h.len < h.size ∨ (len : Int) < h.len) :
  Calls Tryz.prog 23 #[h.val, .slice A len c] w (Tells w (1, Pt.z)) := by
 obtain ⟨h0, h1, h2, h3, h4, h5⟩ := h
 unfold Hd.val Tells
 simp only at hbad ⊢
 by_cases g1 : h0 < 20
 ·clear hbad
  go_enter Tryz.func23, Tryz.ntmps23
  go_upto_region 1 with fail
  have bh := (Blk.new w 52 (A4 h0 h1 h2 h3 h4 h5)).alloc (.cells Z0 54)
  have bk := Blk.new (w.alloc (.cells (A4 h0 h1 h2 h3 h4 h5) 52)) 54 Z0
  rw [show (w.alloc (.cells (A4 h0 h1 h2 h3 h4 h5) 52)).heap.size = w.heap.size + 1 by simp] at bk
  have bel : Below w.heap.size w ((w.alloc (.cells (A4 h0 h1 h2 h3 h4 h5) 52)).alloc (.cells Z0 54)) := (bel_alloc _ _).alloc (by simp) _
  generalize ((w.alloc (.cells (A4 h0 h1 h2 h3 h4 h5) 52)).alloc (.cells Z0 54)) = W at *
  have q0 := bh.cell 0
  have q1 := bh.cell 1
  go_wp2_with (refine wpList_stRow rfl rfl rfl rfl rfl bk rpt_size rfl (by simp [Value.oneCell', Pt.z, Hd.z, portsP]) ?_)
  exact bodyPost_ret (results_row2 rfl _ rfl (bk.setRow _) Tryz.underlying54 rpt_size) rfl ⟨rfl, below_setRow bel (by omega) _⟩
 by_cases g2 : 60 < h0
 ·clear hbad
  go_enter Tryz.func23, Tryz.ntmps23
  go_upto_region 1 with fail
  have bh := (Blk.new w 52 (A4 h0 h1 h2 h3 h4 h5)).alloc (.cells Z0 54)
  have bk := Blk.new (w.alloc (.cells (A4 h0 h1 h2 h3 h4 h5) 52)) 54 Z0
  rw [show (w.alloc (.cells (A4 h0 h1 h2 h3 h4 h5) 52)).heap.size = w.heap.size + 1 by simp] at bk
  have bel : Below w.heap.size w ((w.alloc (.cells (A4 h0 h1 h2 h3 h4 h5) 52)).alloc (.cells Z0 54)) := (bel_alloc _ _).alloc (by simp) _
  generalize ((w.alloc (.cells (A4 h0 h1 h2 h3 h4 h5) 52)).alloc (.cells Z0 54)) = W at *
  have q0 := bh.cell 0
  have q1 := bh.cell 1
  go_wp2_with (refine wpList_stRow rfl rfl rfl rfl rfl bk rpt_size rfl (by simp [Value.oneCell', Pt.z, Hd.z, portsP]) ?_)
  exact bodyPost_ret (results_row2 rfl _ rfl (bk.setRow _) Tryz.underlying54 rpt_size) rfl ⟨rfl, below_setRow bel (by omega) _⟩
 by_cases g3 : h1 < h0
 ·clear hbad
  go_enter Tryz.func23, Tryz.ntmps23
  go_upto_region 1 with fail
  have bh := (Blk.new w 52 (A4 h0 h1 h2 h3 h4 h5)).alloc (.cells Z0 54)
  have bk := Blk.new (w.alloc (.cells (A4 h0 h1 h2 h3 h4 h5) 52)) 54 Z0
  rw [show (w.alloc (.cells (A4 h0 h1 h2 h3 h4 h5) 52)).heap.size = w.heap.size + 1 by simp] at bk
  have bel : Below w.heap.size w ((w.alloc (.cells (A4 h0 h1 h2 h3 h4 h5) 52)).alloc (.cells Z0 54)) := (bel_alloc _ _).alloc (by simp) _
  generalize ((w.alloc (.cells (A4 h0 h1 h2 h3 h4 h5) 52)).alloc (.cells Z0 54)) = W at *
  have q0 := bh.cell 0
  have q1 := bh.cell 1
  go_wp2_with (refine wpList_stRow rfl rfl rfl rfl rfl bk rpt_size rfl (by simp [Value.oneCell', Pt.z, Hd.z, portsP]) ?_)
  exact bodyPost_ret (results_row2 rfl _ rfl (bk.setRow _) Tryz.underlying54 rpt_size) rfl ⟨rfl, below_setRow bel (by omega) _⟩
 have g4 : (len : Int) < h1 := by omega
 clear hbad
 go_enter Tryz.func23, Tryz.ntmps23
 go_upto_region 1 with fail
 have bh := (Blk.new w 52 (A4 h0 h1 h2 h3 h4 h5)).alloc (.cells Z0 54)
 have bk := Blk.new (w.alloc (.cells (A4 h0 h1 h2 h3 h4 h5) 52)) 54 Z0
 rw [show (w.alloc (.cells (A4 h0 h1 h2 h3 h4 h5) 52)).heap.size = w.heap.size + 1 by simp] at bk
 have bel : Below w.heap.size w ((w.alloc (.cells (A4 h0 h1 h2 h3 h4 h5) 52)).alloc (.cells Z0 54)) := (bel_alloc _ _).alloc (by simp) _
 generalize ((w.alloc (.cells (A4 h0 h1 h2 h3 h4 h5) 52)).alloc (.cells Z0 54)) = W at *
 have q0 := bh.cell 0
 have q1 := bh.cell 1
 go_wp2_with (refine wpList_stRow rfl rfl rfl rfl rfl bk rpt_size rfl (by simp [Value.oneCell', Pt.z, Hd.z, portsP]) ?_)
 exact bodyPost_ret (results_row2 rfl _ rfl (bk.setRow _) Tryz.underlying54 rpt_size) rfl ⟨rfl, below_setRow bel (by omega) _⟩
theorem rPGet_else (m n : Nat) (h2 h3 h4 h5 : Int) (A : Option Addr) (b o len c : Nat) (w : World) (hlc : len ≤ c) (hcm : c ≤ 9223372036854775807) (hm1 : 20 ≤ m) (hm2 : m ≤ 60) (hm3 : m ≤ n) (hm4 : n ≤ len) (hA2 : (if c = m then some ⟨b, o, none⟩ else some ⟨b, o + m, none⟩) = A) (h17 : h3 ≠ 17) (h6 : h3 ≠ 6) (h1 : h3 ≠ 1) :
  Calls Tryz.prog 23 #[(⟨(m : Int), (n : Int), h2, h3, h4, h5⟩ : Hd).val, .slice (some ⟨b, o, none⟩) len c] w (Tells w (6, Pt.z)) := by
 unfold Hd.val Tells
 simp only
 have d1 : decide ((m : Int) < 20) = false := by simp; omega
 have d2 : decide (60 < (m : Int)) = false := by simp; omega
 have e1 : (h3 == 17) = false := by simpa using h17
 have e2 : (h3 == 6) = false := by simpa using h6
 have e3 : (h3 == 1) = false := by simpa using h1
 go_enter Tryz.func23, Tryz.ntmps23
 go_upto_region 1 with fail
 have bh := (Blk.new w 52 (A4 (m : Int) (n : Int) h2 h3 h4 h5)).alloc (.cells Z0 54)
 have bk := Blk.new (w.alloc (.cells (A4 (m : Int) (n : Int) h2 h3 h4 h5) 52)) 54 Z0
 rw [show (w.alloc (.cells (A4 (m : Int) (n : Int) h2 h3 h4 h5) 52)).heap.size = w.heap.size + 1 by simp] at bk
 have bel : Below w.heap.size w ((w.alloc (.cells (A4 (m : Int) (n : Int) h2 h3 h4 h5) 52)).alloc (.cells Z0 54)) := (bel_alloc _ _).alloc (by simp) _
 generalize ((w.alloc (.cells (A4 (m : Int) (n : Int) h2 h3 h4 h5) 52)).alloc (.cells Z0 54)) = W at *
 have q0 := bh.cell 0
 have q1 := bh.cell 1
 have q3 := bh.cell 3
 go_wp2_with (first | (refine wpList_stRow rfl rfl rfl rfl rfl (Blk.new _ _ _) rpt_size rfl (by simp [Value.oneCell']) ?_; have bp := (Blk.new W 54 Z0).setRow (A0 h3 0 0 0 0 0 false 0 0 0 0 0 0 0 false); have hg3 : w.heap.size + 1 < W.heap.size := bk.lt; replace bk := (bk.alloc (.cells Z0 54)).setRow_far (g' := W.heap.size) (by omega) (A0 h3 0 0 0 0 0 false 0 0 0 0 0 0 0 false); replace bh := (bh.alloc (.cells Z0 54)).setRow_far (g' := W.heap.size) (by omega) (A0 h3 0 0 0 0 0 false 0 0 0 0 0 0 0 false); replace bel := below_setRow (bel.alloc bel.size (.cells Z0 54)) bel.size (A0 h3 0 0 0 0 0 false 0 0 0 0 0 0 0 false); generalize (W.alloc (.cells Z0 54)).setRow W.heap.size (A0 h3 0 0 0 0 0 false 0 0 0 0 0 0 0 false) = W1 at *; generalize W.heap.size = g3 at *; have q3 := bh.cell 3) | (refine wpList_stRow rfl rfl rfl rfl rfl bk rpt_size rfl (by simp [Value.oneCell', Pt.z, Hd.z, portsP]) ?_))
 exact bodyPost_ret (results_row2 rfl _ rfl (bk.setRow _) Tryz.underlying54 rpt_size) rfl ⟨rfl, below_setRow bel (by omega) _⟩
theorem rPGet_icmp (m n : Nat) (h2 h4 h5 : Int) (l : List Int) (A : Option Addr) (b o len c : Nat) (w : World) (hlc : len ≤ c) (hcm : c ≤ 9223372036854775807) (hl : len ≤ 60000) (hm1 : 20 ≤ m) (hm2 : m ≤ 60) (hm3 : m ≤ n) (hm4 : n ≤ len) (hA2 : (if c = m then some ⟨b, o, none⟩ else some ⟨b, o + m, none⟩) = A) (hr : Rd .u8 w w.heap.size A (n - m) l) :
  Calls Tryz.prog 23 #[(⟨(m : Int), (n : Int), h2, 1, h4, h5⟩ : Hd).val, .slice (some ⟨b, o, none⟩) len c] w (Tells w (icmpR ⟨(m : Int), (n : Int), h2, 1, h4, h5⟩ l)) := by
 have hi := fun w' (hb : Below w.heap.size w w') => ricmp_any ⟨(m : Int), (n : Int), h2, 1, h4, h5⟩ l A (n - m) (c - m) _ w' ((hr.below hb).more hb.size) (Nat.le_refl _) (by omega) (by omega) (by omega) (by simp only; omega)
 generalize icmpR ⟨(m : Int), (n : Int), h2, 1, h4, h5⟩ l = R at *
 unfold Hd.val Tells
 simp only [Hd.val, Tells] at hi ⊢
 have d1 : decide ((m : Int) < 20) = false := by simp; omega
 have d2 : decide (60 < (m : Int)) = false := by simp; omega
 clear hr
 replace hi := Lib.hid hi
 go_enter Tryz.func23, Tryz.ntmps23
 go_upto_region 1 with fail
 have bh := (Blk.new w 52 (A4 (m : Int) (n : Int) h2 1 h4 h5)).alloc (.cells Z0 54)
 have bk := Blk.new (w.alloc (.cells (A4 (m : Int) (n : Int) h2 1 h4 h5) 52)) 54 Z0
 rw [show (w.alloc (.cells (A4 (m : Int) (n : Int) h2 1 h4 h5) 52)).heap.size = w.heap.size + 1 by simp] at bk
 have bel : Below w.heap.size w ((w.alloc (.cells (A4 (m : Int) (n : Int) h2 1 h4 h5) 52)).alloc (.cells Z0 54)) := (bel_alloc _ _).alloc (by simp) _
 generalize ((w.alloc (.cells (A4 (m : Int) (n : Int) h2 1 h4 h5) 52)).alloc (.cells Z0 54)) = W at *
 have q0 := bh.cell 0
 have q1 := bh.cell 1
 have q3 := bh.cell 3
 go_wp2_with (first | (refine wpList_stRow rfl rfl rfl rfl rfl (Blk.new _ _ _) rpt_size rfl (by simp [Value.oneCell']) ?_; have bp := (Blk.new W 54 Z0).setRow Z4; have hg3 : w.heap.size + 1 < W.heap.size := bk.lt; replace bk := (bk.alloc (.cells Z0 54)).setRow_far (g' := W.heap.size) (by omega) Z4; replace bh := (bh.alloc (.cells Z0 54)).setRow_far (g' := W.heap.size) (by omega) Z4; replace bel := below_setRow (bel.alloc bel.size (.cells Z0 54)) bel.size Z4; generalize (W.alloc (.cells Z0 54)).setRow W.heap.size Z4 = W1 at *; generalize W.heap.size = g3 at *; have q3 := bh.cell 3) | (refine wpList_ldRow rfl rfl rfl bp Tryz.underlying54 rpt_size ?_) | (refine wpList_ldRow rfl rfl rfl bh Tryz.underlying52 rhd_size ?_))
 refine (hi.out _ bel).mono ?_
 rintro e w' ⟨rfl, hb⟩
 replace bk := bk.bel hb
 replace bel := bel_after bel hb
 clear hb bh bp q0 q1 q3
 go_wp2_with (refine wpList_stRow rfl rfl rfl rfl rfl bk rpt_size rfl (by simp [Value.oneCell', Pt.z, Hd.z, portsP]) ?_)
 exact bodyPost_ret (results_row2 rfl _ rfl (bk.setRow _) Tryz.underlying54 rpt_size) rfl ⟨rfl, below_setRow bel (by omega) _⟩
theorem n2_zero {l : List Int} {i : Nat} (hl : ∀ x, x ∈ l → 0 ≤ x ∧ x ≤ 255) (h : i + 2 ≤ l.length) : n2 l i = 0 ↔ l.getD i 0 = 0 ∧ l.getD (i + 1) 0 = 0 := by
 rw [n2_eq l i h]
 have h1 := hl (l.getD i 0) (by rw [List.getD_eq_getElem?_getD, List.getElem?_eq_getElem (by omega)]; exact List.getElem_mem _)
 have h2 := hl (l.getD (i + 1) 0) (by rw [List.getD_eq_getElem?_getD, List.getElem?_eq_getElem (by omega)]; exact List.getElem_mem _)
 omega
theorem rPGet_udp (m n : Nat) (h2 h4 h5 : Int) (l : List Int) (A : Option Addr) (b o len c : Nat) (w : World) (hlc : len ≤ c) (hcm : c ≤ 9223372036854775807) (hl : len ≤ 60000) (hm1 : 20 ≤ m) (hm2 : m ≤ 60) (hm3 : m ≤ n) (hm4 : n ≤ len) (hA2 : (if c = m then some ⟨b, o, none⟩ else some ⟨b, o + m, none⟩) = A) (hr : Rd .u8 w w.heap.size A (n - m) l) (hs : 0 ≤ h4 ∧ h4 ≤ 4294967295) (hd : 0 ≤ h5 ∧ h5 ≤ 4294967295) :
  Calls Tryz.prog 23 #[(⟨(m : Int), (n : Int), h2, 17, h4, h5⟩ : Hd).val, .slice (some ⟨b, o, none⟩) len c] w (Tells w (udpR ⟨(m : Int), (n : Int), h2, 17, h4, h5⟩ l)) := by
 have hcs := udpR_cases ⟨(m : Int), (n : Int), h2, 17, h4, h5⟩ l
 rw [hr.len] at hcs
 generalize udpR ⟨(m : Int), (n : Int), h2, 17, h4, h5⟩ l = R at *
 unfold Hd.val Tells
 simp only at hcs ⊢
 have d1 : decide ((m : Int) < 20) = false := by simp; omega
 have d2 : decide (60 < (m : Int)) = false := by simp; omega
 rcases hcs with ⟨hlt, rfl⟩ | hcs
 ·have d3 : decide (n - m < 8) = true := by simpa using hlt
  have d4 : decide (((n - m : Nat) : Int) < 8) = true := by simp; omega
  clear hr
  go_enter Tryz.func23, Tryz.ntmps23
  go_upto_region 1 with fail
  have bh := (Blk.new w 52 (A4 (m : Int) (n : Int) h2 17 h4 h5)).alloc (.cells Z0 54)
  have bk := Blk.new (w.alloc (.cells (A4 (m : Int) (n : Int) h2 17 h4 h5) 52)) 54 Z0
  rw [show (w.alloc (.cells (A4 (m : Int) (n : Int) h2 17 h4 h5) 52)).heap.size = w.heap.size + 1 by simp] at bk
  have bel : Below w.heap.size w ((w.alloc (.cells (A4 (m : Int) (n : Int) h2 17 h4 h5) 52)).alloc (.cells Z0 54)) := (bel_alloc _ _).alloc (by simp) _
  generalize ((w.alloc (.cells (A4 (m : Int) (n : Int) h2 17 h4 h5) 52)).alloc (.cells Z0 54)) = W at *
  have q0 := bh.cell 0
  have q1 := bh.cell 1
  have q3 := bh.cell 3
  go_wp2_with (first | (refine wpList_stRow rfl rfl rfl rfl rfl (Blk.new _ _ _) rpt_size rfl (by simp [Value.oneCell']) ?_; have bp := (Blk.new W 54 Z0).setRow Z5; have hg3 : w.heap.size + 1 < W.heap.size := bk.lt; replace bk := (bk.alloc (.cells Z0 54)).setRow_far (g' := W.heap.size) (by omega) Z5; replace bh := (bh.alloc (.cells Z0 54)).setRow_far (g' := W.heap.size) (by omega) Z5; replace bel := below_setRow (bel.alloc bel.size (.cells Z0 54)) bel.size Z5; generalize (W.alloc (.cells Z0 54)).setRow W.heap.size Z5 = W1 at *; generalize W.heap.size = g3 at *; have q3 := bh.cell 3) | (refine wpList_stRow rfl rfl rfl rfl rfl bk rpt_size rfl (by simp [Value.oneCell', Pt.z, Hd.z, portsP]) ?_))
  exact bodyPost_ret (results_row2 rfl _ rfl (bk.setRow _) Tryz.underlying54 rpt_size) rfl ⟨rfl, below_setRow bel (by omega) _⟩
 have h8 : 8 ≤ n - m := by rcases hcs with ⟨h, _⟩ | ⟨h, _⟩ | ⟨h, _⟩ | ⟨h, _⟩ <;> exact h
 have hcm1 : (c = m) = False := by simp; omega
 rw [if_neg (by omega)] at hA2
 subst hA2
 have d3 : decide (n - m < 8) = false := by simp; omega
 have d4 : decide (((n - m : Nat) : Int) < 8) = false := by simp; omega
 have hlr : ∀ x, x ∈ l → 0 ≤ x ∧ x ≤ 255 := fun x hx => inr_u8 (hr.rng x hx)
 have hll := hr.len
 have hz6 := n2_zero hlr (i := 6) (by omega)
 have hb0 := n2_bd (i := 0) hlr (by omega)
 have hb2 := n2_bd (i := 2) hlr (by omega)
 have hb4 := n2_bd (i := 4) hlr (by omega)
 have hrd := fun w' (hb : Below w.heap.size w w') => (hr.below hb).more hb.size
 have hn0 := fun w' (hb : Below w.heap.size w w') => Num_any (seg l 0 2) (some ⟨b, o + m, none⟩) 2 (c - m) _ w' (by omega) ((hrd _ hb).sub 0 2 (by omega))
 have hn2 := fun w' (hb : Below w.heap.size w w') => Num_any (seg l 2 2) (some ⟨b, o + m + 2, none⟩) 2 (c - m - 2) _ w' (by omega) ((hrd _ hb).sub 2 2 (by omega))
 have hn4 := fun w' (hb : Below w.heap.size w w') => Num_any (seg l 4 2) (some ⟨b, o + m + 4, none⟩) 2 (c - m - 4) _ w' (by omega) ((hrd _ hb).sub 4 2 (by omega))
 have hps := fun w' (hb : Below w.heap.size w w') => Pseudo_any h4 h5 17 l (some ⟨b, o + m, none⟩) (n - m) (c - m) _ w' (hrd _ hb) (Nat.le_refl _) hs hd (by omega) (by omega)
 have hc6 := fun w' hb => (hrd w' hb).cell 6 (by omega)
 have hc7 := fun w' hb => (hrd w' hb).cell 7 (by omega)
 rw [show numOf (seg l 0 2) = n2 l 0 from rfl] at hn0
 rw [show numOf (seg l 2 2) = n2 l 2 from rfl] at hn2
 rw [show numOf (seg l 4 2) = n2 l 4 from rfl] at hn4
 have hP : ∀ x, (portsP { Pt.z with proto := 17, bare := x } l 0 2).val = .agg (A0 17 (n2 l 0) (n2 l 2) 0 0 0 false 0 0 0 0 0 0 0 x) := fun x => rfl
 obtain ⟨N0, hN0⟩ : ∃ N, N = n2 l 0 := ⟨_, rfl⟩
 obtain ⟨N2, hN2⟩ : ∃ N, N = n2 l 2 := ⟨_, rfl⟩
 obtain ⟨N4, hN4⟩ : ∃ N, N = n2 l 4 := ⟨_, rfl⟩
 obtain ⟨N6, hN6⟩ : ∃ N, N = n2 l 6 := ⟨_, rfl⟩
 obtain ⟨x6, hx6⟩ : ∃ N, N = l.getD 6 0 := ⟨_, rfl⟩
 obtain ⟨x7, hx7⟩ : ∃ N, N = l.getD 7 0 := ⟨_, rfl⟩
 obtain ⟨S, hS⟩ : ∃ N, N = csum h4 h5 17 l := ⟨_, rfl⟩
 rw [← hS] at hcs hps
 rw [← hN0] at hn0 hb0
 rw [← hN2] at hn2 hb2
 rw [← hN4] at hn4 hb4 hcs
 rw [← hN6] at hcs hz6
 rw [← hx6, ← hx7] at hz6
 simp only [← hN0, ← hN2] at hP
 simp only [← hx6] at hc6
 simp only [← hx7] at hc7
 clear hS hN0 hN2 hN4 hN6 hx6 hx7 hlr hll hrd hr
 replace hn0 := Lib.hid hn0
 replace hn2 := Lib.hid hn2
 replace hn4 := Lib.hid hn4
 replace hps := Lib.hid hps
 replace hP := Lib.hid hP
 replace hc6 := Lib.hid hc6
 replace hc7 := Lib.hid hc7
 rcases hcs with ⟨_, hne, rfl⟩ | ⟨_, heq, h6, hc, rfl⟩ | ⟨_, heq, h6, hc, rfl⟩ | ⟨_, heq, h6, rfl⟩
 ·have e1 : (N4 != ((n - m : Nat) : Int)) = true := by simpa using hne
  go_enter Tryz.func23, Tryz.ntmps23
  go_upto_region 1 with fail
  have bh := (Blk.new w 52 (A4 (m : Int) (n : Int) h2 17 h4 h5)).alloc (.cells Z0 54)
  have bk := Blk.new (w.alloc (.cells (A4 (m : Int) (n : Int) h2 17 h4 h5) 52)) 54 Z0
  rw [show (w.alloc (.cells (A4 (m : Int) (n : Int) h2 17 h4 h5) 52)).heap.size = w.heap.size + 1 by simp] at bk
  have bel : Below w.heap.size w ((w.alloc (.cells (A4 (m : Int) (n : Int) h2 17 h4 h5) 52)).alloc (.cells Z0 54)) := (bel_alloc _ _).alloc (by simp) _
  generalize ((w.alloc (.cells (A4 (m : Int) (n : Int) h2 17 h4 h5) 52)).alloc (.cells Z0 54)) = W at *
  have q0 := bh.cell 0
  have q1 := bh.cell 1
  have q3 := bh.cell 3
  go_wp2_with (refine wpList_stRow rfl rfl rfl rfl rfl (Blk.new _ _ _) rpt_size rfl (by simp [Value.oneCell']) ?_; have bp := (Blk.new W 54 Z0).setRow Z5; have hg3 : w.heap.size + 1 < W.heap.size := bk.lt; replace bk := (bk.alloc (.cells Z0 54)).setRow_far (g' := W.heap.size) (by omega) Z5; replace bh := (bh.alloc (.cells Z0 54)).setRow_far (g' := W.heap.size) (by omega) Z5; replace bel := below_setRow (bel.alloc bel.size (.cells Z0 54)) bel.size Z5; generalize (W.alloc (.cells Z0 54)).setRow W.heap.size Z5 = W1 at *; generalize W.heap.size = g3 at *; have q3 := bh.cell 3)
  refine (hn4.out _ bel).mono ?_
  rintro e w' ⟨rfl, rfl⟩
  go_wp2_with (refine wpList_stRow rfl rfl rfl rfl rfl bk rpt_size rfl (by simp [Value.oneCell', Pt.z, Hd.z, portsP]) ?_)
  exact bodyPost_ret (results_row2 rfl _ rfl (bk.setRow _) Tryz.underlying54 rpt_size) rfl ⟨rfl, below_setRow bel (by omega) _⟩
 ·subst heq
  have e3 : (S != 0) = true := by simpa using hc
  by_cases z6 : x6 = 0
  ·have e6 : (x6 == 0) = true := by simpa using z6
   have e7 : (x7 == 0) = false := by simp; intro z7; exact h6 (hz6.2 ⟨z6, z7⟩)
   clear hz6 h6 z6
   go_enter Tryz.func23, Tryz.ntmps23
   go_upto_region 1 with fail
   have bh := (Blk.new w 52 (A4 (m : Int) (n : Int) h2 17 h4 h5)).alloc (.cells Z0 54)
   have bk := Blk.new (w.alloc (.cells (A4 (m : Int) (n : Int) h2 17 h4 h5) 52)) 54 Z0
   rw [show (w.alloc (.cells (A4 (m : Int) (n : Int) h2 17 h4 h5) 52)).heap.size = w.heap.size + 1 by simp] at bk
   have bel : Below w.heap.size w ((w.alloc (.cells (A4 (m : Int) (n : Int) h2 17 h4 h5) 52)).alloc (.cells Z0 54)) := (bel_alloc _ _).alloc (by simp) _
   generalize ((w.alloc (.cells (A4 (m : Int) (n : Int) h2 17 h4 h5) 52)).alloc (.cells Z0 54)) = W at *
   have q0 := bh.cell 0
   have q1 := bh.cell 1
   have q3 := bh.cell 3
   go_wp2_with (refine wpList_stRow rfl rfl rfl rfl rfl (Blk.new _ _ _) rpt_size rfl (by simp [Value.oneCell']) ?_; have bp := (Blk.new W 54 Z0).setRow Z5; have hg3 : w.heap.size + 1 < W.heap.size := bk.lt; replace bk := (bk.alloc (.cells Z0 54)).setRow_far (g' := W.heap.size) (by omega) Z5; replace bh := (bh.alloc (.cells Z0 54)).setRow_far (g' := W.heap.size) (by omega) Z5; replace bel := below_setRow (bel.alloc bel.size (.cells Z0 54)) bel.size Z5; generalize (W.alloc (.cells Z0 54)).setRow W.heap.size Z5 = W1 at *; generalize W.heap.size = g3 at *; have q3 := bh.cell 3)
   refine (hn4.out _ bel).mono ?_
   rintro e w' ⟨rfl, rfl⟩
   obtain ⟨c6, r6⟩ := hc6.out _ bel
   obtain ⟨c7, r7⟩ := hc7.out _ bel
   replace r6 := inr_u8 r6
   replace r7 := inr_u8 r7
   have q14 := bp.cell 14
   have r14 := bp.frozen 14
   go_upto_region 13 with fail
   clear q14 r14 c6 c7 q0 q1 q3
   replace bh := bh.far (p := ⟨g3, 14, none⟩) (by show w.heap.size ≠ g3; omega) (.bool false)
   replace bk := bk.far (p := ⟨g3, 14, none⟩) (by show w.heap.size + 1 ≠ g3; omega) (.bool false)
   replace bel := bel.setCell (p := ⟨g3, 14, none⟩) (by show w.heap.size ≤ g3; omega) (.bool false)
   replace bp := bp.set_ 14 (.bool false)
   simp only [List.setIfInBounds_toArray, List.set_cons_succ, List.set_cons_zero] at bp
   generalize W1.setCell ⟨g3, 14, none⟩ (.bool false) = W2 at *
   have q14 := bp.cell 14
   have q4 := bh.cell 4
   have q5 := bh.cell 5
   go_wp2_with fail
   refine (hps.out _ bel).mono ?_
   rintro e W3 ⟨rfl, hb⟩
   replace bp := bp.bel hb
   replace bk := bk.bel hb
   replace bh := bh.bel hb
   replace bel := bel_after bel hb
   clear hb q4 q5 q14
   go_wp2_with (refine wpList_stRow rfl rfl rfl rfl rfl bk rpt_size rfl (by simp [Value.oneCell', Pt.z, Hd.z, portsP]) ?_)
   exact bodyPost_ret (results_row2 rfl _ rfl (bk.setRow _) Tryz.underlying54 rpt_size) rfl ⟨rfl, below_setRow bel (by omega) _⟩
  ·have e6 : (x6 == 0) = false := by simpa using z6
   clear hz6 h6 z6
   go_enter Tryz.func23, Tryz.ntmps23
   go_upto_region 1 with fail
   have bh := (Blk.new w 52 (A4 (m : Int) (n : Int) h2 17 h4 h5)).alloc (.cells Z0 54)
   have bk := Blk.new (w.alloc (.cells (A4 (m : Int) (n : Int) h2 17 h4 h5) 52)) 54 Z0
   rw [show (w.alloc (.cells (A4 (m : Int) (n : Int) h2 17 h4 h5) 52)).heap.size = w.heap.size + 1 by simp] at bk
   have bel : Below w.heap.size w ((w.alloc (.cells (A4 (m : Int) (n : Int) h2 17 h4 h5) 52)).alloc (.cells Z0 54)) := (bel_alloc _ _).alloc (by simp) _
   generalize ((w.alloc (.cells (A4 (m : Int) (n : Int) h2 17 h4 h5) 52)).alloc (.cells Z0 54)) = W at *
   have q0 := bh.cell 0
   have q1 := bh.cell 1
   have q3 := bh.cell 3
   go_wp2_with (refine wpList_stRow rfl rfl rfl rfl rfl (Blk.new _ _ _) rpt_size rfl (by simp [Value.oneCell']) ?_; have bp := (Blk.new W 54 Z0).setRow Z5; have hg3 : w.heap.size + 1 < W.heap.size := bk.lt; replace bk := (bk.alloc (.cells Z0 54)).setRow_far (g' := W.heap.size) (by omega) Z5; replace bh := (bh.alloc (.cells Z0 54)).setRow_far (g' := W.heap.size) (by omega) Z5; replace bel := below_setRow (bel.alloc bel.size (.cells Z0 54)) bel.size Z5; generalize (W.alloc (.cells Z0 54)).setRow W.heap.size Z5 = W1 at *; generalize W.heap.size = g3 at *; have q3 := bh.cell 3)
   refine (hn4.out _ bel).mono ?_
   rintro e w' ⟨rfl, rfl⟩
   obtain ⟨c6, r6⟩ := hc6.out _ bel
   obtain ⟨c7, r7⟩ := hc7.out _ bel
   replace r6 := inr_u8 r6
   replace r7 := inr_u8 r7
   have q14 := bp.cell 14
   have r14 := bp.frozen 14
   go_upto_region 13 with fail
   clear q14 r14 c6 c7 q0 q1 q3
   replace bh := bh.far (p := ⟨g3, 14, none⟩) (by show w.heap.size ≠ g3; omega) (.bool false)
   replace bk := bk.far (p := ⟨g3, 14, none⟩) (by show w.heap.size + 1 ≠ g3; omega) (.bool false)
   replace bel := bel.setCell (p := ⟨g3, 14, none⟩) (by show w.heap.size ≤ g3; omega) (.bool false)
   replace bp := bp.set_ 14 (.bool false)
   simp only [List.setIfInBounds_toArray, List.set_cons_succ, List.set_cons_zero] at bp
   generalize W1.setCell ⟨g3, 14, none⟩ (.bool false) = W2 at *
   have q14 := bp.cell 14
   have q4 := bh.cell 4
   have q5 := bh.cell 5
   go_wp2_with fail
   refine (hps.out _ bel).mono ?_
   rintro e W3 ⟨rfl, hb⟩
   replace bp := bp.bel hb
   replace bk := bk.bel hb
   replace bh := bh.bel hb
   replace bel := bel_after bel hb
   clear hb q4 q5 q14
   go_wp2_with (refine wpList_stRow rfl rfl rfl rfl rfl bk rpt_size rfl (by simp [Value.oneCell', Pt.z, Hd.z, portsP]) ?_)
   exact bodyPost_ret (results_row2 rfl _ rfl (bk.setRow _) Tryz.underlying54 rpt_size) rfl ⟨rfl, below_setRow bel (by omega) _⟩
 ·subst heq
  subst hc
  by_cases z6 : x6 = 0
  ·have e6 : (x6 == 0) = true := by simpa using z6
   have e7 : (x7 == 0) = false := by simp; intro z7; exact h6 (hz6.2 ⟨z6, z7⟩)
   clear hz6 h6 z6
   go_enter Tryz.func23, Tryz.ntmps23
   go_upto_region 1 with fail
   have bh := (Blk.new w 52 (A4 (m : Int) (n : Int) h2 17 h4 h5)).alloc (.cells Z0 54)
   have bk := Blk.new (w.alloc (.cells (A4 (m : Int) (n : Int) h2 17 h4 h5) 52)) 54 Z0
   rw [show (w.alloc (.cells (A4 (m : Int) (n : Int) h2 17 h4 h5) 52)).heap.size = w.heap.size + 1 by simp] at bk
   have bel : Below w.heap.size w ((w.alloc (.cells (A4 (m : Int) (n : Int) h2 17 h4 h5) 52)).alloc (.cells Z0 54)) := (bel_alloc _ _).alloc (by simp) _
   generalize ((w.alloc (.cells (A4 (m : Int) (n : Int) h2 17 h4 h5) 52)).alloc (.cells Z0 54)) = W at *
   have q0 := bh.cell 0
   have q1 := bh.cell 1
   have q3 := bh.cell 3
   go_wp2_with (refine wpList_stRow rfl rfl rfl rfl rfl (Blk.new _ _ _) rpt_size rfl (by simp [Value.oneCell']) ?_; have bp := (Blk.new W 54 Z0).setRow Z5; have hg3 : w.heap.size + 1 < W.heap.size := bk.lt; replace bk := (bk.alloc (.cells Z0 54)).setRow_far (g' := W.heap.size) (by omega) Z5; replace bh := (bh.alloc (.cells Z0 54)).setRow_far (g' := W.heap.size) (by omega) Z5; replace bel := below_setRow (bel.alloc bel.size (.cells Z0 54)) bel.size Z5; generalize (W.alloc (.cells Z0 54)).setRow W.heap.size Z5 = W1 at *; generalize W.heap.size = g3 at *; have q3 := bh.cell 3)
   refine (hn4.out _ bel).mono ?_
   rintro e w' ⟨rfl, rfl⟩
   obtain ⟨c6, r6⟩ := hc6.out _ bel
   obtain ⟨c7, r7⟩ := hc7.out _ bel
   replace r6 := inr_u8 r6
   replace r7 := inr_u8 r7
   have q14 := bp.cell 14
   have r14 := bp.frozen 14
   go_upto_region 13 with fail
   clear q14 r14 c6 c7 q0 q1 q3
   replace bh := bh.far (p := ⟨g3, 14, none⟩) (by show w.heap.size ≠ g3; omega) (.bool false)
   replace bk := bk.far (p := ⟨g3, 14, none⟩) (by show w.heap.size + 1 ≠ g3; omega) (.bool false)
   replace bel := bel.setCell (p := ⟨g3, 14, none⟩) (by show w.heap.size ≤ g3; omega) (.bool false)
   replace bp := bp.set_ 14 (.bool false)
   simp only [List.setIfInBounds_toArray, List.set_cons_succ, List.set_cons_zero] at bp
   generalize W1.setCell ⟨g3, 14, none⟩ (.bool false) = W2 at *
   have q14 := bp.cell 14
   have q4 := bh.cell 4
   have q5 := bh.cell 5
   go_wp2_with fail
   refine (hps.out _ bel).mono ?_
   rintro e W3 ⟨rfl, hb⟩
   replace bp := bp.bel hb
   replace bk := bk.bel hb
   replace bh := bh.bel hb
   replace bel := bel_after bel hb
   clear hb q4 q5 q14
   go_upto_region 26 with fail
   have : Nonempty (Tw (fun w' => Below w.heap.size w w')) := ⟨⟨_, bel⟩⟩
   refine wp_region_plan (fun w' => Below w.heap.size w w') [(0, true), (1, true), (4, true), (5, true), (2, false), (3, true), (8, true), (6, false), (7, true), (9, false), (10, true), (11, false)] (by kernel_rfl) (by kernel_rfl) (by kernel_rfl) (by kernel_rfl) bel.drew ?_
   replace bp := bp.drew
   replace bk := bk.drew
   replace bel := bel.drew
   generalize W3.drew = W8 at *
   refine wpPl_qs 4 _ _ _ (by kernel_rfl) (by kernel_rfl) (by simp) ?_
   unfold clsS
   simp only [qq1, qq2, qq3, qq4, List.filterMap_cons, qq6, qq7, qq8, qq9]
   repeat (first | go_big_quiet_skip | (go_big_quiet_want; go_big_quiet_op; go_big_quiet_on) | refine id (?_ : wpQuiet _ _ _ _ (_ :: _) _))
   refine wpQuiet_nil ?_
   refine wpPl_e _ (by rfl) (by kernel_rfl) (fun K hK => ?_)
   go_simp
   refine (hn0.out _ bel).mono ?_
   rintro e w1 ⟨rfl, rfl⟩
   refine hK _ _ bel ?_
   clear hK K
   refine wpPl_qs 2 _ _ _ (by kernel_rfl) (by kernel_rfl) (by simp) ?_
   unfold clsS
   simp only [qq1, qq2, qq3, qq4, List.filterMap_cons, qq6, qq7, qq8, qq9]
   repeat (first | go_big_quiet_skip | (go_big_quiet_want; go_big_quiet_op; go_big_quiet_on) | refine id (?_ : wpQuiet _ _ _ _ (_ :: _) _))
   refine wpQuiet_nil ?_
   refine wpPl_e _ (by rfl) (by kernel_rfl) (fun K hK => ?_)
   go_simp
   refine (hn2.out _ bel).mono ?_
   rintro e w1 ⟨rfl, rfl⟩
   refine hK _ _ bel ?_
   clear hK K
   refine wpPl_qs 1 _ _ _ (by kernel_rfl) (by kernel_rfl) (by simp) ?_
   unfold clsS
   simp only [qq1, qq2, qq3, qq4, List.filterMap_cons, qq6, qq7, qq8, qq9]
   repeat (first | go_big_quiet_skip | (go_big_quiet_want; go_big_quiet_op; go_big_quiet_on) | refine id (?_ : wpQuiet _ _ _ _ (_ :: _) _))
   refine wpQuiet_nil ?_
   have q1 := bp.cell 1
   have r1 := bp.frozen 1
   refine wpPl_e _ (by rfl) (by kernel_rfl) (fun K hK => ?_)
   go_simp
   replace bk := bk.far (p := ⟨g3, 1, none⟩) (by show w.heap.size + 1 ≠ g3; omega) (.int .u16 N0)
   replace bel := bel.setCell (p := ⟨g3, 1, none⟩) (by show w.heap.size ≤ g3; omega) (.int .u16 N0)
   replace bp := bp.set_ 1 (.int .u16 N0)
   clear q1 r1
   refine hK _ _ bel ?_
   clear hK K
   refine wpPl_qs 1 _ _ _ (by kernel_rfl) (by kernel_rfl) (by simp) ?_
   unfold clsS
   simp only [qq1, qq2, qq3, qq4, List.filterMap_cons, qq6, qq7, qq8, qq9]
   repeat (first | go_big_quiet_skip | (go_big_quiet_want; go_big_quiet_op; go_big_quiet_on) | refine id (?_ : wpQuiet _ _ _ _ (_ :: _) _))
   refine wpQuiet_nil ?_
   have q2 := bp.cell 2
   have r2 := bp.frozen 2
   refine wpPl_e _ (by rfl) (by kernel_rfl) (fun K hK => ?_)
   go_simp
   replace bk := bk.far (p := ⟨g3, 2, none⟩) (by show w.heap.size + 1 ≠ g3; omega) (.int .u16 N2)
   replace bel := bel.setCell (p := ⟨g3, 2, none⟩) (by show w.heap.size ≤ g3; omega) (.int .u16 N2)
   replace bp := bp.set_ 2 (.int .u16 N2)
   clear q2 r2
   refine hK _ _ bel ?_
   clear hK K
   unfold wpPl
   refine NoPanic.normal ?_
   simp only [List.setIfInBounds_toArray, List.set_cons_succ, List.set_cons_zero] at bp
   generalize ((W8.setCell ⟨g3, 1, none⟩ (.int .u16 N0)).setCell ⟨g3, 2, none⟩ (.int .u16 N2)) = W9 at *
   go_wp2_with (first
    | (refine wpList_ldRow rfl rfl rfl bp Tryz.underlying54 rpt_size ?_)
    | (refine wpList_stRow rfl rfl rfl rfl rfl bk rpt_size rfl (by simp [Value.oneCell']) ?_))
   refine bodyPost_ret (results_row2 rfl _ rfl (bk.setRow _) Tryz.underlying54 rpt_size) rfl ⟨?_, below_setRow bel (by omega) _⟩
   exact congrArg (fun x => Ending.returned (.tuple #[x, .int .i64 0])) (hP.out false).symm
  ·have e6 : (x6 == 0) = false := by simpa using z6
   clear hz6 h6 z6
   go_enter Tryz.func23, Tryz.ntmps23
   go_upto_region 1 with fail
   have bh := (Blk.new w 52 (A4 (m : Int) (n : Int) h2 17 h4 h5)).alloc (.cells Z0 54)
   have bk := Blk.new (w.alloc (.cells (A4 (m : Int) (n : Int) h2 17 h4 h5) 52)) 54 Z0
   rw [show (w.alloc (.cells (A4 (m : Int) (n : Int) h2 17 h4 h5) 52)).heap.size = w.heap.size + 1 by simp] at bk
   have bel : Below w.heap.size w ((w.alloc (.cells (A4 (m : Int) (n : Int) h2 17 h4 h5) 52)).alloc (.cells Z0 54)) := (bel_alloc _ _).alloc (by simp) _
   generalize ((w.alloc (.cells (A4 (m : Int) (n : Int) h2 17 h4 h5) 52)).alloc (.cells Z0 54)) = W at *
   have q0 := bh.cell 0
   have q1 := bh.cell 1
   have q3 := bh.cell 3
   go_wp2_with (refine wpList_stRow rfl rfl rfl rfl rfl (Blk.new _ _ _) rpt_size rfl (by simp [Value.oneCell']) ?_; have bp := (Blk.new W 54 Z0).setRow Z5; have hg3 : w.heap.size + 1 < W.heap.size := bk.lt; replace bk := (bk.alloc (.cells Z0 54)).setRow_far (g' := W.heap.size) (by omega) Z5; replace bh := (bh.alloc (.cells Z0 54)).setRow_far (g' := W.heap.size) (by omega) Z5; replace bel := below_setRow (bel.alloc bel.size (.cells Z0 54)) bel.size Z5; generalize (W.alloc (.cells Z0 54)).setRow W.heap.size Z5 = W1 at *; generalize W.heap.size = g3 at *; have q3 := bh.cell 3)
   refine (hn4.out _ bel).mono ?_
   rintro e w' ⟨rfl, rfl⟩
   obtain ⟨c6, r6⟩ := hc6.out _ bel
   obtain ⟨c7, r7⟩ := hc7.out _ bel
   replace r6 := inr_u8 r6
   replace r7 := inr_u8 r7
   have q14 := bp.cell 14
   have r14 := bp.frozen 14
   go_upto_region 13 with fail
   clear q14 r14 c6 c7 q0 q1 q3
   replace bh := bh.far (p := ⟨g3, 14, none⟩) (by show w.heap.size ≠ g3; omega) (.bool false)
   replace bk := bk.far (p := ⟨g3, 14, none⟩) (by show w.heap.size + 1 ≠ g3; omega) (.bool false)
   replace bel := bel.setCell (p := ⟨g3, 14, none⟩) (by show w.heap.size ≤ g3; omega) (.bool false)
   replace bp := bp.set_ 14 (.bool false)
   simp only [List.setIfInBounds_toArray, List.set_cons_succ, List.set_cons_zero] at bp
   generalize W1.setCell ⟨g3, 14, none⟩ (.bool false) = W2 at *
   have q14 := bp.cell 14
   have q4 := bh.cell 4
   have q5 := bh.cell 5
   go_wp2_with fail
   refine (hps.out _ bel).mono ?_
   rintro e W3 ⟨rfl, hb⟩
   replace bp := bp.bel hb
   replace bk := bk.bel hb
   replace bh := bh.bel hb
   replace bel := bel_after bel hb
   clear hb q4 q5 q14
   go_upto_region 26 with fail
   have : Nonempty (Tw (fun w' => Below w.heap.size w w')) := ⟨⟨_, bel⟩⟩
   refine wp_region_plan (fun w' => Below w.heap.size w w') [(0, true), (1, true), (4, true), (5, true), (2, false), (3, true), (8, true), (6, false), (7, true), (9, false), (10, true), (11, false)] (by kernel_rfl) (by kernel_rfl) (by kernel_rfl) (by kernel_rfl) bel.drew ?_
   replace bp := bp.drew
   replace bk := bk.drew
   replace bel := bel.drew
   generalize W3.drew = W8 at *
   refine wpPl_qs 4 _ _ _ (by kernel_rfl) (by kernel_rfl) (by simp) ?_
   unfold clsS
   simp only [qq1, qq2, qq3, qq4, List.filterMap_cons, qq6, qq7, qq8, qq9]
   repeat (first | go_big_quiet_skip | (go_big_quiet_want; go_big_quiet_op; go_big_quiet_on) | refine id (?_ : wpQuiet _ _ _ _ (_ :: _) _))
   refine wpQuiet_nil ?_
   refine wpPl_e _ (by rfl) (by kernel_rfl) (fun K hK => ?_)
   go_simp
   refine (hn0.out _ bel).mono ?_
   rintro e w1 ⟨rfl, rfl⟩
   refine hK _ _ bel ?_
   clear hK K
   refine wpPl_qs 2 _ _ _ (by kernel_rfl) (by kernel_rfl) (by simp) ?_
   unfold clsS
   simp only [qq1, qq2, qq3, qq4, List.filterMap_cons, qq6, qq7, qq8, qq9]
   repeat (first | go_big_quiet_skip | (go_big_quiet_want; go_big_quiet_op; go_big_quiet_on) | refine id (?_ : wpQuiet _ _ _ _ (_ :: _) _))
   refine wpQuiet_nil ?_
   refine wpPl_e _ (by rfl) (by kernel_rfl) (fun K hK => ?_)
   go_simp
   refine (hn2.out _ bel).mono ?_
   rintro e w1 ⟨rfl, rfl⟩
   refine hK _ _ bel ?_
   clear hK K
   refine wpPl_qs 1 _ _ _ (by kernel_rfl) (by kernel_rfl) (by simp) ?_
   unfold clsS
   simp only [qq1, qq2, qq3, qq4, List.filterMap_cons, qq6, qq7, qq8, qq9]
   repeat (first | go_big_quiet_skip | (go_big_quiet_want; go_big_quiet_op; go_big_quiet_on) | refine id (?_ : wpQuiet _ _ _ _ (_ :: _) _))
   refine wpQuiet_nil ?_
   have q1 := bp.cell 1
   have r1 := bp.frozen 1
   refine wpPl_e _ (by rfl) (by kernel_rfl) (fun K hK => ?_)
   go_simp
   replace bk := bk.far (p := ⟨g3, 1, none⟩) (by show w.heap.size + 1 ≠ g3; omega) (.int .u16 N0)
   replace bel := bel.setCell (p := ⟨g3, 1, none⟩) (by show w.heap.size ≤ g3; omega) (.int .u16 N0)
   replace bp := bp.set_ 1 (.int .u16 N0)
   clear q1 r1
   refine hK _ _ bel ?_
   clear hK K
   refine wpPl_qs 1 _ _ _ (by kernel_rfl) (by kernel_rfl) (by simp) ?_
   unfold clsS
   simp only [qq1, qq2, qq3, qq4, List.filterMap_cons, qq6, qq7, qq8, qq9]
   repeat (first | go_big_quiet_skip | (go_big_quiet_want; go_big_quiet_op; go_big_quiet_on) | refine id (?_ : wpQuiet _ _ _ _ (_ :: _) _))
   refine wpQuiet_nil ?_
   have q2 := bp.cell 2
   have r2 := bp.frozen 2
   refine wpPl_e _ (by rfl) (by kernel_rfl) (fun K hK => ?_)
   go_simp
   replace bk := bk.far (p := ⟨g3, 2, none⟩) (by show w.heap.size + 1 ≠ g3; omega) (.int .u16 N2)
   replace bel := bel.setCell (p := ⟨g3, 2, none⟩) (by show w.heap.size ≤ g3; omega) (.int .u16 N2)
   replace bp := bp.set_ 2 (.int .u16 N2)
   clear q2 r2
   refine hK _ _ bel ?_
   clear hK K
   unfold wpPl
   refine NoPanic.normal ?_
   simp only [List.setIfInBounds_toArray, List.set_cons_succ, List.set_cons_zero] at bp
   generalize ((W8.setCell ⟨g3, 1, none⟩ (.int .u16 N0)).setCell ⟨g3, 2, none⟩ (.int .u16 N2)) = W9 at *
   go_wp2_with (first
    | (refine wpList_ldRow rfl rfl rfl bp Tryz.underlying54 rpt_size ?_)
    | (refine wpList_stRow rfl rfl rfl rfl rfl bk rpt_size rfl (by simp [Value.oneCell']) ?_))
   refine bodyPost_ret (results_row2 rfl _ rfl (bk.setRow _) Tryz.underlying54 rpt_size) rfl ⟨?_, below_setRow bel (by omega) _⟩
   exact congrArg (fun x => Ending.returned (.tuple #[x, .int .i64 0])) (hP.out false).symm
 ·subst heq
  have e6 : (x6 == 0) = true := by simpa using (hz6.1 h6).1
  have e7 : (x7 == 0) = true := by simpa using (hz6.1 h6).2
  clear hz6 h6
  go_enter Tryz.func23, Tryz.ntmps23
  go_upto_region 1 with fail
  have bh := (Blk.new w 52 (A4 (m : Int) (n : Int) h2 17 h4 h5)).alloc (.cells Z0 54)
  have bk := Blk.new (w.alloc (.cells (A4 (m : Int) (n : Int) h2 17 h4 h5) 52)) 54 Z0
  rw [show (w.alloc (.cells (A4 (m : Int) (n : Int) h2 17 h4 h5) 52)).heap.size = w.heap.size + 1 by simp] at bk
  have bel : Below w.heap.size w ((w.alloc (.cells (A4 (m : Int) (n : Int) h2 17 h4 h5) 52)).alloc (.cells Z0 54)) := (bel_alloc _ _).alloc (by simp) _
  generalize ((w.alloc (.cells (A4 (m : Int) (n : Int) h2 17 h4 h5) 52)).alloc (.cells Z0 54)) = W at *
  have q0 := bh.cell 0
  have q1 := bh.cell 1
  have q3 := bh.cell 3
  go_wp2_with (refine wpList_stRow rfl rfl rfl rfl rfl (Blk.new _ _ _) rpt_size rfl (by simp [Value.oneCell']) ?_; have bp := (Blk.new W 54 Z0).setRow Z5; have hg3 : w.heap.size + 1 < W.heap.size := bk.lt; replace bk := (bk.alloc (.cells Z0 54)).setRow_far (g' := W.heap.size) (by omega) Z5; replace bh := (bh.alloc (.cells Z0 54)).setRow_far (g' := W.heap.size) (by omega) Z5; replace bel := below_setRow (bel.alloc bel.size (.cells Z0 54)) bel.size Z5; generalize (W.alloc (.cells Z0 54)).setRow W.heap.size Z5 = W1 at *; generalize W.heap.size = g3 at *; have q3 := bh.cell 3)
  refine (hn4.out _ bel).mono ?_
  rintro e w' ⟨rfl, rfl⟩
  obtain ⟨c6, r6⟩ := hc6.out _ bel
  obtain ⟨c7, r7⟩ := hc7.out _ bel
  replace r6 := inr_u8 r6
  replace r7 := inr_u8 r7
  have q14 := bp.cell 14
  have r14 := bp.frozen 14
  go_upto_region 13 with fail
  clear q14 r14 c6 c7 q0 q1 q3
  replace bh := bh.far (p := ⟨g3, 14, none⟩) (by show w.heap.size ≠ g3; omega) (.bool true)
  replace bk := bk.far (p := ⟨g3, 14, none⟩) (by show w.heap.size + 1 ≠ g3; omega) (.bool true)
  replace bel := bel.setCell (p := ⟨g3, 14, none⟩) (by show w.heap.size ≤ g3; omega) (.bool true)
  replace bp := bp.set_ 14 (.bool true)
  simp only [List.setIfInBounds_toArray, List.set_cons_succ, List.set_cons_zero] at bp
  generalize W1.setCell ⟨g3, 14, none⟩ (.bool true) = W2 at *
  have q14 := bp.cell 14
  go_upto_region 26 with fail
  have : Nonempty (Tw (fun w' => Below w.heap.size w w')) := ⟨⟨_, bel⟩⟩
  refine wp_region_plan (fun w' => Below w.heap.size w w') [(0, true), (1, true), (4, true), (5, true), (2, false), (3, true), (8, true), (6, false), (7, true), (9, false), (10, true), (11, false)] (by kernel_rfl) (by kernel_rfl) (by kernel_rfl) (by kernel_rfl) bel.drew ?_
  replace bp := bp.drew
  replace bk := bk.drew
  replace bel := bel.drew
  generalize W2.drew = W8 at *
  refine wpPl_qs 4 _ _ _ (by kernel_rfl) (by kernel_rfl) (by simp) ?_
  unfold clsS
  simp only [qq1, qq2, qq3, qq4, List.filterMap_cons, qq6, qq7, qq8, qq9]
  repeat (first | go_big_quiet_skip | (go_big_quiet_want; go_big_quiet_op; go_big_quiet_on) | refine id (?_ : wpQuiet _ _ _ _ (_ :: _) _))
  refine wpQuiet_nil ?_
  refine wpPl_e _ (by rfl) (by kernel_rfl) (fun K hK => ?_)
  go_simp
  refine (hn0.out _ bel).mono ?_
  rintro e w1 ⟨rfl, rfl⟩
  refine hK _ _ bel ?_
  clear hK K
  refine wpPl_qs 2 _ _ _ (by kernel_rfl) (by kernel_rfl) (by simp) ?_
  unfold clsS
  simp only [qq1, qq2, qq3, qq4, List.filterMap_cons, qq6, qq7, qq8, qq9]
  repeat (first | go_big_quiet_skip | (go_big_quiet_want; go_big_quiet_op; go_big_quiet_on) | refine id (?_ : wpQuiet _ _ _ _ (_ :: _) _))
  refine wpQuiet_nil ?_
  refine wpPl_e _ (by rfl) (by kernel_rfl) (fun K hK => ?_)
  go_simp
  refine (hn2.out _ bel).mono ?_
  rintro e w1 ⟨rfl, rfl⟩
  refine hK _ _ bel ?_
  clear hK K
  refine wpPl_qs 1 _ _ _ (by kernel_rfl) (by kernel_rfl) (by simp) ?_
  unfold clsS
  simp only [qq1, qq2, qq3, qq4, List.filterMap_cons, qq6, qq7, qq8, qq9]
  repeat (first | go_big_quiet_skip | (go_big_quiet_want; go_big_quiet_op; go_big_quiet_on) | refine id (?_ : wpQuiet _ _ _ _ (_ :: _) _))
  refine wpQuiet_nil ?_
  have q1 := bp.cell 1
  have r1 := bp.frozen 1
  refine wpPl_e _ (by rfl) (by kernel_rfl) (fun K hK => ?_)
  go_simp
  replace bk := bk.far (p := ⟨g3, 1, none⟩) (by show w.heap.size + 1 ≠ g3; omega) (.int .u16 N0)
  replace bel := bel.setCell (p := ⟨g3, 1, none⟩) (by show w.heap.size ≤ g3; omega) (.int .u16 N0)
  replace bp := bp.set_ 1 (.int .u16 N0)
  clear q1 r1
  refine hK _ _ bel ?_
  clear hK K
  refine wpPl_qs 1 _ _ _ (by kernel_rfl) (by kernel_rfl) (by simp) ?_
  unfold clsS
  simp only [qq1, qq2, qq3, qq4, List.filterMap_cons, qq6, qq7, qq8, qq9]
  repeat (first | go_big_quiet_skip | (go_big_quiet_want; go_big_quiet_op; go_big_quiet_on) | refine id (?_ : wpQuiet _ _ _ _ (_ :: _) _))
  refine wpQuiet_nil ?_
  have q2 := bp.cell 2
  have r2 := bp.frozen 2
  refine wpPl_e _ (by rfl) (by kernel_rfl) (fun K hK => ?_)
  go_simp
  replace bk := bk.far (p := ⟨g3, 2, none⟩) (by show w.heap.size + 1 ≠ g3; omega) (.int .u16 N2)
  replace bel := bel.setCell (p := ⟨g3, 2, none⟩) (by show w.heap.size ≤ g3; omega) (.int .u16 N2)
  replace bp := bp.set_ 2 (.int .u16 N2)
  clear q2 r2
  refine hK _ _ bel ?_
  clear hK K
  unfold wpPl
  refine NoPanic.normal ?_
  simp only [List.setIfInBounds_toArray, List.set_cons_succ, List.set_cons_zero] at bp
  generalize ((W8.setCell ⟨g3, 1, none⟩ (.int .u16 N0)).setCell ⟨g3, 2, none⟩ (.int .u16 N2)) = W9 at *
  go_wp2_with (first
   | (refine wpList_ldRow rfl rfl rfl bp Tryz.underlying54 rpt_size ?_)
   | (refine wpList_stRow rfl rfl rfl rfl rfl bk rpt_size rfl (by simp [Value.oneCell']) ?_))
  refine bodyPost_ret (results_row2 rfl _ rfl (bk.setRow _) Tryz.underlying54 rpt_size) rfl ⟨?_, below_setRow bel (by omega) _⟩
  exact congrArg (fun x => Ending.returned (.tuple #[x, .int .i64 0])) (hP.out true).symm
end Go.Proofs.YtbichbdcibchlaaGreat
