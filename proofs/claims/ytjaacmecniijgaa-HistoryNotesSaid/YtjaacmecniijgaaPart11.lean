/- The document's side of package part: icmp. -/
import Derived.Test.YtjaacmecniijgaaPart10
namespace Go.Proofs.Ytjaacmecniijgaa
set_option linter.unusedVariables false
set_option linter.unusedSimpArgs false
open Go.RowKit
theorem rpt_size : (Try.prog.info? 97).map (·.size) = some 15 := by kernel_rfl
theorem rhd_size : (Try.prog.info? 77).map (·.size) = some 6 := by kernel_rfl
set_option maxRecDepth 100000 in
set_option maxHeartbeats 2000000 in
theorem ricmp_plain (h : Hd) (l : List Int) (A : Option Addr) (len c B : Nat) (w : World) (hr : Rd .u8 w B A len l) (hB : B ≤ w.heap.size) (hlc : len ≤ c) (hcm : c ≤ 9223372036854775807) (hl : len ≤ 100000) (hh : 0 ≤ h.size ∧ h.size ≤ 1000) (hnf : 8 ≤ l.length → sumOf l = 0 → ¬ (l.getD 0 0 = 3 ∨ l.getD 0 0 = 11 ∨ l.getD 0 0 = 12)) :
    Calls Try.prog 66 #[.agg #[.int .i64 1, .int .u16 0, .int .u16 0, .int .i64 0, .int .i64 0, .int .i64 0, .bool false, .int .i64 0, .int .i64 0, .int .i64 0, .int .i64 0, .int .u32 0, .int .u32 0, .int .i64 0, .bool false], h.val, .slice A len c] w (Tells w (icmpR h l)) := by
  have hcs := icmpR_cases h l rfl
  rw [hr.len] at hcs hnf
  have hrB := hr.more hB
  have hsm := fun w' (hb : Below w.heap.size w w') => rOf_any l A len c _ w' hl (hrB.below hb)
  obtain ⟨h0, h1, h2, h3, h4, h5⟩ := h
  unfold Hd.val Tells
  simp only at hh hcs ⊢
  generalize icmpR ⟨h0, h1, h2, h3, h4, h5⟩ l = R at *
  generalize hf0 : l.getD 0 0 = f0 at *
  generalize hf1 : l.getD 1 0 = f1 at *
  obtain ⟨S, hS⟩ : ∃ S, S = sumOf l := ⟨_, rfl⟩
  rw [← hS] at hsm hcs hnf
  replace hsm := Lib.hid hsm
  clear hS
  rcases hcs with ⟨hlt, rfl⟩ | ⟨h8, ⟨hne, rfl⟩ | ⟨rfl, hcs⟩⟩
  · clear hf0 hf1 hnf
    have d1 : decide (len < 8) = true := by simpa using hlt
    have d2 : decide ((len : Int) < 8) = true := by simp; omega
    go_enter Try.func66, Try.ntmps66
    go_upto_region 1 with fail
    have bp := ((Blk.new w 97 #[.int .i64 1, .int .u16 0, .int .u16 0, .int .i64 0, .int .i64 0, .int .i64 0, .bool false, .int .i64 0, .int .i64 0, .int .i64 0, .int .i64 0, .int .u32 0, .int .u32 0, .int .i64 0, .bool false]).alloc (.cells #[.int .i64 h0, .int .i64 h1, .int .i64 h2, .int .i64 h3, .int .u32 h4, .int .u32 h5] 77)).alloc (.cells #[.int .i64 0, .int .u16 0, .int .u16 0, .int .i64 0, .int .i64 0, .int .i64 0, .bool false, .int .i64 0, .int .i64 0, .int .i64 0, .int .i64 0, .int .u32 0, .int .u32 0, .int .i64 0, .bool false] 97)
    have bh := (Blk.new (w.alloc (.cells #[.int .i64 1, .int .u16 0, .int .u16 0, .int .i64 0, .int .i64 0, .int .i64 0, .bool false, .int .i64 0, .int .i64 0, .int .i64 0, .int .i64 0, .int .u32 0, .int .u32 0, .int .i64 0, .bool false] 97)) 77 #[.int .i64 h0, .int .i64 h1, .int .i64 h2, .int .i64 h3, .int .u32 h4, .int .u32 h5]).alloc (.cells #[.int .i64 0, .int .u16 0, .int .u16 0, .int .i64 0, .int .i64 0, .int .i64 0, .bool false, .int .i64 0, .int .i64 0, .int .i64 0, .int .i64 0, .int .u32 0, .int .u32 0, .int .i64 0, .bool false] 97)
    have bk := Blk.new ((w.alloc (.cells #[.int .i64 1, .int .u16 0, .int .u16 0, .int .i64 0, .int .i64 0, .int .i64 0, .bool false, .int .i64 0, .int .i64 0, .int .i64 0, .int .i64 0, .int .u32 0, .int .u32 0, .int .i64 0, .bool false] 97)).alloc (.cells #[.int .i64 h0, .int .i64 h1, .int .i64 h2, .int .i64 h3, .int .u32 h4, .int .u32 h5] 77)) 97 #[.int .i64 0, .int .u16 0, .int .u16 0, .int .i64 0, .int .i64 0, .int .i64 0, .bool false, .int .i64 0, .int .i64 0, .int .i64 0, .int .i64 0, .int .u32 0, .int .u32 0, .int .i64 0, .bool false]
    rw [show (w.alloc (.cells #[.int .i64 1, .int .u16 0, .int .u16 0, .int .i64 0, .int .i64 0, .int .i64 0, .bool false, .int .i64 0, .int .i64 0, .int .i64 0, .int .i64 0, .int .u32 0, .int .u32 0, .int .i64 0, .bool false] 97)).heap.size = w.heap.size + 1 by simp] at bh
    rw [show ((w.alloc (.cells #[.int .i64 1, .int .u16 0, .int .u16 0, .int .i64 0, .int .i64 0, .int .i64 0, .bool false, .int .i64 0, .int .i64 0, .int .i64 0, .int .i64 0, .int .u32 0, .int .u32 0, .int .i64 0, .bool false] 97)).alloc (.cells #[.int .i64 h0, .int .i64 h1, .int .i64 h2, .int .i64 h3, .int .u32 h4, .int .u32 h5] 77)).heap.size = w.heap.size + 2 by simp] at bk
    have bel : Below w.heap.size w (((w.alloc (.cells #[.int .i64 1, .int .u16 0, .int .u16 0, .int .i64 0, .int .i64 0, .int .i64 0, .bool false, .int .i64 0, .int .i64 0, .int .i64 0, .int .i64 0, .int .u32 0, .int .u32 0, .int .i64 0, .bool false] 97)).alloc (.cells #[.int .i64 h0, .int .i64 h1, .int .i64 h2, .int .i64 h3, .int .u32 h4, .int .u32 h5] 77)).alloc (.cells #[.int .i64 0, .int .u16 0, .int .u16 0, .int .i64 0, .int .i64 0, .int .i64 0, .bool false, .int .i64 0, .int .i64 0, .int .i64 0, .int .i64 0, .int .u32 0, .int .u32 0, .int .i64 0, .bool false] 97)) := ((bel_alloc _ _).alloc (by simp) _).alloc (by simp; omega) _
    generalize (((w.alloc (.cells #[.int .i64 1, .int .u16 0, .int .u16 0, .int .i64 0, .int .i64 0, .int .i64 0, .bool false, .int .i64 0, .int .i64 0, .int .i64 0, .int .i64 0, .int .u32 0, .int .u32 0, .int .i64 0, .bool false] 97)).alloc (.cells #[.int .i64 h0, .int .i64 h1, .int .i64 h2, .int .i64 h3, .int .u32 h4, .int .u32 h5] 77)).alloc (.cells #[.int .i64 0, .int .u16 0, .int .u16 0, .int .i64 0, .int .i64 0, .int .i64 0, .bool false, .int .i64 0, .int .i64 0, .int .i64 0, .int .i64 0, .int .u32 0, .int .u32 0, .int .i64 0, .bool false] 97)) = W at *
    go_wp2_with (refine wpList_stRow rfl rfl rfl rfl rfl bk rpt_size rfl (by simp [Value.oneCell', Pt.z, Hd.z, portsP]) ?_)
    exact bodyPost_ret (results_row2 rfl _ rfl (bk.setRow _) Try.underlying97 rpt_size) rfl ⟨rfl, below_setRow bel (by omega) _⟩
  · clear hf0 hf1 hnf
    have d1 : decide (len < 8) = false := by simp; omega
    have d2 : decide ((len : Int) < 8) = false := by simp; omega
    have e1 : (S != 0) = true := by simpa using hne
    go_enter Try.func66, Try.ntmps66
    go_upto_region 1 with fail
    have bp := ((Blk.new w 97 #[.int .i64 1, .int .u16 0, .int .u16 0, .int .i64 0, .int .i64 0, .int .i64 0, .bool false, .int .i64 0, .int .i64 0, .int .i64 0, .int .i64 0, .int .u32 0, .int .u32 0, .int .i64 0, .bool false]).alloc (.cells #[.int .i64 h0, .int .i64 h1, .int .i64 h2, .int .i64 h3, .int .u32 h4, .int .u32 h5] 77)).alloc (.cells #[.int .i64 0, .int .u16 0, .int .u16 0, .int .i64 0, .int .i64 0, .int .i64 0, .bool false, .int .i64 0, .int .i64 0, .int .i64 0, .int .i64 0, .int .u32 0, .int .u32 0, .int .i64 0, .bool false] 97)
    have bh := (Blk.new (w.alloc (.cells #[.int .i64 1, .int .u16 0, .int .u16 0, .int .i64 0, .int .i64 0, .int .i64 0, .bool false, .int .i64 0, .int .i64 0, .int .i64 0, .int .i64 0, .int .u32 0, .int .u32 0, .int .i64 0, .bool false] 97)) 77 #[.int .i64 h0, .int .i64 h1, .int .i64 h2, .int .i64 h3, .int .u32 h4, .int .u32 h5]).alloc (.cells #[.int .i64 0, .int .u16 0, .int .u16 0, .int .i64 0, .int .i64 0, .int .i64 0, .bool false, .int .i64 0, .int .i64 0, .int .i64 0, .int .i64 0, .int .u32 0, .int .u32 0, .int .i64 0, .bool false] 97)
    have bk := Blk.new ((w.alloc (.cells #[.int .i64 1, .int .u16 0, .int .u16 0, .int .i64 0, .int .i64 0, .int .i64 0, .bool false, .int .i64 0, .int .i64 0, .int .i64 0, .int .i64 0, .int .u32 0, .int .u32 0, .int .i64 0, .bool false] 97)).alloc (.cells #[.int .i64 h0, .int .i64 h1, .int .i64 h2, .int .i64 h3, .int .u32 h4, .int .u32 h5] 77)) 97 #[.int .i64 0, .int .u16 0, .int .u16 0, .int .i64 0, .int .i64 0, .int .i64 0, .bool false, .int .i64 0, .int .i64 0, .int .i64 0, .int .i64 0, .int .u32 0, .int .u32 0, .int .i64 0, .bool false]
    rw [show (w.alloc (.cells #[.int .i64 1, .int .u16 0, .int .u16 0, .int .i64 0, .int .i64 0, .int .i64 0, .bool false, .int .i64 0, .int .i64 0, .int .i64 0, .int .i64 0, .int .u32 0, .int .u32 0, .int .i64 0, .bool false] 97)).heap.size = w.heap.size + 1 by simp] at bh
    rw [show ((w.alloc (.cells #[.int .i64 1, .int .u16 0, .int .u16 0, .int .i64 0, .int .i64 0, .int .i64 0, .bool false, .int .i64 0, .int .i64 0, .int .i64 0, .int .i64 0, .int .u32 0, .int .u32 0, .int .i64 0, .bool false] 97)).alloc (.cells #[.int .i64 h0, .int .i64 h1, .int .i64 h2, .int .i64 h3, .int .u32 h4, .int .u32 h5] 77)).heap.size = w.heap.size + 2 by simp] at bk
    have bel : Below w.heap.size w (((w.alloc (.cells #[.int .i64 1, .int .u16 0, .int .u16 0, .int .i64 0, .int .i64 0, .int .i64 0, .bool false, .int .i64 0, .int .i64 0, .int .i64 0, .int .i64 0, .int .u32 0, .int .u32 0, .int .i64 0, .bool false] 97)).alloc (.cells #[.int .i64 h0, .int .i64 h1, .int .i64 h2, .int .i64 h3, .int .u32 h4, .int .u32 h5] 77)).alloc (.cells #[.int .i64 0, .int .u16 0, .int .u16 0, .int .i64 0, .int .i64 0, .int .i64 0, .bool false, .int .i64 0, .int .i64 0, .int .i64 0, .int .i64 0, .int .u32 0, .int .u32 0, .int .i64 0, .bool false] 97)) := ((bel_alloc _ _).alloc (by simp) _).alloc (by simp; omega) _
    generalize (((w.alloc (.cells #[.int .i64 1, .int .u16 0, .int .u16 0, .int .i64 0, .int .i64 0, .int .i64 0, .bool false, .int .i64 0, .int .i64 0, .int .i64 0, .int .i64 0, .int .u32 0, .int .u32 0, .int .i64 0, .bool false] 97)).alloc (.cells #[.int .i64 h0, .int .i64 h1, .int .i64 h2, .int .i64 h3, .int .u32 h4, .int .u32 h5] 77)).alloc (.cells #[.int .i64 0, .int .u16 0, .int .u16 0, .int .i64 0, .int .i64 0, .int .i64 0, .bool false, .int .i64 0, .int .i64 0, .int .i64 0, .int .i64 0, .int .u32 0, .int .u32 0, .int .i64 0, .bool false] 97)) = W at *
    go_wp2_with fail
    refine (hsm.out _ bel).mono ?_
    rintro e w' ⟨rfl, rfl⟩
    go_wp2_with (refine wpList_stRow rfl rfl rfl rfl rfl bk rpt_size rfl (by simp [Value.oneCell', Pt.z, Hd.z, portsP]) ?_)
    exact bodyPost_ret (results_row2 rfl _ rfl (bk.setRow _) Try.underlying97 rpt_size) rfl ⟨rfl, below_setRow bel (by omega) _⟩
  replace hnf := Lib.hid (hnf h8 rfl)
  have d1 : decide (len < 8) = false := by simp; omega
  have d2 : decide ((len : Int) < 8) = false := by simp; omega
  obtain ⟨b, o, rfl⟩ := hr.form (by omega)
  obtain ⟨c0, x0⟩ := hrB.cell0 (by omega)
  obtain ⟨c1, x1⟩ := hrB.cell 1 (by omega)
  replace x0 := inr_u8 x0
  replace x1 := inr_u8 x1
  rw [hf0] at c0 x0
  rw [hf1] at c1 x1
  clear hf0 hf1
  have y0 := cell_lt c0
  simp only at y0
  have z0 : ∀ t : Tw (fun w' => Below w.heap.size w w'), t.w.cell? ⟨b, o, none⟩ = some (.int .u8 f0) := fun t => (t.h.cell (p := ⟨b, o, none⟩) (cell_lt c0)).trans c0
  have z1 : ∀ t : Tw (fun w' => Below w.heap.size w w'), t.w.cell? ⟨b, o + 1, none⟩ = some (.int .u8 f1) := fun t => (t.h.cell (p := ⟨b, o + 1, none⟩) (cell_lt c1)).trans c1
  clear c0 c1
  replace hcs := Lib.hid hcs
  go_enter Try.func66, Try.ntmps66
  go_upto_region 1 with fail
  have bp := ((Blk.new w 97 #[.int .i64 1, .int .u16 0, .int .u16 0, .int .i64 0, .int .i64 0, .int .i64 0, .bool false, .int .i64 0, .int .i64 0, .int .i64 0, .int .i64 0, .int .u32 0, .int .u32 0, .int .i64 0, .bool false]).alloc (.cells #[.int .i64 h0, .int .i64 h1, .int .i64 h2, .int .i64 h3, .int .u32 h4, .int .u32 h5] 77)).alloc (.cells #[.int .i64 0, .int .u16 0, .int .u16 0, .int .i64 0, .int .i64 0, .int .i64 0, .bool false, .int .i64 0, .int .i64 0, .int .i64 0, .int .i64 0, .int .u32 0, .int .u32 0, .int .i64 0, .bool false] 97)
  have bh := (Blk.new (w.alloc (.cells #[.int .i64 1, .int .u16 0, .int .u16 0, .int .i64 0, .int .i64 0, .int .i64 0, .bool false, .int .i64 0, .int .i64 0, .int .i64 0, .int .i64 0, .int .u32 0, .int .u32 0, .int .i64 0, .bool false] 97)) 77 #[.int .i64 h0, .int .i64 h1, .int .i64 h2, .int .i64 h3, .int .u32 h4, .int .u32 h5]).alloc (.cells #[.int .i64 0, .int .u16 0, .int .u16 0, .int .i64 0, .int .i64 0, .int .i64 0, .bool false, .int .i64 0, .int .i64 0, .int .i64 0, .int .i64 0, .int .u32 0, .int .u32 0, .int .i64 0, .bool false] 97)
  have bk := Blk.new ((w.alloc (.cells #[.int .i64 1, .int .u16 0, .int .u16 0, .int .i64 0, .int .i64 0, .int .i64 0, .bool false, .int .i64 0, .int .i64 0, .int .i64 0, .int .i64 0, .int .u32 0, .int .u32 0, .int .i64 0, .bool false] 97)).alloc (.cells #[.int .i64 h0, .int .i64 h1, .int .i64 h2, .int .i64 h3, .int .u32 h4, .int .u32 h5] 77)) 97 #[.int .i64 0, .int .u16 0, .int .u16 0, .int .i64 0, .int .i64 0, .int .i64 0, .bool false, .int .i64 0, .int .i64 0, .int .i64 0, .int .i64 0, .int .u32 0, .int .u32 0, .int .i64 0, .bool false]
  rw [show (w.alloc (.cells #[.int .i64 1, .int .u16 0, .int .u16 0, .int .i64 0, .int .i64 0, .int .i64 0, .bool false, .int .i64 0, .int .i64 0, .int .i64 0, .int .i64 0, .int .u32 0, .int .u32 0, .int .i64 0, .bool false] 97)).heap.size = w.heap.size + 1 by simp] at bh
  rw [show ((w.alloc (.cells #[.int .i64 1, .int .u16 0, .int .u16 0, .int .i64 0, .int .i64 0, .int .i64 0, .bool false, .int .i64 0, .int .i64 0, .int .i64 0, .int .i64 0, .int .u32 0, .int .u32 0, .int .i64 0, .bool false] 97)).alloc (.cells #[.int .i64 h0, .int .i64 h1, .int .i64 h2, .int .i64 h3, .int .u32 h4, .int .u32 h5] 77)).heap.size = w.heap.size + 2 by simp] at bk
  have bel : Below w.heap.size w (((w.alloc (.cells #[.int .i64 1, .int .u16 0, .int .u16 0, .int .i64 0, .int .i64 0, .int .i64 0, .bool false, .int .i64 0, .int .i64 0, .int .i64 0, .int .i64 0, .int .u32 0, .int .u32 0, .int .i64 0, .bool false] 97)).alloc (.cells #[.int .i64 h0, .int .i64 h1, .int .i64 h2, .int .i64 h3, .int .u32 h4, .int .u32 h5] 77)).alloc (.cells #[.int .i64 0, .int .u16 0, .int .u16 0, .int .i64 0, .int .i64 0, .int .i64 0, .bool false, .int .i64 0, .int .i64 0, .int .i64 0, .int .i64 0, .int .u32 0, .int .u32 0, .int .i64 0, .bool false] 97)) := ((bel_alloc _ _).alloc (by simp) _).alloc (by simp; omega) _
  generalize (((w.alloc (.cells #[.int .i64 1, .int .u16 0, .int .u16 0, .int .i64 0, .int .i64 0, .int .i64 0, .bool false, .int .i64 0, .int .i64 0, .int .i64 0, .int .i64 0, .int .u32 0, .int .u32 0, .int .i64 0, .bool false] 97)).alloc (.cells #[.int .i64 h0, .int .i64 h1, .int .i64 h2, .int .i64 h3, .int .u32 h4, .int .u32 h5] 77)).alloc (.cells #[.int .i64 0, .int .u16 0, .int .u16 0, .int .i64 0, .int .i64 0, .int .i64 0, .bool false, .int .i64 0, .int .i64 0, .int .i64 0, .int .i64 0, .int .u32 0, .int .u32 0, .int .i64 0, .bool false] 97)) = W at *
  go_wp2_with fail
  refine (hsm.out _ bel).mono ?_
  rintro e w' ⟨rfl, rfl⟩
  go_upto_region 5 with fail
  have : Nonempty (Tw (fun w' => Below w.heap.size w w')) := ⟨⟨_, bel⟩⟩
  refine wp_region_plan (fun w' => Below w.heap.size w w') [(0, true), (1, true), (2, true), (3, true), (4, true), (5, true), (6, true), (7, true), (8, true), (9, false), (10, true), (11, false)] (by kernel_rfl) (by kernel_rfl) (by kernel_rfl) (by kernel_rfl) bel.drew ?_
  replace bp := bp.drew
  replace bh := bh.drew
  replace bk := bk.drew
  replace bel := bel.drew
  generalize W.drew = W1 at *
  refine wpPl_qs 9 _ _ _ (by kernel_rfl) (by kernel_rfl) (by simp) ?_
  unfold clsS
  simp only [List.take_succ_cons, List.take_zero, List.drop_succ_cons, List.drop_zero, List.filterMap_cons, List.filterMap_nil, List.getElem?_toArray, List.getElem?_cons_zero, List.getElem?_cons_succ]
  repeat (first
    | go_big_quiet_skip
    | (go_big_quiet_want; go_big_quiet_op; go_big_quiet_on)
    | (refine id (?_ : wpQuiet _ _ _ _ (_ :: _) _); first | go_big_quiet_skip | (go_big_quiet_want; go_big_quiet_op; go_big_quiet_on)))
  refine wpQuiet_nil ?_
  have q4 := bp.cell 4
  have r4 := bp.frozen 4
  refine wpPl_e _ (by rfl) (by kernel_rfl) (fun K hK => ?_)
  go_simp
  replace bh := bh.far (p := ⟨w.heap.size, 4, none⟩) (by show w.heap.size + 1 ≠ w.heap.size; omega) (.int .i64 f0)
  replace bk := bk.far (p := ⟨w.heap.size, 4, none⟩) (by show w.heap.size + 2 ≠ w.heap.size; omega) (.int .i64 f0)
  replace bel := bel.setCell (p := ⟨w.heap.size, 4, none⟩) (Nat.le_refl _) (.int .i64 f0)
  replace bp := bp.set_ 4 (.int .i64 f0)
  clear q4 r4
  refine hK _ _ bel ?_
  clear hK K
  refine wpPl_qs 1 _ _ _ (by kernel_rfl) (by kernel_rfl) (by simp) ?_
  unfold clsS
  simp only [List.take_succ_cons, List.take_zero, List.drop_succ_cons, List.drop_zero, List.filterMap_cons, List.filterMap_nil, List.getElem?_toArray, List.getElem?_cons_zero, List.getElem?_cons_succ]
  repeat (first
    | go_big_quiet_skip
    | (go_big_quiet_want; go_big_quiet_op; go_big_quiet_on)
    | (refine id (?_ : wpQuiet _ _ _ _ (_ :: _) _); first | go_big_quiet_skip | (go_big_quiet_want; go_big_quiet_op; go_big_quiet_on)))
  refine wpQuiet_nil ?_
  have q5 := bp.cell 5
  have r5 := bp.frozen 5
  refine wpPl_e _ (by rfl) (by kernel_rfl) (fun K hK => ?_)
  go_simp
  replace bh := bh.far (p := ⟨w.heap.size, 5, none⟩) (by show w.heap.size + 1 ≠ w.heap.size; omega) (.int .i64 f1)
  replace bk := bk.far (p := ⟨w.heap.size, 5, none⟩) (by show w.heap.size + 2 ≠ w.heap.size; omega) (.int .i64 f1)
  replace bel := bel.setCell (p := ⟨w.heap.size, 5, none⟩) (Nat.le_refl _) (.int .i64 f1)
  replace bp := bp.set_ 5 (.int .i64 f1)
  clear q5 r5
  refine hK _ _ bel ?_
  clear hK K
  unfold wpPl
  refine NoPanic.normal ?_
  simp only [List.setIfInBounds_toArray, List.set_cons_succ, List.set_cons_zero] at bp
  generalize ((W1.setCell ⟨w.heap.size, 4, none⟩ (.int .i64 f0)).setCell ⟨w.heap.size, 5, none⟩ (.int .i64 f1)) = W2 at *
  replace hcs := hcs.out
  clear z0 z1
  have q4 := bp.cell 4
  have q5 := bp.cell 5
  have hN4b := n2_bd (l := l) (fun x hx => inr_u8 (hr.rng x hx)) (i := 4) (by rw [hr.len]; omega)
  have hPv : ∀ k, (portsP { Pt.z with proto := 1, kind := k, code := 0 } l 4 4).val = .agg #[.int .i64 1, .int .u16 (n2 l 4), .int .u16 (n2 l 4), .int .i64 0, .int .i64 k, .int .i64 0, .bool false, .int .i64 0, .int .i64 0, .int .i64 0, .int .i64 0, .int .u32 0, .int .u32 0, .int .i64 0, .bool false] := fun k => rfl
  go_wp2_with fail
  refine (Num_any (seg l 4 2) _ 2 (c - 4) _ W2 (by omega) ((hrB.below bel).sub 4 2 (by omega))).mono ?_
  rw [show numOf (seg l 4 2) = n2 l 4 from rfl]
  obtain ⟨N4, hN4⟩ : ∃ N, N = n2 l 4 := ⟨_, rfl⟩
  rw [← hN4] at hN4b ⊢
  simp only [← hN4] at hPv
  replace hN4 := Lib.hid hN4
  replace hPv := Lib.hid hPv
  rintro e w' ⟨rfl, rfl⟩
  rcases hcs with ⟨rfl | rfl, ⟨hne, rfl⟩ | ⟨rfl, rfl⟩⟩ | ⟨hf, hR⟩ | ⟨n0, n8, n3, n11, n12, rfl⟩
  · have e1 : (f1 != 0) = true := by simpa using hne
    go_wp2_with (refine wpList_stRow rfl rfl rfl rfl rfl bk rpt_size rfl (by simp [Value.oneCell', Pt.z, Hd.z, portsP]) ?_)
    exact bodyPost_ret (results_row2 rfl _ rfl (bk.setRow _) Try.underlying97 rpt_size) rfl ⟨rfl, below_setRow bel (by omega) _⟩
  · have q1 := bp.cell 1
    have q2 := bp.cell 2
    have r := bp.frozen
    go_upto_region 13 with fail
    clear q1 q2 q4 q5 r
    replace bk := (bk.far (p := ⟨w.heap.size, 1, none⟩) (by show w.heap.size + 2 ≠ w.heap.size; omega) (.int .u16 N4)).far (p := ⟨w.heap.size, 2, none⟩) (by show w.heap.size + 2 ≠ w.heap.size; omega) (.int .u16 N4)
    replace bel := (bel.setCell (p := ⟨w.heap.size, 1, none⟩) (Nat.le_refl _) (.int .u16 N4)).setCell (p := ⟨w.heap.size, 2, none⟩) (Nat.le_refl _) (.int .u16 N4)
    replace bp := (bp.set_ 1 (.int .u16 N4)).set_ 2 (.int .u16 N4)
    simp only [List.setIfInBounds_toArray, List.set_cons_succ, List.set_cons_zero] at bp
    generalize ((W2.setCell ⟨w.heap.size, 1, none⟩ (.int .u16 N4)).setCell ⟨w.heap.size, 2, none⟩ (.int .u16 N4)) = W3 at *
    go_wp2_with (first
      | (refine wpList_ldRow rfl rfl rfl bp Try.underlying97 rpt_size ?_)
      | (refine wpList_stRow rfl rfl rfl rfl rfl bk rpt_size rfl (by simp [Value.oneCell']) ?_))
    refine bodyPost_ret (results_row2 rfl _ rfl (bk.setRow _) Try.underlying97 rpt_size) rfl ⟨?_, below_setRow bel (by omega) _⟩
    exact congrArg (fun x => Ending.returned (.tuple #[x, .int .i64 0])) (hPv.out 0).symm
  · have e1 : (f1 != 0) = true := by simpa using hne
    go_wp2_with (refine wpList_stRow rfl rfl rfl rfl rfl bk rpt_size rfl (by simp [Value.oneCell', Pt.z, Hd.z, portsP]) ?_)
    exact bodyPost_ret (results_row2 rfl _ rfl (bk.setRow _) Try.underlying97 rpt_size) rfl ⟨rfl, below_setRow bel (by omega) _⟩
  · have q1 := bp.cell 1
    have q2 := bp.cell 2
    have r := bp.frozen
    go_upto_region 13 with fail
    clear q1 q2 q4 q5 r
    replace bk := (bk.far (p := ⟨w.heap.size, 1, none⟩) (by show w.heap.size + 2 ≠ w.heap.size; omega) (.int .u16 N4)).far (p := ⟨w.heap.size, 2, none⟩) (by show w.heap.size + 2 ≠ w.heap.size; omega) (.int .u16 N4)
    replace bel := (bel.setCell (p := ⟨w.heap.size, 1, none⟩) (Nat.le_refl _) (.int .u16 N4)).setCell (p := ⟨w.heap.size, 2, none⟩) (Nat.le_refl _) (.int .u16 N4)
    replace bp := (bp.set_ 1 (.int .u16 N4)).set_ 2 (.int .u16 N4)
    simp only [List.setIfInBounds_toArray, List.set_cons_succ, List.set_cons_zero] at bp
    generalize ((W2.setCell ⟨w.heap.size, 1, none⟩ (.int .u16 N4)).setCell ⟨w.heap.size, 2, none⟩ (.int .u16 N4)) = W3 at *
    go_wp2_with (first
      | (refine wpList_ldRow rfl rfl rfl bp Try.underlying97 rpt_size ?_)
      | (refine wpList_stRow rfl rfl rfl rfl rfl bk rpt_size rfl (by simp [Value.oneCell']) ?_))
    refine bodyPost_ret (results_row2 rfl _ rfl (bk.setRow _) Try.underlying97 rpt_size) rfl ⟨?_, below_setRow bel (by omega) _⟩
    exact congrArg (fun x => Ending.returned (.tuple #[x, .int .i64 0])) (hPv.out 8).symm
  · exact absurd hf hnf.out
  · have e1 : (f0 == 0) = false := by simpa using n0
    have e2 : (f0 == 8) = false := by simpa using n8
    have e3 : (f0 == 3) = false := by simpa using n3
    have e4 : (f0 == 11) = false := by simpa using n11
    have e5 : (f0 == 12) = false := by simpa using n12
    go_wp2_with (refine wpList_stRow rfl rfl rfl rfl rfl bk rpt_size rfl (by simp [Value.oneCell', Pt.z, Hd.z, portsP]) ?_)
    exact bodyPost_ret (results_row2 rfl _ rfl (bk.setRow _) Try.underlying97 rpt_size) rfl ⟨rfl, below_setRow bel (by omega) _⟩
end Go.Proofs.Ytjaacmecniijgaa
