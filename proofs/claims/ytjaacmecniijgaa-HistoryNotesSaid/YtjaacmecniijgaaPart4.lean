/- The walks of package part: ports, udp, tcp. -/
import Derived.Test.YtjaacmecniijgaaWhole
namespace Go.Proofs.Ytjaacmecniijgaa
set_option linter.unusedVariables false
set_option linter.unusedSimpArgs false
open Go.RowKit
set_option maxHeartbeats 1000000 in
theorem ports_any (p : Pt) (l : List Int) (b o len c B : Nat) (w : World) (hr : Rd .u8 w B (some ⟨b, o, none⟩) len l) (hB : B ≤ w.heap.size) (h4 : 4 ≤ len) (hlc : len ≤ c) (hcm : c ≤ 9223372036854775807) :
    Calls Try.prog 62 #[p.val, .slice (some ⟨b, o, none⟩) len c] w fun e w' => e = .returned (portsP p l 0 2).val ∧ Below w.heap.size w w' := by
  obtain ⟨c0, x0⟩ := hr.cell 0 (by omega)
  obtain ⟨c1, x1⟩ := hr.cell 1 (by omega)
  obtain ⟨c2, x2⟩ := hr.cell 2 (by omega)
  obtain ⟨c3, x3⟩ := hr.cell 3 (by omega)
  have hn0 := n2_eq l 0 (by rw [hr.len]; omega)
  have hn2 := n2_eq l 2 (by rw [hr.len]; omega)
  obtain ⟨pr, sr, ds, fl, ki, co, er, ⟨i0, i1, i2, i3, i4, i5⟩, pa, ba⟩ := p
  unfold Pt.val portsP
  simp only
  obtain ⟨N0, hN0⟩ : ∃ N, N = n2 l 0 := ⟨_, rfl⟩
  obtain ⟨N2, hN2⟩ : ∃ N, N = n2 l 2 := ⟨_, rfl⟩
  rw [← hN0] at hn0 ⊢
  rw [← hN2] at hn2 ⊢
  have hp0 := fun w' (hb : Below w.heap.size w w') => pnum_any b o len c _ _ w' (by omega) (inr_u8 x0) (inr_u8 x1) ((hb.cell (p := ⟨b, o + 0, none⟩) (cell_lt c0)).trans c0) ((hb.cell (p := ⟨b, o + 1, none⟩) (cell_lt c1)).trans c1)
  have hp2 := fun w' (hb : Below w.heap.size w w') => pnum_any b (o + 2) (len - 2) (c - 2) _ _ w' (by omega) (inr_u8 x2) (inr_u8 x3) ((hb.cell (p := ⟨b, o + 2, none⟩) (cell_lt c2)).trans c2) ((hb.cell (p := ⟨b, o + 3, none⟩) (cell_lt c3)).trans c3)
  simp only [Nat.zero_add, Nat.reduceAdd] at hn0 hn2
  rw [← hn0] at hp0
  rw [← hn2] at hp2
  replace hp0 := Lib.hid hp0
  replace hp2 := Lib.hid hp2
  clear hN0 hN2 hn0 hn2 c0 c1 c2 c3 x0 x1 x2 x3 hr
  have hc2 : (c = 2) = False := by simp; omega
  go_enter Try.func62, Try.ntmps62
  go_wp2_with fail
  have bk2 := (Blk.new w 86 #[.int .i64 pr, .int .u16 sr, .int .u16 ds, .int .i64 fl, .int .i64 ki, .int .i64 co, .bool er, .int .i64 i0, .int .i64 i1, .int .i64 i2, .int .i64 i3, .int .u32 i4, .int .u32 i5, .int .i64 pa, .bool ba]).alloc (.cells #[.int .i64 0, .int .u16 0, .int .u16 0, .int .i64 0, .int .i64 0, .int .i64 0, .bool false, .int .i64 0, .int .i64 0, .int .i64 0, .int .i64 0, .int .u32 0, .int .u32 0, .int .i64 0, .bool false] 86)
  have bk4 := Blk.new (w.alloc (.cells #[.int .i64 pr, .int .u16 sr, .int .u16 ds, .int .i64 fl, .int .i64 ki, .int .i64 co, .bool er, .int .i64 i0, .int .i64 i1, .int .i64 i2, .int .i64 i3, .int .u32 i4, .int .u32 i5, .int .i64 pa, .bool ba] 86)) 86 #[.int .i64 0, .int .u16 0, .int .u16 0, .int .i64 0, .int .i64 0, .int .i64 0, .bool false, .int .i64 0, .int .i64 0, .int .i64 0, .int .i64 0, .int .u32 0, .int .u32 0, .int .i64 0, .bool false]
  have bel : Below w.heap.size w ((w.alloc (.cells #[.int .i64 pr, .int .u16 sr, .int .u16 ds, .int .i64 fl, .int .i64 ki, .int .i64 co, .bool er, .int .i64 i0, .int .i64 i1, .int .i64 i2, .int .i64 i3, .int .u32 i4, .int .u32 i5, .int .i64 pa, .bool ba] 86)).alloc (.cells #[.int .i64 0, .int .u16 0, .int .u16 0, .int .i64 0, .int .i64 0, .int .i64 0, .bool false, .int .i64 0, .int .i64 0, .int .i64 0, .int .i64 0, .int .u32 0, .int .u32 0, .int .i64 0, .bool false] 86)) := (bel_alloc _ _).alloc (by simp) _
  rw [show (w.alloc (.cells #[.int .i64 pr, .int .u16 sr, .int .u16 ds, .int .i64 fl, .int .i64 ki, .int .i64 co, .bool er, .int .i64 i0, .int .i64 i1, .int .i64 i2, .int .i64 i3, .int .u32 i4, .int .u32 i5, .int .i64 pa, .bool ba] 86)).heap.size = w.heap.size + 1 by simp] at bk4
  have hsz : ((w.alloc (.cells #[.int .i64 pr, .int .u16 sr, .int .u16 ds, .int .i64 fl, .int .i64 ki, .int .i64 co, .bool er, .int .i64 i0, .int .i64 i1, .int .i64 i2, .int .i64 i3, .int .u32 i4, .int .u32 i5, .int .i64 pa, .bool ba] 86)).alloc (.cells #[.int .i64 0, .int .u16 0, .int .u16 0, .int .i64 0, .int .i64 0, .int .i64 0, .bool false, .int .i64 0, .int .i64 0, .int .i64 0, .int .i64 0, .int .u32 0, .int .u32 0, .int .i64 0, .bool false] 86)).heap.size = w.heap.size + 2 := by simp
  generalize (w.alloc (.cells #[.int .i64 pr, .int .u16 sr, .int .u16 ds, .int .i64 fl, .int .i64 ki, .int .i64 co, .bool er, .int .i64 i0, .int .i64 i1, .int .i64 i2, .int .i64 i3, .int .u32 i4, .int .u32 i5, .int .i64 pa, .bool ba] 86)).alloc (.cells #[.int .i64 0, .int .u16 0, .int .u16 0, .int .i64 0, .int .i64 0, .int .i64 0, .bool false, .int .i64 0, .int .i64 0, .int .i64 0, .int .i64 0, .int .u32 0, .int .u32 0, .int .i64 0, .bool false] 86) = W0 at *
  have : Nonempty (Tw (fun w' => Below w.heap.size w w')) := ⟨⟨_, bel⟩⟩
  refine wp_region_plan (fun w' => Below w.heap.size w w') [(0, true), (2, true), (3, true), (1, false), (5, true), (4, false), (6, false), (7, true), (8, false)] (by kernel_rfl) (by kernel_rfl) (by kernel_rfl) (by kernel_rfl) bel.drew ?_
  refine wpPl_qs 3 _ _ _ (by kernel_rfl) (by kernel_rfl) (by simp) ?_
  unfold clsS
  simp only [List.take_succ_cons, List.take_zero, List.drop_succ_cons, List.drop_zero, List.filterMap_cons, List.filterMap_nil, List.getElem?_toArray, List.getElem?_cons_zero, List.getElem?_cons_succ]
  repeat (first
    | go_big_quiet_skip
    | (go_big_quiet_want; go_big_quiet_op; go_big_quiet_on)
    | (refine id (?_ : wpQuiet _ _ _ _ (_ :: _) _); first | go_big_quiet_skip | (go_big_quiet_want; go_big_quiet_op; go_big_quiet_on)))
  refine wpQuiet_nil ?_
  refine wpPl_e _ (by rfl) (by kernel_rfl) (fun K hK => ?_)
  go_simp
  refine (hp0.out _ bel.drew).mono ?_
  rintro e w1 ⟨rfl, hb1⟩
  have bel1 := bel_after bel.drew hb1
  have bk2 := bk2.drew.bel hb1
  have bk4 := bk4.drew.bel hb1
  refine hK _ _ bel1 ?_
  clear hK K
  refine wpPl_qs 1 _ _ _ (by kernel_rfl) (by kernel_rfl) (by simp) ?_
  unfold clsS
  simp only [List.take_succ_cons, List.take_zero, List.drop_succ_cons, List.drop_zero, List.filterMap_cons, List.filterMap_nil, List.getElem?_toArray, List.getElem?_cons_zero, List.getElem?_cons_succ]
  repeat (first
    | go_big_quiet_skip
    | (go_big_quiet_want; go_big_quiet_op; go_big_quiet_on)
    | (refine id (?_ : wpQuiet _ _ _ _ (_ :: _) _); first | go_big_quiet_skip | (go_big_quiet_want; go_big_quiet_op; go_big_quiet_on)))
  refine wpQuiet_nil ?_
  refine wpPl_e _ (by rfl) (by kernel_rfl) (fun K hK => ?_)
  go_simp
  refine (hp2.out _ bel1).mono ?_
  rintro e w2 ⟨rfl, hb2⟩
  have bel2 := bel_after bel1 hb2
  have bk2 := bk2.bel hb2
  have bk4 := bk4.bel hb2
  have hs2 : w.heap.size + 1 < w2.heap.size := bk4.lt
  refine hK _ _ bel2 ?_
  clear hK K
  clear hb1 hb2 bel1 bel hsz
  have q1 := bk2.cell 1
  have r1 := bk2.frozen 1
  refine wpPl_e _ (by rfl) (by kernel_rfl) (fun K hK => ?_)
  go_simp
  have bk2' := bk2.set_ 1 (.int .u16 N0)
  have bk4' := bk4.far (p := ⟨w.heap.size, 1, none⟩) (by show w.heap.size + 1 ≠ w.heap.size; omega) (.int .u16 N0)
  have bel3 := bel2.setCell (p := ⟨w.heap.size, 1, none⟩) (Nat.le_refl _) (.int .u16 N0)
  refine hK _ _ bel3 ?_
  clear hK K q1 r1
  refine wpPl_qs 1 _ _ _ (by kernel_rfl) (by kernel_rfl) (by simp) ?_
  unfold clsS
  simp only [List.take_succ_cons, List.take_zero, List.drop_succ_cons, List.drop_zero, List.filterMap_cons, List.filterMap_nil, List.getElem?_toArray, List.getElem?_cons_zero, List.getElem?_cons_succ]
  repeat (first
    | go_big_quiet_skip
    | (go_big_quiet_want; go_big_quiet_op; go_big_quiet_on)
    | (refine id (?_ : wpQuiet _ _ _ _ (_ :: _) _); first | go_big_quiet_skip | (go_big_quiet_want; go_big_quiet_op; go_big_quiet_on)))
  refine wpQuiet_nil ?_
  have q2 := bk2'.cell 2
  have r2 := bk2'.frozen 2
  refine wpPl_e _ (by rfl) (by kernel_rfl) (fun K hK => ?_)
  go_simp
  have bk2 := bk2'.set_ 2 (.int .u16 N2)
  have bk4 := bk4'.far (p := ⟨w.heap.size, 2, none⟩) (by show w.heap.size + 1 ≠ w.heap.size; omega) (.int .u16 N2)
  have bel4 := bel3.setCell (p := ⟨w.heap.size, 2, none⟩) (Nat.le_refl _) (.int .u16 N2)
  refine hK _ _ bel4 ?_
  clear hK K q2 r2 bk2' bk4' bel3 bel2
  unfold wpPl
  refine NoPanic.normal ?_
  have hs3 : w.heap.size + 1 < ((w2.setCell ⟨w.heap.size, 1, none⟩ (.int .u16 N0)).setCell ⟨w.heap.size, 2, none⟩ (.int .u16 N2)).heap.size := bk4.lt
  generalize (w2.setCell ⟨w.heap.size, 1, none⟩ (.int .u16 N0)).setCell ⟨w.heap.size, 2, none⟩ (.int .u16 N2) = W3 at *
  have is4 := IsPt.of bk4 rfl
  have hc2 := bk2.cell
  simp only [List.setIfInBounds_toArray, List.set_cons_succ, List.set_cons_zero] at bk2
  go_wp2_with (first
    | (refine wpList_ldRow rfl rfl rfl bk2 Try.underlying86 pt_size ?_)
    | (refine wpList_stRow rfl rfl rfl rfl rfl bk4 pt_size rfl (by simp [Value.oneCell']) ?_))
  exact bodyPost_ret (results_row rfl _ rfl (bk4.setRow _) Try.underlying86 pt_size) rfl ⟨rfl, below_setRow bel4 (by omega) _⟩
end Go.Proofs.Ytjaacmecniijgaa
