/- Every input of PlaceFirst answers true, and reads behind the call as it read before. No condition. -/
import Derived.Test.YtgkimfodbbgdbaaPlaceMay
namespace Go.Proofs.Ytgkimfodbbgdbaa
set_option linter.unusedVariables false
set_option linter.unusedSimpArgs false
open Go.RowKit
/-- a row of words -/
def WdRd (w : World) (A : Option Addr) (n : Nat) : Prop :=
  0 < n → ∃ b o, A = some ⟨b, o, none⟩ ∧ b < w.heap.size ∧ ∀ i, i < n → ∃ x0 x1 x2 x3 : Int, w.cell? ⟨b, o + i * 4, none⟩ = some (.int .i64 x0) ∧ w.cell? ⟨b, o + i * 4 + 1, none⟩ = some (.int .i64 x1) ∧
    w.cell? ⟨b, o + i * 4 + 2, none⟩ = some (.int .i64 x2) ∧ w.cell? ⟨b, o + i * 4 + 3, none⟩ = some (.int .i64 x3) ∧ inr .i64 x0 ∧ inr .i64 x1 ∧ inr .i64 x2 ∧ inr .i64 x3
/-- the loop: the box of w at gw, of now at gn -/
structure PfRel (m : Nat) (w : World) (gw gn p g h : Nat) (c d : Int) (k : Nat) (N : Wd) (wr : World) : Prop where
  hk : k ≤ m
  bw : Blk wr gw 23 #[.int .i64 1, .int .i64 1, .int .i64 c, .int .i64 d]
  bn : Blk wr gn 23 #[.int .i64 N.st, .int .i64 N.gen, .int .i64 N.tr, .int .i64 N.seen]
  pl : Pl wr p g h 1 [N.num, 0]
  ok : N.ok
  cs : N = ⟨1, 1, c, d⟩ ∨ N.st = 2 ∨ N.st = 0
  bel : Below w.heap.size w wr
set_option maxHeartbeats 400000 in
theorem PlaceFirst_no (a b c d : Int) (A : Option Addr) (m cap : Nat) (w : World) (hn : ¬ (Wd.mk 1 1 c d).ok) :
    Calls Try.prog 7 #[.agg #[.int .i64 a, .int .i64 b, .int .i64 c, .int .i64 d], .slice A m cap] w fun e w' => e = .returned (.bool true) ∧ Below w.heap.size w w' := by
  have k0 := Blk.new w 23 #[.int .i64 a, .int .i64 b, .int .i64 c, .int .i64 d]
  go_enter Try.func7, Try.ntmps7
  go_wp2_with fail
  refine (PlNew_yes 1 _ (by omega) (by omega)).mono ?_
  rintro e w1 ⟨p, g, h, rfl, bel1, hh, hp1⟩
  have b1 := bel_after (bel_alloc _ _) bel1
  replace k0 := k0.bel bel1
  have e0 := k0.cell 0
  have e1 := k0.cell 1
  have f0 := k0.frozen 0
  have f1 := k0.frozen 1
  have k2 : Blk ((w1.setCell ⟨w.heap.size, 0, none⟩ (.int .i64 1)).setCell ⟨w.heap.size, 1, none⟩ (.int .i64 1)) w.heap.size 23 #[.int .i64 1, .int .i64 1, .int .i64 c, .int .i64 d] := (k0.set_ 0 (.int .i64 1)).set_ 1 (.int .i64 1)
  have b2 : Below w.heap.size w ((w1.setCell ⟨w.heap.size, 0, none⟩ (.int .i64 1)).setCell ⟨w.heap.size, 1, none⟩ (.int .i64 1)) := by (repeat (first | (with_reducible exact b1) | (with_reducible refine Below.setCell ?_ ?_ _; rotate_left; · (first | omega | (simp; done) | (simp; omega) | (have hsz := Below.size b1; omega) | (have hsz := Below.size b1; simp; omega))) | (with_reducible refine Below.alloc ?_ ?_ _; rotate_left; · (first | omega | (simp; done) | (simp; omega) | (have hsz := Below.size b1; omega) | (have hsz := Below.size b1; simp; omega))) | (with_reducible refine below_drewN ?_ _) | (with_reducible refine Below.drew ?_)))
  go_wp2_with fail
  generalize (w1.setCell ⟨w.heap.size, 0, none⟩ (.int .i64 1)).setCell ⟨w.heap.size, 1, none⟩ (.int .i64 1) = w2 at *
  refine (moves_any _).mono ?_
  rintro e w3 ⟨rfl, b3⟩
  replace k2 := k2.bel b3
  replace b2 := bel_after b2 b3
  clear e0 e1 f0 f1
  have e0 := k2.cell 0
  have e1 := k2.cell 1
  have e2 := k2.cell 2
  have e3 := k2.cell 3
  go_wp2_with fail
  refine (rRight_any _ _ _ _ _).mono ?_
  rw [decide_eq_false hn]
  rintro e w4 ⟨rfl, b4⟩
  go_wp2_with fail
  refine (moves_any _).mono ?_
  rintro e w5 ⟨rfl, b5⟩
  go_wp2_with fail
  go_ret
  exact ⟨rfl, bel_after (bel_after b2 b4) b5⟩
set_option maxHeartbeats 4000000 in
theorem PlaceFirst_yes (a b c d : Int) (A : Option Addr) (m cap : Nat) (w : World) (hr : WdRd w A m) (hmm : m ≤ 9223372036854775807) (hok : (Wd.mk 1 1 c d).ok) :
    Calls Try.prog 7 #[.agg #[.int .i64 a, .int .i64 b, .int .i64 c, .int .i64 d], .slice A m cap] w fun e w' => e = .returned (.bool true) ∧ Below w.heap.size w w' := by
  have k0 := Blk.new w 23 #[.int .i64 a, .int .i64 b, .int .i64 c, .int .i64 d]
  go_enter Try.func7, Try.ntmps7
  go_wp2_with fail
  refine (PlNew_yes 1 _ (by omega) (by omega)).mono ?_
  rintro e w1 ⟨p, g, h, rfl, bel1, hh, hp1⟩
  have b1 := bel_after (bel_alloc _ _) bel1
  replace k0 := k0.bel bel1
  have hwh : w.heap.size ≤ h := by simp at hh; omega
  have hgp : p ≠ w.heap.size := hp1.obj.ne_ k0 (by decide)
  have hgg : g ≠ w.heap.size := by obtain ⟨_, _, _, ho⟩ := hp1.cel.obj; exact ho.ne_ k0 (by decide)
  have hgh : h ≠ w.heap.size := hp1.cel.row.ne_ k0 (by decide)
  have e0 := k0.cell 0
  have e1 := k0.cell 1
  have f0 := k0.frozen 0
  have f1 := k0.frozen 1
  have u2 : Upd (· = w.heap.size) w1 ((w1.setCell ⟨w.heap.size, 0, none⟩ (.int .i64 1)).setCell ⟨w.heap.size, 1, none⟩ (.int .i64 1)) := (Upd.one w1 w.heap.size 0 _).setCell (p := ⟨w.heap.size, 1, none⟩) (fun _ => rfl) _
  have k2 : Blk ((w1.setCell ⟨w.heap.size, 0, none⟩ (.int .i64 1)).setCell ⟨w.heap.size, 1, none⟩ (.int .i64 1)) w.heap.size 23 #[.int .i64 1, .int .i64 1, .int .i64 c, .int .i64 d] := (k0.set_ 0 (.int .i64 1)).set_ 1 (.int .i64 1)
  have b2 : Below w.heap.size w ((w1.setCell ⟨w.heap.size, 0, none⟩ (.int .i64 1)).setCell ⟨w.heap.size, 1, none⟩ (.int .i64 1)) := by (repeat (first | (with_reducible exact b1) | (with_reducible refine Below.setCell ?_ ?_ _; rotate_left; · (first | omega | (simp; done) | (simp; omega) | (have hsz := Below.size b1; omega) | (have hsz := Below.size b1; simp; omega))) | (with_reducible refine Below.alloc ?_ ?_ _; rotate_left; · (first | omega | (simp; done) | (simp; omega) | (have hsz := Below.size b1; omega) | (have hsz := Below.size b1; simp; omega))) | (with_reducible refine below_drewN ?_ _) | (with_reducible refine Below.drew ?_)))
  have hp2 := hp1.upd u2 hgp hgg hgh
  go_wp2_with fail
  generalize (w1.setCell ⟨w.heap.size, 0, none⟩ (.int .i64 1)).setCell ⟨w.heap.size, 1, none⟩ (.int .i64 1) = w2 at *
  refine (moves_any _).mono ?_
  rintro e w3 ⟨rfl, b3⟩
  replace k2 := k2.bel b3
  replace hp2 := hp2.bel b3
  replace b2 := bel_after b2 b3
  clear e0 e1 f0 f1 u2 hp1 k0 b1
  have e0 := k2.cell 0
  have e1 := k2.cell 1
  have e2 := k2.cell 2
  have e3 := k2.cell 3
  go_wp2_with fail
  refine (rRight_any _ _ _ _ _).mono ?_
  rw [decide_eq_true hok]
  rintro e w4 ⟨rfl, b4⟩
  replace k2 := k2.bel b4
  replace hp2 := hp2.bel b4
  replace b2 := bel_after b2 b4
  clear e0 e1 e2 e3
  have e0 := k2.cell 0
  have e1 := k2.cell 1
  have e2 := k2.cell 2
  have e3 := k2.cell 3
  go_wp2_with fail
  refine (To_any _ _ _ _ _).mono ?_
  rintro e w5 ⟨rfl, b5⟩
  replace k2 := k2.bel b5
  replace hp2 := hp2.bel b5
  replace b2 := bel_after b2 b5
  clear e0 e1 e2 e3
  go_wp2_with fail
  have hN0 : (Wd.mk 0 0 0 0).may (Wd.mk 1 1 c d) := ⟨by decide +kernel, hok, by simp⟩
  refine (PlCas_any 0 0 0 0 0 1 1 c d p g h 1 _ _ hp2 (by omega) true (decide_eq_true ⟨by omega, hN0, by rfl⟩)).mono ?_
  rintro e w6 ⟨rfl, hp6, u6⟩
  replace k2 := k2.upd u6 (Ne.symm hgh)
  replace b2 : Below w.heap.size w w6 := b2.trans (u6.below b2.size (fun k hk e => by subst e; omega))
  have hp7 : Pl w6 p g h 1 [(Wd.mk 1 1 c d).num, 0] := hp6
  clear hp6
  have e0 := k2.cell 0
  have e1 := k2.cell 1
  have e2 := k2.cell 2
  have e3 := k2.cell 3
  have kn := Blk.new w6 23 #[.int .i64 1, .int .i64 1, .int .i64 c, .int .i64 d]
  replace hp7 := hp7.alloc (.cells #[.int .i64 1, .int .i64 1, .int .i64 c, .int .i64 d] 23)
  have b7 : Below w.heap.size w (w6.alloc (.cells #[.int .i64 1, .int .i64 1, .int .i64 c, .int .i64 d] 23)) := b2.alloc b2.size _
  have k7 := k2.alloc (.cells #[.int .i64 1, .int .i64 1, .int .i64 c, .int .i64 d] 23)
  have hnw : w6.heap.size ≠ w.heap.size := by have := k2.lt; omega
  have hnh : h ≠ w6.heap.size := hp7.cel.row.ne_ kn (by decide)
  have hnp : p ≠ w6.heap.size := hp7.obj.ne_ kn (by decide)
  have hng : g ≠ w6.heap.size := by obtain ⟨_, _, _, ho⟩ := hp7.cel.obj; exact ho.ne_ kn (by decide)
  have hnl : w.heap.size ≤ w6.heap.size := b2.size
  go_wp2_with fail
  generalize w6.heap.size = gn at *
  go_loopw [8] (fun i wr => ∃ (k : Nat) (N : Wd), i = .int .i64 k ∧ PfRel m w w.heap.size gn p g h c d k N wr) (fun i _ => m - (intOf i).toNat)
  case atStart => exact ⟨0, ⟨1, 1, c, d⟩, rfl, Nat.zero_le _, k7, kn, hp7, hok, .inl rfl, b7⟩
  case round =>
    clear k7 kn hp7 b7
    obtain ⟨k, N, rfl, rel⟩ := hrel
    obtain ⟨hk, bw, bn, pl, ok, cs, bel⟩ := rel
    by_cases hlt : k < m ∧ k < 40
    · obtain ⟨hlt, hlt40⟩ := hlt
      obtain ⟨b, o, rfl, hbl, hcl⟩ := hr (by omega)
      obtain ⟨x0, x1, x2, x3, c0, c1, c2, c3, r0, r1, r2, r3⟩ := hcl k hlt
      clear hcl
      replace c0 := bel.cell (p := ⟨b, o + k * 4, none⟩) hbl |>.trans c0
      replace c1 := bel.cell (p := ⟨b, o + k * 4 + 1, none⟩) hbl |>.trans c1
      replace c2 := bel.cell (p := ⟨b, o + k * 4 + 2, none⟩) hbl |>.trans c2
      replace c3 := bel.cell (p := ⟨b, o + k * 4 + 3, none⟩) hbl |>.trans c3
      have hd : decide (k < m) = true := by simpa using hlt
      have hd2 : decide ((k : Int) < 40) = true := by simp; omega
      have bx := Blk.new wr 23 #[.int .i64 x0, .int .i64 x1, .int .i64 x2, .int .i64 x3]
      have bw1 := bw.alloc (.cells #[.int .i64 x0, .int .i64 x1, .int .i64 x2, .int .i64 x3] 23)
      have bn1 := bn.alloc (.cells #[.int .i64 x0, .int .i64 x1, .int .i64 x2, .int .i64 x3] 23)
      have pl1 := pl.alloc (.cells #[.int .i64 x0, .int .i64 x1, .int .i64 x2, .int .i64 x3] 23)
      have bel1 := bel.alloc bel.size (.cells #[.int .i64 x0, .int .i64 x1, .int .i64 x2, .int .i64 x3] 23)
      have hxw : wr.heap.size ≠ w.heap.size := by have := bw.lt; omega
      have hxn : wr.heap.size ≠ gn := by have := bn.lt; omega
      have hxp : p ≠ wr.heap.size := pl1.obj.ne_ bx (by decide)
      have hxg : g ≠ wr.heap.size := by obtain ⟨_, _, _, ho⟩ := pl1.cel.obj; exact ho.ne_ bx (by decide)
      have hxh : h ≠ wr.heap.size := pl1.cel.row.ne_ bx (by decide)
      have hxl : w.heap.size ≤ wr.heap.size := bel.size
      have hpar : k % 2 = 0 ∨ k % 2 = 1 := by omega
      rcases hpar with hpar | hpar
      · go_wp2_with fail
        have z1 : ∀ t : Tw (fun w' => Blk w' w.heap.size 23 #[.int .i64 1, .int .i64 1, .int .i64 c, .int .i64 d]), t.w.cell? ⟨w.heap.size, 1, none⟩ = some (.int .i64 1) := fun t => t.h.cell 1
        have z2 : ∀ t : Tw (fun w' => Blk w' w.heap.size 23 #[.int .i64 1, .int .i64 1, .int .i64 c, .int .i64 d]), t.w.cell? ⟨w.heap.size, 2, none⟩ = some (.int .i64 c) := fun t => t.h.cell 2
        have z3 : ∀ t : Tw (fun w' => Blk w' w.heap.size 23 #[.int .i64 1, .int .i64 1, .int .i64 c, .int .i64 d]), t.w.cell? ⟨w.heap.size, 3, none⟩ = some (.int .i64 d) := fun t => t.h.cell 3
        have : Nonempty (Tw (fun w' => Blk w' w.heap.size 23 #[.int .i64 1, .int .i64 1, .int .i64 c, .int .i64 d])) := ⟨⟨_, bw⟩⟩
        refine wp_region_plan (fun w' => Blk w' w.heap.size 23 #[.int .i64 1, .int .i64 1, .int .i64 c, .int .i64 d]) [(0, true), (1, true), (2, true), (3, true), (4, true), (5, true), (6, true), (7, false), (8, true), (9, false), (10, true), (11, false)] (by kernel_rfl) (by kernel_rfl) (by kernel_rfl) (by kernel_rfl) bw1.drew ?_
        replace bw := bw1.drew
        replace bn := bn1.drew
        replace pl : Pl (wr.alloc (.cells #[.int .i64 x0, .int .i64 x1, .int .i64 x2, .int .i64 x3] 23)).drew p g h 1 [N.num, 0] := pl1.drewN 1
        replace bel := bel1.drew
        replace bx := bx.drew
        clear bw1 bn1 pl1 bel1
        refine wpPl_qs 7 _ _ _ (by kernel_rfl) (by kernel_rfl) (by simp) ?_
        unfold clsS
        simp only [List.take_succ_cons, List.take_zero, List.drop_succ_cons, List.drop_zero, List.filterMap_cons, List.filterMap_nil, List.getElem?_toArray, List.getElem?_cons_zero, List.getElem?_cons_succ]
        repeat (first
          | go_big_quiet_skip
          | (go_big_quiet_want; go_big_quiet_op; go_big_quiet_on)
          | (refine id (?_ : wpQuiet _ _ _ _ (_ :: _) _); first | go_big_quiet_skip | (go_big_quiet_want; go_big_quiet_op; go_big_quiet_on)))
        refine wpQuiet_nil ?_
        generalize hW : (wr.alloc (.cells #[.int .i64 x0, .int .i64 x1, .int .i64 x2, .int .i64 x3] 23)).drew = W at *
        have i1 := bx.cell 1
        have f1 := bx.frozen 1
        refine wpPl_e _ (by rfl) (by kernel_rfl) (fun K hK => ?_)
        go_simp
        have up1 := Upd.one W wr.heap.size 1 (.int .i64 1)
        replace bw := bw.upd up1 (Ne.symm hxw)
        replace bn := bn.upd up1 (Ne.symm hxn)
        replace pl := Pl.upd (S := (· = wr.heap.size)) pl up1 hxp hxg hxh
        replace bel : Below w.heap.size w (W.setCell ⟨wr.heap.size, 1, none⟩ (.int .i64 1)) := bel.trans (up1.below bel.size (fun k hk e => by subst e; omega))
        replace bx : Blk (W.setCell ⟨wr.heap.size, 1, none⟩ (.int .i64 1)) wr.heap.size 23 _ := bx.set_ 1 (.int .i64 1)
        refine hK _ _ bw ?_
        clear hK K i1 f1 up1
        generalize W.setCell ⟨wr.heap.size, 1, none⟩ (.int .i64 1) = W2 at *
        refine wpPl_qs 1 _ _ _ (by kernel_rfl) (by kernel_rfl) (by simp) ?_
        unfold clsS
        simp only [List.take_succ_cons, List.take_zero, List.drop_succ_cons, List.drop_zero, List.filterMap_cons, List.filterMap_nil, List.getElem?_toArray, List.getElem?_cons_zero, List.getElem?_cons_succ]
        repeat (first
          | go_big_quiet_skip
          | (go_big_quiet_want; go_big_quiet_op; go_big_quiet_on)
          | (refine id (?_ : wpQuiet _ _ _ _ (_ :: _) _); first | go_big_quiet_skip | (go_big_quiet_want; go_big_quiet_op; go_big_quiet_on)))
        refine wpQuiet_nil ?_
        have i2 := bx.cell 2
        have f2 := bx.frozen 2
        refine wpPl_e _ (by rfl) (by kernel_rfl) (fun K hK => ?_)
        go_simp
        have up2 := Upd.one W2 wr.heap.size 2 (.int .i64 c)
        replace bw := bw.upd up2 (Ne.symm hxw)
        replace bn := bn.upd up2 (Ne.symm hxn)
        replace pl := Pl.upd (S := (· = wr.heap.size)) pl up2 hxp hxg hxh
        replace bel : Below w.heap.size w (W2.setCell ⟨wr.heap.size, 2, none⟩ (.int .i64 c)) := bel.trans (up2.below bel.size (fun k hk e => by subst e; omega))
        replace bx : Blk (W2.setCell ⟨wr.heap.size, 2, none⟩ (.int .i64 c)) wr.heap.size 23 _ := bx.set_ 2 (.int .i64 c)
        refine hK _ _ bw ?_
        clear hK K i2 f2 up2
        generalize W2.setCell ⟨wr.heap.size, 2, none⟩ (.int .i64 c) = W3 at *
        refine wpPl_qs 1 _ _ _ (by kernel_rfl) (by kernel_rfl) (by simp) ?_
        unfold clsS
        simp only [List.take_succ_cons, List.take_zero, List.drop_succ_cons, List.drop_zero, List.filterMap_cons, List.filterMap_nil, List.getElem?_toArray, List.getElem?_cons_zero, List.getElem?_cons_succ]
        repeat (first
          | go_big_quiet_skip
          | (go_big_quiet_want; go_big_quiet_op; go_big_quiet_on)
          | (refine id (?_ : wpQuiet _ _ _ _ (_ :: _) _); first | go_big_quiet_skip | (go_big_quiet_want; go_big_quiet_op; go_big_quiet_on)))
        refine wpQuiet_nil ?_
        have i3 := bx.cell 3
        have f3 := bx.frozen 3
        refine wpPl_e _ (by rfl) (by kernel_rfl) (fun K hK => ?_)
        go_simp
        have up3 := Upd.one W3 wr.heap.size 3 (.int .i64 d)
        replace bw := bw.upd up3 (Ne.symm hxw)
        replace bn := bn.upd up3 (Ne.symm hxn)
        replace pl := Pl.upd (S := (· = wr.heap.size)) pl up3 hxp hxg hxh
        replace bel : Below w.heap.size w (W3.setCell ⟨wr.heap.size, 3, none⟩ (.int .i64 d)) := bel.trans (up3.below bel.size (fun k hk e => by subst e; omega))
        replace bx : Blk (W3.setCell ⟨wr.heap.size, 3, none⟩ (.int .i64 d)) wr.heap.size 23 _ := bx.set_ 3 (.int .i64 d)
        refine hK _ _ bw ?_
        clear hK K i3 f3 up3
        generalize W3.setCell ⟨wr.heap.size, 3, none⟩ (.int .i64 d) = W4 at *
        unfold wpPl
        refine NoPanic.normal ?_
        obtain ⟨y1, hy1⟩ : ∃ y : Int, y = 1 := ⟨_, rfl⟩
        obtain ⟨y2, hy2⟩ : ∃ y, y = c := ⟨_, rfl⟩
        obtain ⟨y3, hy3⟩ : ∃ y, y = d := ⟨_, rfl⟩
        replace bx : Blk W4 wr.heap.size 23 #[.int .i64 x0, .int .i64 y1, .int .i64 y2, .int .i64 y3] := by rw [hy1, hy2, hy3]; exact bx
        clear hy1 hy2 hy3 z1 z2 z3 this hW
        rcases cs with rfl | cs
        · cases hB : decide ((Wd.mk 1 1 c d).may (Wd.mk x0 y1 y2 y3)) with
          | false =>
            have n0 := bn.cell 0
            have n1 := bn.cell 1
            have n2 := bn.cell 2
            have n3 := bn.cell 3
            have e0 := bw.cell 0
            have e1 := bw.cell 1
            have e2 := bw.cell 2
            have e3 := bw.cell 3
            have i0 := bx.cell 0
            have i1 := bx.cell 1
            have i2 := bx.cell 2
            have i3 := bx.cell 3
            go_wp2_with fail
            refine (rMay_any _ _ _ _ _ _ _ _ _).mono ?_
            rw [hB]
            rintro r u0 ⟨rfl, q0⟩
            clear n0 n1 n2 n3 e0 e1 e2 e3 i0 i1 i2 i3
            replace bw := bw.bel q0
            replace bn := bn.bel q0
            replace bx := bx.bel q0
            replace pl := pl.bel q0
            replace bel := bel_after bel q0
            clear q0
            go_wp2_with fail
            have z0 : ∀ t : Tw (fun w' => Blk w' w.heap.size 23 #[.int .i64 1, .int .i64 1, .int .i64 c, .int .i64 d] ∧ Blk w' wr.heap.size 23 #[.int .i64 x0, .int .i64 y1, .int .i64 y2, .int .i64 y3]), t.w.cell? ⟨w.heap.size, 0, none⟩ = some (.int .i64 1) := fun t => t.h.1.cell 0
            have z1 : ∀ t : Tw (fun w' => Blk w' w.heap.size 23 #[.int .i64 1, .int .i64 1, .int .i64 c, .int .i64 d] ∧ Blk w' wr.heap.size 23 #[.int .i64 x0, .int .i64 y1, .int .i64 y2, .int .i64 y3]), t.w.cell? ⟨w.heap.size, 1, none⟩ = some (.int .i64 1) := fun t => t.h.1.cell 1
            have z2 : ∀ t : Tw (fun w' => Blk w' w.heap.size 23 #[.int .i64 1, .int .i64 1, .int .i64 c, .int .i64 d] ∧ Blk w' wr.heap.size 23 #[.int .i64 x0, .int .i64 y1, .int .i64 y2, .int .i64 y3]), t.w.cell? ⟨w.heap.size, 2, none⟩ = some (.int .i64 c) := fun t => t.h.1.cell 2
            have z3 : ∀ t : Tw (fun w' => Blk w' w.heap.size 23 #[.int .i64 1, .int .i64 1, .int .i64 c, .int .i64 d] ∧ Blk w' wr.heap.size 23 #[.int .i64 x0, .int .i64 y1, .int .i64 y2, .int .i64 y3]), t.w.cell? ⟨w.heap.size, 3, none⟩ = some (.int .i64 d) := fun t => t.h.1.cell 3
            have v0 : ∀ t : Tw (fun w' => Blk w' w.heap.size 23 #[.int .i64 1, .int .i64 1, .int .i64 c, .int .i64 d] ∧ Blk w' wr.heap.size 23 #[.int .i64 x0, .int .i64 y1, .int .i64 y2, .int .i64 y3]), t.w.cell? ⟨wr.heap.size, 0, none⟩ = some (.int .i64 x0) := fun t => t.h.2.cell 0
            have v1 : ∀ t : Tw (fun w' => Blk w' w.heap.size 23 #[.int .i64 1, .int .i64 1, .int .i64 c, .int .i64 d] ∧ Blk w' wr.heap.size 23 #[.int .i64 x0, .int .i64 y1, .int .i64 y2, .int .i64 y3]), t.w.cell? ⟨wr.heap.size, 1, none⟩ = some (.int .i64 y1) := fun t => t.h.2.cell 1
            have v2 : ∀ t : Tw (fun w' => Blk w' w.heap.size 23 #[.int .i64 1, .int .i64 1, .int .i64 c, .int .i64 d] ∧ Blk w' wr.heap.size 23 #[.int .i64 x0, .int .i64 y1, .int .i64 y2, .int .i64 y3]), t.w.cell? ⟨wr.heap.size, 2, none⟩ = some (.int .i64 y2) := fun t => t.h.2.cell 2
            have v3 : ∀ t : Tw (fun w' => Blk w' w.heap.size 23 #[.int .i64 1, .int .i64 1, .int .i64 c, .int .i64 d] ∧ Blk w' wr.heap.size 23 #[.int .i64 x0, .int .i64 y1, .int .i64 y2, .int .i64 y3]), t.w.cell? ⟨wr.heap.size, 3, none⟩ = some (.int .i64 y3) := fun t => t.h.2.cell 3
            have : Nonempty (Tw (fun w' => Blk w' w.heap.size 23 #[.int .i64 1, .int .i64 1, .int .i64 c, .int .i64 d] ∧ Blk w' wr.heap.size 23 #[.int .i64 x0, .int .i64 y1, .int .i64 y2, .int .i64 y3])) := ⟨⟨_, bw, bx⟩⟩
            refine wp_region_plan (fun w' => Blk w' w.heap.size 23 #[.int .i64 1, .int .i64 1, .int .i64 c, .int .i64 d] ∧ Blk w' wr.heap.size 23 #[.int .i64 x0, .int .i64 y1, .int .i64 y2, .int .i64 y3]) [(0, true), (1, true), (3, true), (6, true), (2, false), (4, false), (5, false), (7, true)] (by kernel_rfl) (by kernel_rfl) (by kernel_rfl) (by kernel_rfl) ⟨bw.drew, bx.drew⟩ ?_
            refine wpPl_qs 4 _ _ _ (by kernel_rfl) (by kernel_rfl) (by simp) ?_
            unfold clsS
            simp only [List.take_succ_cons, List.take_zero, List.drop_succ_cons, List.drop_zero, List.filterMap_cons, List.filterMap_nil, List.getElem?_toArray, List.getElem?_cons_zero, List.getElem?_cons_succ]
            repeat (first
              | go_big_quiet_skip
              | (go_big_quiet_want; go_big_quiet_op; go_big_quiet_on)
              | (refine id (?_ : wpQuiet _ _ _ _ (_ :: _) _); first | go_big_quiet_skip | (go_big_quiet_want; go_big_quiet_op; go_big_quiet_on)))
            refine wpQuiet_nil ?_
            refine wpPl_e _ (by rfl) (by kernel_rfl) (fun K hK => ?_)
            go_simp
            refine (To_any _ _ _ _ _).mono ?_
            rintro r u1 ⟨rfl, q1⟩
            refine hK _ _ ⟨bw.drew.bel q1, bx.drew.bel q1⟩ ?_
            clear hK K
            refine wpPl_e _ (by rfl) (by kernel_rfl) (fun K hK => ?_)
            go_simp
            refine (To_any _ _ _ _ _).mono ?_
            rintro r u2 ⟨rfl, q2⟩
            refine hK _ _ ⟨(bw.drew.bel q1).bel q2, (bx.drew.bel q1).bel q2⟩ ?_
            clear hK K
            replace bw := (bw.drew.bel q1).bel q2
            replace bx := (bx.drew.bel q1).bel q2
            replace bn := (bn.drew.bel q1).bel q2
            replace pl := ((pl.drewN 1).bel q1).bel q2
            replace bel := bel_after (bel_after bel.drew q1) q2
            refine wpPl_e _ (by rfl) (by kernel_rfl) (fun K hK => ?_)
            go_simp
            refine (PlCas_any 0 1 1 c d x0 y1 y2 y3 p g h 1 _ _ pl (by omega) false (decide_eq_false fun hh => of_decide_eq_false hB hh.2.1)).mono ?_
            rintro r u3 ⟨rfl, pl3, q3⟩
            have bw3 := bw.upd q3 (Ne.symm hgh)
            have bx3 := bx.upd q3 (Ne.symm hxh)
            have bn3 := bn.upd q3 (Ne.symm hnh)
            have bel3 : Below w.heap.size w u3 := bel.trans (q3.below bel.size (fun k hk e => by subst e; omega))
            refine hK _ _ ⟨bw3, bx3⟩ ?_
            clear hK K
            refine wpPl_qs 1 _ _ _ (by kernel_rfl) (by kernel_rfl) (by simp) ?_
            unfold clsS
            simp only [List.take_succ_cons, List.take_zero, List.drop_succ_cons, List.drop_zero, List.filterMap_cons, List.filterMap_nil, List.getElem?_toArray, List.getElem?_cons_zero, List.getElem?_cons_succ]
            repeat (first
              | go_big_quiet_skip
              | (go_big_quiet_want; go_big_quiet_op; go_big_quiet_on)
              | (refine id (?_ : wpQuiet _ _ _ _ (_ :: _) _); first | go_big_quiet_skip | (go_big_quiet_want; go_big_quiet_op; go_big_quiet_on)))
            refine wpQuiet_nil ?_
            unfold wpPl
            refine NoPanic.normal ?_
            clear z0 z1 z2 z3 v0 v1 v2 v3 this bw bx bn pl bel q1 q2 q3
            have pl5 : Pl u3 p g h 1 [(⟨1, 1, c, d⟩ : Wd).num, 0] := pl3
            have bw5 := bw3
            have bn5 := bn3
            have bel5 := bel3
            have ok5 := ok
            go_wp2_with fail
            generalize u3 = u5 at *
            have hL := fun W (hW : Below u5.heap.size u5 W) => PlLoad_any 0 p g h 1 _ W (pl5.bel hW) (by omega)
            rw [show (unW (celAt [(⟨1, 1, c, d⟩ : Wd).num, 0] (2 * 0))).val = (⟨1, 1, c, d⟩ : Wd).val by rw [show celAt [(⟨1, 1, c, d⟩ : Wd).num, 0] (2 * 0) = (⟨1, 1, c, d⟩ : Wd).num from rfl, un_num ok5]] at hL
            unfold Wd.val at hL
            simp only at hL
            replace hL := Lib.hid hL
            have z0 : ∀ t : Tw (fun w' => Below u5.heap.size u5 w'), t.w.cell? ⟨gn, 0, none⟩ = _ := fun t => bn5.tw bn5.lt t 0
            have z1 : ∀ t : Tw (fun w' => Below u5.heap.size u5 w'), t.w.cell? ⟨gn, 1, none⟩ = _ := fun t => bn5.tw bn5.lt t 1
            have z2 : ∀ t : Tw (fun w' => Below u5.heap.size u5 w'), t.w.cell? ⟨gn, 2, none⟩ = _ := fun t => bn5.tw bn5.lt t 2
            have z3 : ∀ t : Tw (fun w' => Below u5.heap.size u5 w'), t.w.cell? ⟨gn, 3, none⟩ = _ := fun t => bn5.tw bn5.lt t 3
            simp only [List.getElem?_toArray, List.getElem?_cons_zero, List.getElem?_cons_succ] at z0 z1 z2 z3
            have : Nonempty (Tw (fun w' => Below u5.heap.size u5 w')) := ⟨⟨u5, Below.refl _ _⟩⟩
            refine region_tw (fun w' => Below u5.heap.size u5 w') (by kernel_rfl) (by kernel_rfl) (Below.refl _ _).drew ?_
            unfold clsS
            repeat (first
              | go_big_quiet_skip
              | (go_big_quiet_want; go_big_quiet_op; first | go_big_quiet_on | go_big_quiet_call (
                (first
                | (go_at_call 19; exact q_tw (Nat.le_refl _) (hL.out _ (Tw.h _)))
                | (go_at_call 13; exact q_tw (Nat.le_refl _) (From_any _ _ _ _ _))))))
            refine wpQuiet_nil ?_
            intro tq
            go_wp2_with fail
            go_roundw
            case rel => exact ⟨k + 1, ⟨1, 1, c, d⟩, by go_num, by omega, bw5.bel tq.h, bn5.bel tq.h, pl5.bel tq.h, ok5, by first | exact .inl rfl | exact cs5 | exact .inr (by simp), bel_after bel5 tq.h⟩
            case measure => simp [intOf]; omega
          | true =>
            have n0 := bn.cell 0
            have n1 := bn.cell 1
            have n2 := bn.cell 2
            have n3 := bn.cell 3
            have e0 := bw.cell 0
            have e1 := bw.cell 1
            have e2 := bw.cell 2
            have e3 := bw.cell 3
            have i0 := bx.cell 0
            have i1 := bx.cell 1
            have i2 := bx.cell 2
            have i3 := bx.cell 3
            go_wp2_with fail
            refine (rMay_any _ _ _ _ _ _ _ _ _).mono ?_
            rw [hB]
            rintro r u0 ⟨rfl, q0⟩
            clear n0 n1 n2 n3 e0 e1 e2 e3 i0 i1 i2 i3
            replace bw := bw.bel q0
            replace bn := bn.bel q0
            replace bx := bx.bel q0
            replace pl := pl.bel q0
            replace bel := bel_after bel q0
            clear q0
            go_wp2_with fail
            have hmay := of_decide_eq_true hB
            have z0 : ∀ t : Tw (fun w' => Blk w' w.heap.size 23 #[.int .i64 1, .int .i64 1, .int .i64 c, .int .i64 d] ∧ Blk w' wr.heap.size 23 #[.int .i64 x0, .int .i64 y1, .int .i64 y2, .int .i64 y3]), t.w.cell? ⟨w.heap.size, 0, none⟩ = some (.int .i64 1) := fun t => t.h.1.cell 0
            have z1 : ∀ t : Tw (fun w' => Blk w' w.heap.size 23 #[.int .i64 1, .int .i64 1, .int .i64 c, .int .i64 d] ∧ Blk w' wr.heap.size 23 #[.int .i64 x0, .int .i64 y1, .int .i64 y2, .int .i64 y3]), t.w.cell? ⟨w.heap.size, 1, none⟩ = some (.int .i64 1) := fun t => t.h.1.cell 1
            have z2 : ∀ t : Tw (fun w' => Blk w' w.heap.size 23 #[.int .i64 1, .int .i64 1, .int .i64 c, .int .i64 d] ∧ Blk w' wr.heap.size 23 #[.int .i64 x0, .int .i64 y1, .int .i64 y2, .int .i64 y3]), t.w.cell? ⟨w.heap.size, 2, none⟩ = some (.int .i64 c) := fun t => t.h.1.cell 2
            have z3 : ∀ t : Tw (fun w' => Blk w' w.heap.size 23 #[.int .i64 1, .int .i64 1, .int .i64 c, .int .i64 d] ∧ Blk w' wr.heap.size 23 #[.int .i64 x0, .int .i64 y1, .int .i64 y2, .int .i64 y3]), t.w.cell? ⟨w.heap.size, 3, none⟩ = some (.int .i64 d) := fun t => t.h.1.cell 3
            have v0 : ∀ t : Tw (fun w' => Blk w' w.heap.size 23 #[.int .i64 1, .int .i64 1, .int .i64 c, .int .i64 d] ∧ Blk w' wr.heap.size 23 #[.int .i64 x0, .int .i64 y1, .int .i64 y2, .int .i64 y3]), t.w.cell? ⟨wr.heap.size, 0, none⟩ = some (.int .i64 x0) := fun t => t.h.2.cell 0
            have v1 : ∀ t : Tw (fun w' => Blk w' w.heap.size 23 #[.int .i64 1, .int .i64 1, .int .i64 c, .int .i64 d] ∧ Blk w' wr.heap.size 23 #[.int .i64 x0, .int .i64 y1, .int .i64 y2, .int .i64 y3]), t.w.cell? ⟨wr.heap.size, 1, none⟩ = some (.int .i64 y1) := fun t => t.h.2.cell 1
            have v2 : ∀ t : Tw (fun w' => Blk w' w.heap.size 23 #[.int .i64 1, .int .i64 1, .int .i64 c, .int .i64 d] ∧ Blk w' wr.heap.size 23 #[.int .i64 x0, .int .i64 y1, .int .i64 y2, .int .i64 y3]), t.w.cell? ⟨wr.heap.size, 2, none⟩ = some (.int .i64 y2) := fun t => t.h.2.cell 2
            have v3 : ∀ t : Tw (fun w' => Blk w' w.heap.size 23 #[.int .i64 1, .int .i64 1, .int .i64 c, .int .i64 d] ∧ Blk w' wr.heap.size 23 #[.int .i64 x0, .int .i64 y1, .int .i64 y2, .int .i64 y3]), t.w.cell? ⟨wr.heap.size, 3, none⟩ = some (.int .i64 y3) := fun t => t.h.2.cell 3
            have : Nonempty (Tw (fun w' => Blk w' w.heap.size 23 #[.int .i64 1, .int .i64 1, .int .i64 c, .int .i64 d] ∧ Blk w' wr.heap.size 23 #[.int .i64 x0, .int .i64 y1, .int .i64 y2, .int .i64 y3])) := ⟨⟨_, bw, bx⟩⟩
            refine wp_region_plan (fun w' => Blk w' w.heap.size 23 #[.int .i64 1, .int .i64 1, .int .i64 c, .int .i64 d] ∧ Blk w' wr.heap.size 23 #[.int .i64 x0, .int .i64 y1, .int .i64 y2, .int .i64 y3]) [(0, true), (1, true), (3, true), (6, true), (2, false), (4, false), (5, false), (7, true)] (by kernel_rfl) (by kernel_rfl) (by kernel_rfl) (by kernel_rfl) ⟨bw.drew, bx.drew⟩ ?_
            refine wpPl_qs 4 _ _ _ (by kernel_rfl) (by kernel_rfl) (by simp) ?_
            unfold clsS
            simp only [List.take_succ_cons, List.take_zero, List.drop_succ_cons, List.drop_zero, List.filterMap_cons, List.filterMap_nil, List.getElem?_toArray, List.getElem?_cons_zero, List.getElem?_cons_succ]
            repeat (first
              | go_big_quiet_skip
              | (go_big_quiet_want; go_big_quiet_op; go_big_quiet_on)
              | (refine id (?_ : wpQuiet _ _ _ _ (_ :: _) _); first | go_big_quiet_skip | (go_big_quiet_want; go_big_quiet_op; go_big_quiet_on)))
            refine wpQuiet_nil ?_
            refine wpPl_e _ (by rfl) (by kernel_rfl) (fun K hK => ?_)
            go_simp
            refine (To_any _ _ _ _ _).mono ?_
            rintro r u1 ⟨rfl, q1⟩
            refine hK _ _ ⟨bw.drew.bel q1, bx.drew.bel q1⟩ ?_
            clear hK K
            refine wpPl_e _ (by rfl) (by kernel_rfl) (fun K hK => ?_)
            go_simp
            refine (To_any _ _ _ _ _).mono ?_
            rintro r u2 ⟨rfl, q2⟩
            refine hK _ _ ⟨(bw.drew.bel q1).bel q2, (bx.drew.bel q1).bel q2⟩ ?_
            clear hK K
            replace bw := (bw.drew.bel q1).bel q2
            replace bx := (bx.drew.bel q1).bel q2
            replace bn := (bn.drew.bel q1).bel q2
            replace pl := ((pl.drewN 1).bel q1).bel q2
            replace bel := bel_after (bel_after bel.drew q1) q2
            refine wpPl_e _ (by rfl) (by kernel_rfl) (fun K hK => ?_)
            go_simp
            refine (PlCas_any 0 1 1 c d x0 y1 y2 y3 p g h 1 _ _ pl (by omega) true (decide_eq_true ⟨by omega, hmay, rfl⟩)).mono ?_
            rintro r u3 ⟨rfl, pl3, q3⟩
            have bw3 := bw.upd q3 (Ne.symm hgh)
            have bx3 := bx.upd q3 (Ne.symm hxh)
            have bn3 := bn.upd q3 (Ne.symm hnh)
            have bel3 : Below w.heap.size w u3 := bel.trans (q3.below bel.size (fun k hk e => by subst e; omega))
            refine hK _ _ ⟨bw3, bx3⟩ ?_
            clear hK K
            refine wpPl_qs 1 _ _ _ (by kernel_rfl) (by kernel_rfl) (by simp) ?_
            unfold clsS
            simp only [List.take_succ_cons, List.take_zero, List.drop_succ_cons, List.drop_zero, List.filterMap_cons, List.filterMap_nil, List.getElem?_toArray, List.getElem?_cons_zero, List.getElem?_cons_succ]
            repeat (first
              | go_big_quiet_skip
              | (go_big_quiet_want; go_big_quiet_op; go_big_quiet_on)
              | (refine id (?_ : wpQuiet _ _ _ _ (_ :: _) _); first | go_big_quiet_skip | (go_big_quiet_want; go_big_quiet_op; go_big_quiet_on)))
            refine wpQuiet_nil ?_
            unfold wpPl
            refine NoPanic.normal ?_
            clear z0 z1 z2 z3 v0 v1 v2 v3 this bw bx bn pl bel q1 q2 q3
            have pl5 : Pl u3 p g h 1 [(Wd.mk x0 y1 y2 y3).num, 0] := pl3
            have i0 := bx3.cell 0
            have i1 := bx3.cell 1
            have i2 := bx3.cell 2
            have i3 := bx3.cell 3
            have n0 := bn3.cell 0
            have n1 := bn3.cell 1
            have n2 := bn3.cell 2
            have n3 := bn3.cell 3
            have f0 := bn3.frozen 0
            have f1 := bn3.frozen 1
            have f2 := bn3.frozen 2
            have f3 := bn3.frozen 3
            have ok5 := hmay.2.1
            have cs5 : (Wd.mk x0 y1 y2 y3) = ⟨1, 1, c, d⟩ ∨ x0 = 2 ∨ x0 = 0 := by
              have h5 := hmay.2.2
              simp at h5
              right; omega
            have up := (((Upd.one u3 gn 0 (.int .i64 x0)).setCell (p := ⟨gn, 1, none⟩) (fun _ => rfl) (.int .i64 y1)).setCell (p := ⟨gn, 2, none⟩) (fun _ => rfl) (.int .i64 y2)).setCell (p := ⟨gn, 3, none⟩) (fun _ => rfl) (.int .i64 y3)
            have bn5 : Blk ((((u3.setCell ⟨gn, 0, none⟩ (.int .i64 x0)).setCell ⟨gn, 1, none⟩ (.int .i64 y1)).setCell ⟨gn, 2, none⟩ (.int .i64 y2)).setCell ⟨gn, 3, none⟩ (.int .i64 y3)) gn 23 #[.int .i64 x0, .int .i64 y1, .int .i64 y2, .int .i64 y3] := (((bn3.set_ 0 (.int .i64 x0)).set_ 1 (.int .i64 y1)).set_ 2 (.int .i64 y2)).set_ 3 (.int .i64 y3)
            have bw5 := bw3.upd up (Ne.symm hnw)
            replace pl5 := pl5.upd up hnp hng hnh
            have bel5 : Below w.heap.size w ((((u3.setCell ⟨gn, 0, none⟩ (.int .i64 x0)).setCell ⟨gn, 1, none⟩ (.int .i64 y1)).setCell ⟨gn, 2, none⟩ (.int .i64 y2)).setCell ⟨gn, 3, none⟩ (.int .i64 y3)) := bel3.trans (up.below bel3.size (fun k hk e => by subst e; omega))
            clear bn3 bx3 bw3 pl3 bel3 up
            go_wp2_with fail
            generalize ((((u3.setCell ⟨gn, 0, none⟩ (.int .i64 x0)).setCell ⟨gn, 1, none⟩ (.int .i64 y1)).setCell ⟨gn, 2, none⟩ (.int .i64 y2)).setCell ⟨gn, 3, none⟩ (.int .i64 y3)) = u5 at *
            clear i0 i1 i2 i3 n0 n1 n2 n3 f0 f1 f2 f3
            have hL := fun W (hW : Below u5.heap.size u5 W) => PlLoad_any 0 p g h 1 _ W (pl5.bel hW) (by omega)
            rw [show (unW (celAt [(⟨x0, y1, y2, y3⟩ : Wd).num, 0] (2 * 0))).val = (⟨x0, y1, y2, y3⟩ : Wd).val by rw [show celAt [(⟨x0, y1, y2, y3⟩ : Wd).num, 0] (2 * 0) = (⟨x0, y1, y2, y3⟩ : Wd).num from rfl, un_num ok5]] at hL
            unfold Wd.val at hL
            simp only at hL
            replace hL := Lib.hid hL
            have z0 : ∀ t : Tw (fun w' => Below u5.heap.size u5 w'), t.w.cell? ⟨gn, 0, none⟩ = _ := fun t => bn5.tw bn5.lt t 0
            have z1 : ∀ t : Tw (fun w' => Below u5.heap.size u5 w'), t.w.cell? ⟨gn, 1, none⟩ = _ := fun t => bn5.tw bn5.lt t 1
            have z2 : ∀ t : Tw (fun w' => Below u5.heap.size u5 w'), t.w.cell? ⟨gn, 2, none⟩ = _ := fun t => bn5.tw bn5.lt t 2
            have z3 : ∀ t : Tw (fun w' => Below u5.heap.size u5 w'), t.w.cell? ⟨gn, 3, none⟩ = _ := fun t => bn5.tw bn5.lt t 3
            simp only [List.getElem?_toArray, List.getElem?_cons_zero, List.getElem?_cons_succ] at z0 z1 z2 z3
            have : Nonempty (Tw (fun w' => Below u5.heap.size u5 w')) := ⟨⟨u5, Below.refl _ _⟩⟩
            refine region_tw (fun w' => Below u5.heap.size u5 w') (by kernel_rfl) (by kernel_rfl) (Below.refl _ _).drew ?_
            unfold clsS
            repeat (first
              | go_big_quiet_skip
              | (go_big_quiet_want; go_big_quiet_op; first | go_big_quiet_on | go_big_quiet_call (
                (first
                | (go_at_call 19; exact q_tw (Nat.le_refl _) (hL.out _ (Tw.h _)))
                | (go_at_call 13; exact q_tw (Nat.le_refl _) (From_any _ _ _ _ _))))))
            refine wpQuiet_nil ?_
            intro tq
            go_wp2_with fail
            go_roundw
            case rel => exact ⟨k + 1, ⟨x0, y1, y2, y3⟩, by go_num, by omega, bw5.bel tq.h, bn5.bel tq.h, pl5.bel tq.h, ok5, by first | exact .inl rfl | exact cs5 | exact .inr (by simp), bel_after bel5 tq.h⟩
            case measure => simp [intOf]; omega
        · obtain ⟨s0, s1, s2, s3⟩ := N
          simp only at cs
          have cs5 : (Wd.mk s0 s1 s2 s3) = ⟨1, 1, c, d⟩ ∨ s0 = 2 ∨ s0 = 0 := .inr cs
          have hcas : ∀ (q : Prop) [Decidable q], decide ((0 ≤ (0 : Int) ∧ (0 : Int) < (1 : Nat)) ∧ q ∧ celAt [(Wd.mk s0 s1 s2 s3).num, 0] (2 * 0) = (Wd.mk 1 1 c d).num) = false := fun q _ => decide_eq_false fun hh => by
            have := num_inj ok hok hh.2.2
            simp at this
            omega
          rcases cs with rfl | rfl
          all_goals
            have n0 := bn.cell 0
            have n1 := bn.cell 1
            have n2 := bn.cell 2
            have n3 := bn.cell 3
            have e0 := bw.cell 0
            have e1 := bw.cell 1
            have e2 := bw.cell 2
            have e3 := bw.cell 3
            have i0 := bx.cell 0
            have i1 := bx.cell 1
            have i2 := bx.cell 2
            have i3 := bx.cell 3
            go_wp2_with fail
            have z0 : ∀ t : Tw (fun w' => Blk w' w.heap.size 23 #[.int .i64 1, .int .i64 1, .int .i64 c, .int .i64 d] ∧ Blk w' wr.heap.size 23 #[.int .i64 x0, .int .i64 y1, .int .i64 y2, .int .i64 y3]), t.w.cell? ⟨w.heap.size, 0, none⟩ = some (.int .i64 1) := fun t => t.h.1.cell 0
            have z1 : ∀ t : Tw (fun w' => Blk w' w.heap.size 23 #[.int .i64 1, .int .i64 1, .int .i64 c, .int .i64 d] ∧ Blk w' wr.heap.size 23 #[.int .i64 x0, .int .i64 y1, .int .i64 y2, .int .i64 y3]), t.w.cell? ⟨w.heap.size, 1, none⟩ = some (.int .i64 1) := fun t => t.h.1.cell 1
            have z2 : ∀ t : Tw (fun w' => Blk w' w.heap.size 23 #[.int .i64 1, .int .i64 1, .int .i64 c, .int .i64 d] ∧ Blk w' wr.heap.size 23 #[.int .i64 x0, .int .i64 y1, .int .i64 y2, .int .i64 y3]), t.w.cell? ⟨w.heap.size, 2, none⟩ = some (.int .i64 c) := fun t => t.h.1.cell 2
            have z3 : ∀ t : Tw (fun w' => Blk w' w.heap.size 23 #[.int .i64 1, .int .i64 1, .int .i64 c, .int .i64 d] ∧ Blk w' wr.heap.size 23 #[.int .i64 x0, .int .i64 y1, .int .i64 y2, .int .i64 y3]), t.w.cell? ⟨w.heap.size, 3, none⟩ = some (.int .i64 d) := fun t => t.h.1.cell 3
            have v0 : ∀ t : Tw (fun w' => Blk w' w.heap.size 23 #[.int .i64 1, .int .i64 1, .int .i64 c, .int .i64 d] ∧ Blk w' wr.heap.size 23 #[.int .i64 x0, .int .i64 y1, .int .i64 y2, .int .i64 y3]), t.w.cell? ⟨wr.heap.size, 0, none⟩ = some (.int .i64 x0) := fun t => t.h.2.cell 0
            have v1 : ∀ t : Tw (fun w' => Blk w' w.heap.size 23 #[.int .i64 1, .int .i64 1, .int .i64 c, .int .i64 d] ∧ Blk w' wr.heap.size 23 #[.int .i64 x0, .int .i64 y1, .int .i64 y2, .int .i64 y3]), t.w.cell? ⟨wr.heap.size, 1, none⟩ = some (.int .i64 y1) := fun t => t.h.2.cell 1
            have v2 : ∀ t : Tw (fun w' => Blk w' w.heap.size 23 #[.int .i64 1, .int .i64 1, .int .i64 c, .int .i64 d] ∧ Blk w' wr.heap.size 23 #[.int .i64 x0, .int .i64 y1, .int .i64 y2, .int .i64 y3]), t.w.cell? ⟨wr.heap.size, 2, none⟩ = some (.int .i64 y2) := fun t => t.h.2.cell 2
            have v3 : ∀ t : Tw (fun w' => Blk w' w.heap.size 23 #[.int .i64 1, .int .i64 1, .int .i64 c, .int .i64 d] ∧ Blk w' wr.heap.size 23 #[.int .i64 x0, .int .i64 y1, .int .i64 y2, .int .i64 y3]), t.w.cell? ⟨wr.heap.size, 3, none⟩ = some (.int .i64 y3) := fun t => t.h.2.cell 3
            have : Nonempty (Tw (fun w' => Blk w' w.heap.size 23 #[.int .i64 1, .int .i64 1, .int .i64 c, .int .i64 d] ∧ Blk w' wr.heap.size 23 #[.int .i64 x0, .int .i64 y1, .int .i64 y2, .int .i64 y3])) := ⟨⟨_, bw, bx⟩⟩
            refine wp_region_plan (fun w' => Blk w' w.heap.size 23 #[.int .i64 1, .int .i64 1, .int .i64 c, .int .i64 d] ∧ Blk w' wr.heap.size 23 #[.int .i64 x0, .int .i64 y1, .int .i64 y2, .int .i64 y3]) [(0, true), (1, true), (3, true), (6, true), (2, false), (4, false), (5, false), (7, true)] (by kernel_rfl) (by kernel_rfl) (by kernel_rfl) (by kernel_rfl) ⟨bw.drew, bx.drew⟩ ?_
            refine wpPl_qs 4 _ _ _ (by kernel_rfl) (by kernel_rfl) (by simp) ?_
            unfold clsS
            simp only [List.take_succ_cons, List.take_zero, List.drop_succ_cons, List.drop_zero, List.filterMap_cons, List.filterMap_nil, List.getElem?_toArray, List.getElem?_cons_zero, List.getElem?_cons_succ]
            repeat (first
              | go_big_quiet_skip
              | (go_big_quiet_want; go_big_quiet_op; go_big_quiet_on)
              | (refine id (?_ : wpQuiet _ _ _ _ (_ :: _) _); first | go_big_quiet_skip | (go_big_quiet_want; go_big_quiet_op; go_big_quiet_on)))
            refine wpQuiet_nil ?_
            refine wpPl_e _ (by rfl) (by kernel_rfl) (fun K hK => ?_)
            go_simp
            refine (To_any _ _ _ _ _).mono ?_
            rintro r u1 ⟨rfl, q1⟩
            refine hK _ _ ⟨bw.drew.bel q1, bx.drew.bel q1⟩ ?_
            clear hK K
            refine wpPl_e _ (by rfl) (by kernel_rfl) (fun K hK => ?_)
            go_simp
            refine (To_any _ _ _ _ _).mono ?_
            rintro r u2 ⟨rfl, q2⟩
            refine hK _ _ ⟨(bw.drew.bel q1).bel q2, (bx.drew.bel q1).bel q2⟩ ?_
            clear hK K
            replace bw := (bw.drew.bel q1).bel q2
            replace bx := (bx.drew.bel q1).bel q2
            replace bn := (bn.drew.bel q1).bel q2
            replace pl := ((pl.drewN 1).bel q1).bel q2
            replace bel := bel_after (bel_after bel.drew q1) q2
            refine wpPl_e _ (by rfl) (by kernel_rfl) (fun K hK => ?_)
            go_simp
            refine (PlCas_any 0 1 1 c d x0 y1 y2 y3 p g h 1 _ _ pl (by omega) false (hcas _)).mono ?_
            rintro r u3 ⟨rfl, pl3, q3⟩
            have bw3 := bw.upd q3 (Ne.symm hgh)
            have bx3 := bx.upd q3 (Ne.symm hxh)
            have bn3 := bn.upd q3 (Ne.symm hnh)
            have bel3 : Below w.heap.size w u3 := bel.trans (q3.below bel.size (fun k hk e => by subst e; omega))
            refine hK _ _ ⟨bw3, bx3⟩ ?_
            clear hK K
            refine wpPl_qs 1 _ _ _ (by kernel_rfl) (by kernel_rfl) (by simp) ?_
            unfold clsS
            simp only [List.take_succ_cons, List.take_zero, List.drop_succ_cons, List.drop_zero, List.filterMap_cons, List.filterMap_nil, List.getElem?_toArray, List.getElem?_cons_zero, List.getElem?_cons_succ]
            repeat (first
              | go_big_quiet_skip
              | (go_big_quiet_want; go_big_quiet_op; go_big_quiet_on)
              | (refine id (?_ : wpQuiet _ _ _ _ (_ :: _) _); first | go_big_quiet_skip | (go_big_quiet_want; go_big_quiet_op; go_big_quiet_on)))
            refine wpQuiet_nil ?_
            unfold wpPl
            refine NoPanic.normal ?_
            clear z0 z1 z2 z3 v0 v1 v2 v3 this bw bx bn pl bel q1 q2 q3
            have pl5 : Pl u3 p g h 1 [(⟨_, s1, s2, s3⟩ : Wd).num, 0] := pl3
            have bw5 := bw3
            have bn5 := bn3
            have bel5 := bel3
            have ok5 := ok
            go_wp2_with fail
            generalize u3 = u5 at *
            have hL := fun W (hW : Below u5.heap.size u5 W) => PlLoad_any 0 p g h 1 _ W (pl5.bel hW) (by omega)
            rw [show (unW (celAt [(⟨_, s1, s2, s3⟩ : Wd).num, 0] (2 * 0))).val = (⟨_, s1, s2, s3⟩ : Wd).val by rw [show celAt [(⟨_, s1, s2, s3⟩ : Wd).num, 0] (2 * 0) = (⟨_, s1, s2, s3⟩ : Wd).num from rfl, un_num ok5]] at hL
            unfold Wd.val at hL
            simp only at hL
            replace hL := Lib.hid hL
            have z0 : ∀ t : Tw (fun w' => Below u5.heap.size u5 w'), t.w.cell? ⟨gn, 0, none⟩ = _ := fun t => bn5.tw bn5.lt t 0
            have z1 : ∀ t : Tw (fun w' => Below u5.heap.size u5 w'), t.w.cell? ⟨gn, 1, none⟩ = _ := fun t => bn5.tw bn5.lt t 1
            have z2 : ∀ t : Tw (fun w' => Below u5.heap.size u5 w'), t.w.cell? ⟨gn, 2, none⟩ = _ := fun t => bn5.tw bn5.lt t 2
            have z3 : ∀ t : Tw (fun w' => Below u5.heap.size u5 w'), t.w.cell? ⟨gn, 3, none⟩ = _ := fun t => bn5.tw bn5.lt t 3
            simp only [List.getElem?_toArray, List.getElem?_cons_zero, List.getElem?_cons_succ] at z0 z1 z2 z3
            have : Nonempty (Tw (fun w' => Below u5.heap.size u5 w')) := ⟨⟨u5, Below.refl _ _⟩⟩
            refine region_tw (fun w' => Below u5.heap.size u5 w') (by kernel_rfl) (by kernel_rfl) (Below.refl _ _).drew ?_
            unfold clsS
            repeat (first
              | go_big_quiet_skip
              | (go_big_quiet_want; go_big_quiet_op; first | go_big_quiet_on | go_big_quiet_call (
                (first
                | (go_at_call 19; exact q_tw (Nat.le_refl _) (hL.out _ (Tw.h _)))
                | (go_at_call 13; exact q_tw (Nat.le_refl _) (From_any _ _ _ _ _))))))
            refine wpQuiet_nil ?_
            intro tq
            go_wp2_with fail
            go_roundw
            case rel => exact ⟨k + 1, ⟨_, s1, s2, s3⟩, by go_num, by omega, bw5.bel tq.h, bn5.bel tq.h, pl5.bel tq.h, ok5, by first | exact .inl rfl | exact cs5 | exact .inr (by simp), bel_after bel5 tq.h⟩
            case measure => simp [intOf]; omega
      · obtain ⟨y1, hy1⟩ : ∃ y, y = x1 := ⟨_, rfl⟩
        obtain ⟨y2, hy2⟩ : ∃ y, y = x2 := ⟨_, rfl⟩
        obtain ⟨y3, hy3⟩ : ∃ y, y = x3 := ⟨_, rfl⟩
        subst hy1 hy2 hy3
        replace bw := bw1
        replace bn := bn1
        replace pl := pl1
        replace bel := bel1
        clear bw1 bn1 pl1 bel1
        rcases cs with rfl | cs
        · cases hB : decide ((Wd.mk 1 1 c d).may (Wd.mk x0 y1 y2 y3)) with
          | false =>
            have n0 := bn.cell 0
            have n1 := bn.cell 1
            have n2 := bn.cell 2
            have n3 := bn.cell 3
            have e0 := bw.cell 0
            have e1 := bw.cell 1
            have e2 := bw.cell 2
            have e3 := bw.cell 3
            have i0 := bx.cell 0
            have i1 := bx.cell 1
            have i2 := bx.cell 2
            have i3 := bx.cell 3
            go_wp2_with fail
            refine (rMay_any _ _ _ _ _ _ _ _ _).mono ?_
            rw [hB]
            rintro r u0 ⟨rfl, q0⟩
            clear n0 n1 n2 n3 e0 e1 e2 e3 i0 i1 i2 i3
            replace bw := bw.bel q0
            replace bn := bn.bel q0
            replace bx := bx.bel q0
            replace pl := pl.bel q0
            replace bel := bel_after bel q0
            clear q0
            go_wp2_with fail
            have z0 : ∀ t : Tw (fun w' => Blk w' w.heap.size 23 #[.int .i64 1, .int .i64 1, .int .i64 c, .int .i64 d] ∧ Blk w' wr.heap.size 23 #[.int .i64 x0, .int .i64 y1, .int .i64 y2, .int .i64 y3]), t.w.cell? ⟨w.heap.size, 0, none⟩ = some (.int .i64 1) := fun t => t.h.1.cell 0
            have z1 : ∀ t : Tw (fun w' => Blk w' w.heap.size 23 #[.int .i64 1, .int .i64 1, .int .i64 c, .int .i64 d] ∧ Blk w' wr.heap.size 23 #[.int .i64 x0, .int .i64 y1, .int .i64 y2, .int .i64 y3]), t.w.cell? ⟨w.heap.size, 1, none⟩ = some (.int .i64 1) := fun t => t.h.1.cell 1
            have z2 : ∀ t : Tw (fun w' => Blk w' w.heap.size 23 #[.int .i64 1, .int .i64 1, .int .i64 c, .int .i64 d] ∧ Blk w' wr.heap.size 23 #[.int .i64 x0, .int .i64 y1, .int .i64 y2, .int .i64 y3]), t.w.cell? ⟨w.heap.size, 2, none⟩ = some (.int .i64 c) := fun t => t.h.1.cell 2
            have z3 : ∀ t : Tw (fun w' => Blk w' w.heap.size 23 #[.int .i64 1, .int .i64 1, .int .i64 c, .int .i64 d] ∧ Blk w' wr.heap.size 23 #[.int .i64 x0, .int .i64 y1, .int .i64 y2, .int .i64 y3]), t.w.cell? ⟨w.heap.size, 3, none⟩ = some (.int .i64 d) := fun t => t.h.1.cell 3
            have v0 : ∀ t : Tw (fun w' => Blk w' w.heap.size 23 #[.int .i64 1, .int .i64 1, .int .i64 c, .int .i64 d] ∧ Blk w' wr.heap.size 23 #[.int .i64 x0, .int .i64 y1, .int .i64 y2, .int .i64 y3]), t.w.cell? ⟨wr.heap.size, 0, none⟩ = some (.int .i64 x0) := fun t => t.h.2.cell 0
            have v1 : ∀ t : Tw (fun w' => Blk w' w.heap.size 23 #[.int .i64 1, .int .i64 1, .int .i64 c, .int .i64 d] ∧ Blk w' wr.heap.size 23 #[.int .i64 x0, .int .i64 y1, .int .i64 y2, .int .i64 y3]), t.w.cell? ⟨wr.heap.size, 1, none⟩ = some (.int .i64 y1) := fun t => t.h.2.cell 1
            have v2 : ∀ t : Tw (fun w' => Blk w' w.heap.size 23 #[.int .i64 1, .int .i64 1, .int .i64 c, .int .i64 d] ∧ Blk w' wr.heap.size 23 #[.int .i64 x0, .int .i64 y1, .int .i64 y2, .int .i64 y3]), t.w.cell? ⟨wr.heap.size, 2, none⟩ = some (.int .i64 y2) := fun t => t.h.2.cell 2
            have v3 : ∀ t : Tw (fun w' => Blk w' w.heap.size 23 #[.int .i64 1, .int .i64 1, .int .i64 c, .int .i64 d] ∧ Blk w' wr.heap.size 23 #[.int .i64 x0, .int .i64 y1, .int .i64 y2, .int .i64 y3]), t.w.cell? ⟨wr.heap.size, 3, none⟩ = some (.int .i64 y3) := fun t => t.h.2.cell 3
            have : Nonempty (Tw (fun w' => Blk w' w.heap.size 23 #[.int .i64 1, .int .i64 1, .int .i64 c, .int .i64 d] ∧ Blk w' wr.heap.size 23 #[.int .i64 x0, .int .i64 y1, .int .i64 y2, .int .i64 y3])) := ⟨⟨_, bw, bx⟩⟩
            refine wp_region_plan (fun w' => Blk w' w.heap.size 23 #[.int .i64 1, .int .i64 1, .int .i64 c, .int .i64 d] ∧ Blk w' wr.heap.size 23 #[.int .i64 x0, .int .i64 y1, .int .i64 y2, .int .i64 y3]) [(0, true), (1, true), (3, true), (6, true), (2, false), (4, false), (5, false), (7, true)] (by kernel_rfl) (by kernel_rfl) (by kernel_rfl) (by kernel_rfl) ⟨bw.drew, bx.drew⟩ ?_
            refine wpPl_qs 4 _ _ _ (by kernel_rfl) (by kernel_rfl) (by simp) ?_
            unfold clsS
            simp only [List.take_succ_cons, List.take_zero, List.drop_succ_cons, List.drop_zero, List.filterMap_cons, List.filterMap_nil, List.getElem?_toArray, List.getElem?_cons_zero, List.getElem?_cons_succ]
            repeat (first
              | go_big_quiet_skip
              | (go_big_quiet_want; go_big_quiet_op; go_big_quiet_on)
              | (refine id (?_ : wpQuiet _ _ _ _ (_ :: _) _); first | go_big_quiet_skip | (go_big_quiet_want; go_big_quiet_op; go_big_quiet_on)))
            refine wpQuiet_nil ?_
            refine wpPl_e _ (by rfl) (by kernel_rfl) (fun K hK => ?_)
            go_simp
            refine (To_any _ _ _ _ _).mono ?_
            rintro r u1 ⟨rfl, q1⟩
            refine hK _ _ ⟨bw.drew.bel q1, bx.drew.bel q1⟩ ?_
            clear hK K
            refine wpPl_e _ (by rfl) (by kernel_rfl) (fun K hK => ?_)
            go_simp
            refine (To_any _ _ _ _ _).mono ?_
            rintro r u2 ⟨rfl, q2⟩
            refine hK _ _ ⟨(bw.drew.bel q1).bel q2, (bx.drew.bel q1).bel q2⟩ ?_
            clear hK K
            replace bw := (bw.drew.bel q1).bel q2
            replace bx := (bx.drew.bel q1).bel q2
            replace bn := (bn.drew.bel q1).bel q2
            replace pl := ((pl.drewN 1).bel q1).bel q2
            replace bel := bel_after (bel_after bel.drew q1) q2
            refine wpPl_e _ (by rfl) (by kernel_rfl) (fun K hK => ?_)
            go_simp
            refine (PlCas_any 0 1 1 c d x0 y1 y2 y3 p g h 1 _ _ pl (by omega) false (decide_eq_false fun hh => of_decide_eq_false hB hh.2.1)).mono ?_
            rintro r u3 ⟨rfl, pl3, q3⟩
            have bw3 := bw.upd q3 (Ne.symm hgh)
            have bx3 := bx.upd q3 (Ne.symm hxh)
            have bn3 := bn.upd q3 (Ne.symm hnh)
            have bel3 : Below w.heap.size w u3 := bel.trans (q3.below bel.size (fun k hk e => by subst e; omega))
            refine hK _ _ ⟨bw3, bx3⟩ ?_
            clear hK K
            refine wpPl_qs 1 _ _ _ (by kernel_rfl) (by kernel_rfl) (by simp) ?_
            unfold clsS
            simp only [List.take_succ_cons, List.take_zero, List.drop_succ_cons, List.drop_zero, List.filterMap_cons, List.filterMap_nil, List.getElem?_toArray, List.getElem?_cons_zero, List.getElem?_cons_succ]
            repeat (first
              | go_big_quiet_skip
              | (go_big_quiet_want; go_big_quiet_op; go_big_quiet_on)
              | (refine id (?_ : wpQuiet _ _ _ _ (_ :: _) _); first | go_big_quiet_skip | (go_big_quiet_want; go_big_quiet_op; go_big_quiet_on)))
            refine wpQuiet_nil ?_
            unfold wpPl
            refine NoPanic.normal ?_
            clear z0 z1 z2 z3 v0 v1 v2 v3 this bw bx bn pl bel q1 q2 q3
            have pl5 : Pl u3 p g h 1 [(⟨1, 1, c, d⟩ : Wd).num, 0] := pl3
            have bw5 := bw3
            have bn5 := bn3
            have bel5 := bel3
            have ok5 := ok
            go_wp2_with fail
            generalize u3 = u5 at *
            have hL := fun W (hW : Below u5.heap.size u5 W) => PlLoad_any 0 p g h 1 _ W (pl5.bel hW) (by omega)
            rw [show (unW (celAt [(⟨1, 1, c, d⟩ : Wd).num, 0] (2 * 0))).val = (⟨1, 1, c, d⟩ : Wd).val by rw [show celAt [(⟨1, 1, c, d⟩ : Wd).num, 0] (2 * 0) = (⟨1, 1, c, d⟩ : Wd).num from rfl, un_num ok5]] at hL
            unfold Wd.val at hL
            simp only at hL
            replace hL := Lib.hid hL
            have z0 : ∀ t : Tw (fun w' => Below u5.heap.size u5 w'), t.w.cell? ⟨gn, 0, none⟩ = _ := fun t => bn5.tw bn5.lt t 0
            have z1 : ∀ t : Tw (fun w' => Below u5.heap.size u5 w'), t.w.cell? ⟨gn, 1, none⟩ = _ := fun t => bn5.tw bn5.lt t 1
            have z2 : ∀ t : Tw (fun w' => Below u5.heap.size u5 w'), t.w.cell? ⟨gn, 2, none⟩ = _ := fun t => bn5.tw bn5.lt t 2
            have z3 : ∀ t : Tw (fun w' => Below u5.heap.size u5 w'), t.w.cell? ⟨gn, 3, none⟩ = _ := fun t => bn5.tw bn5.lt t 3
            simp only [List.getElem?_toArray, List.getElem?_cons_zero, List.getElem?_cons_succ] at z0 z1 z2 z3
            have : Nonempty (Tw (fun w' => Below u5.heap.size u5 w')) := ⟨⟨u5, Below.refl _ _⟩⟩
            refine region_tw (fun w' => Below u5.heap.size u5 w') (by kernel_rfl) (by kernel_rfl) (Below.refl _ _).drew ?_
            unfold clsS
            repeat (first
              | go_big_quiet_skip
              | (go_big_quiet_want; go_big_quiet_op; first | go_big_quiet_on | go_big_quiet_call (
                (first
                | (go_at_call 19; exact q_tw (Nat.le_refl _) (hL.out _ (Tw.h _)))
                | (go_at_call 13; exact q_tw (Nat.le_refl _) (From_any _ _ _ _ _))))))
            refine wpQuiet_nil ?_
            intro tq
            go_wp2_with fail
            go_roundw
            case rel => exact ⟨k + 1, ⟨1, 1, c, d⟩, by go_num, by omega, bw5.bel tq.h, bn5.bel tq.h, pl5.bel tq.h, ok5, by first | exact .inl rfl | exact cs5 | exact .inr (by simp), bel_after bel5 tq.h⟩
            case measure => simp [intOf]; omega
          | true =>
            have n0 := bn.cell 0
            have n1 := bn.cell 1
            have n2 := bn.cell 2
            have n3 := bn.cell 3
            have e0 := bw.cell 0
            have e1 := bw.cell 1
            have e2 := bw.cell 2
            have e3 := bw.cell 3
            have i0 := bx.cell 0
            have i1 := bx.cell 1
            have i2 := bx.cell 2
            have i3 := bx.cell 3
            go_wp2_with fail
            refine (rMay_any _ _ _ _ _ _ _ _ _).mono ?_
            rw [hB]
            rintro r u0 ⟨rfl, q0⟩
            clear n0 n1 n2 n3 e0 e1 e2 e3 i0 i1 i2 i3
            replace bw := bw.bel q0
            replace bn := bn.bel q0
            replace bx := bx.bel q0
            replace pl := pl.bel q0
            replace bel := bel_after bel q0
            clear q0
            go_wp2_with fail
            have hmay := of_decide_eq_true hB
            have z0 : ∀ t : Tw (fun w' => Blk w' w.heap.size 23 #[.int .i64 1, .int .i64 1, .int .i64 c, .int .i64 d] ∧ Blk w' wr.heap.size 23 #[.int .i64 x0, .int .i64 y1, .int .i64 y2, .int .i64 y3]), t.w.cell? ⟨w.heap.size, 0, none⟩ = some (.int .i64 1) := fun t => t.h.1.cell 0
            have z1 : ∀ t : Tw (fun w' => Blk w' w.heap.size 23 #[.int .i64 1, .int .i64 1, .int .i64 c, .int .i64 d] ∧ Blk w' wr.heap.size 23 #[.int .i64 x0, .int .i64 y1, .int .i64 y2, .int .i64 y3]), t.w.cell? ⟨w.heap.size, 1, none⟩ = some (.int .i64 1) := fun t => t.h.1.cell 1
            have z2 : ∀ t : Tw (fun w' => Blk w' w.heap.size 23 #[.int .i64 1, .int .i64 1, .int .i64 c, .int .i64 d] ∧ Blk w' wr.heap.size 23 #[.int .i64 x0, .int .i64 y1, .int .i64 y2, .int .i64 y3]), t.w.cell? ⟨w.heap.size, 2, none⟩ = some (.int .i64 c) := fun t => t.h.1.cell 2
            have z3 : ∀ t : Tw (fun w' => Blk w' w.heap.size 23 #[.int .i64 1, .int .i64 1, .int .i64 c, .int .i64 d] ∧ Blk w' wr.heap.size 23 #[.int .i64 x0, .int .i64 y1, .int .i64 y2, .int .i64 y3]), t.w.cell? ⟨w.heap.size, 3, none⟩ = some (.int .i64 d) := fun t => t.h.1.cell 3
            have v0 : ∀ t : Tw (fun w' => Blk w' w.heap.size 23 #[.int .i64 1, .int .i64 1, .int .i64 c, .int .i64 d] ∧ Blk w' wr.heap.size 23 #[.int .i64 x0, .int .i64 y1, .int .i64 y2, .int .i64 y3]), t.w.cell? ⟨wr.heap.size, 0, none⟩ = some (.int .i64 x0) := fun t => t.h.2.cell 0
            have v1 : ∀ t : Tw (fun w' => Blk w' w.heap.size 23 #[.int .i64 1, .int .i64 1, .int .i64 c, .int .i64 d] ∧ Blk w' wr.heap.size 23 #[.int .i64 x0, .int .i64 y1, .int .i64 y2, .int .i64 y3]), t.w.cell? ⟨wr.heap.size, 1, none⟩ = some (.int .i64 y1) := fun t => t.h.2.cell 1
            have v2 : ∀ t : Tw (fun w' => Blk w' w.heap.size 23 #[.int .i64 1, .int .i64 1, .int .i64 c, .int .i64 d] ∧ Blk w' wr.heap.size 23 #[.int .i64 x0, .int .i64 y1, .int .i64 y2, .int .i64 y3]), t.w.cell? ⟨wr.heap.size, 2, none⟩ = some (.int .i64 y2) := fun t => t.h.2.cell 2
            have v3 : ∀ t : Tw (fun w' => Blk w' w.heap.size 23 #[.int .i64 1, .int .i64 1, .int .i64 c, .int .i64 d] ∧ Blk w' wr.heap.size 23 #[.int .i64 x0, .int .i64 y1, .int .i64 y2, .int .i64 y3]), t.w.cell? ⟨wr.heap.size, 3, none⟩ = some (.int .i64 y3) := fun t => t.h.2.cell 3
            have : Nonempty (Tw (fun w' => Blk w' w.heap.size 23 #[.int .i64 1, .int .i64 1, .int .i64 c, .int .i64 d] ∧ Blk w' wr.heap.size 23 #[.int .i64 x0, .int .i64 y1, .int .i64 y2, .int .i64 y3])) := ⟨⟨_, bw, bx⟩⟩
            refine wp_region_plan (fun w' => Blk w' w.heap.size 23 #[.int .i64 1, .int .i64 1, .int .i64 c, .int .i64 d] ∧ Blk w' wr.heap.size 23 #[.int .i64 x0, .int .i64 y1, .int .i64 y2, .int .i64 y3]) [(0, true), (1, true), (3, true), (6, true), (2, false), (4, false), (5, false), (7, true)] (by kernel_rfl) (by kernel_rfl) (by kernel_rfl) (by kernel_rfl) ⟨bw.drew, bx.drew⟩ ?_
            refine wpPl_qs 4 _ _ _ (by kernel_rfl) (by kernel_rfl) (by simp) ?_
            unfold clsS
            simp only [List.take_succ_cons, List.take_zero, List.drop_succ_cons, List.drop_zero, List.filterMap_cons, List.filterMap_nil, List.getElem?_toArray, List.getElem?_cons_zero, List.getElem?_cons_succ]
            repeat (first
              | go_big_quiet_skip
              | (go_big_quiet_want; go_big_quiet_op; go_big_quiet_on)
              | (refine id (?_ : wpQuiet _ _ _ _ (_ :: _) _); first | go_big_quiet_skip | (go_big_quiet_want; go_big_quiet_op; go_big_quiet_on)))
            refine wpQuiet_nil ?_
            refine wpPl_e _ (by rfl) (by kernel_rfl) (fun K hK => ?_)
            go_simp
            refine (To_any _ _ _ _ _).mono ?_
            rintro r u1 ⟨rfl, q1⟩
            refine hK _ _ ⟨bw.drew.bel q1, bx.drew.bel q1⟩ ?_
            clear hK K
            refine wpPl_e _ (by rfl) (by kernel_rfl) (fun K hK => ?_)
            go_simp
            refine (To_any _ _ _ _ _).mono ?_
            rintro r u2 ⟨rfl, q2⟩
            refine hK _ _ ⟨(bw.drew.bel q1).bel q2, (bx.drew.bel q1).bel q2⟩ ?_
            clear hK K
            replace bw := (bw.drew.bel q1).bel q2
            replace bx := (bx.drew.bel q1).bel q2
            replace bn := (bn.drew.bel q1).bel q2
            replace pl := ((pl.drewN 1).bel q1).bel q2
            replace bel := bel_after (bel_after bel.drew q1) q2
            refine wpPl_e _ (by rfl) (by kernel_rfl) (fun K hK => ?_)
            go_simp
            refine (PlCas_any 0 1 1 c d x0 y1 y2 y3 p g h 1 _ _ pl (by omega) true (decide_eq_true ⟨by omega, hmay, rfl⟩)).mono ?_
            rintro r u3 ⟨rfl, pl3, q3⟩
            have bw3 := bw.upd q3 (Ne.symm hgh)
            have bx3 := bx.upd q3 (Ne.symm hxh)
            have bn3 := bn.upd q3 (Ne.symm hnh)
            have bel3 : Below w.heap.size w u3 := bel.trans (q3.below bel.size (fun k hk e => by subst e; omega))
            refine hK _ _ ⟨bw3, bx3⟩ ?_
            clear hK K
            refine wpPl_qs 1 _ _ _ (by kernel_rfl) (by kernel_rfl) (by simp) ?_
            unfold clsS
            simp only [List.take_succ_cons, List.take_zero, List.drop_succ_cons, List.drop_zero, List.filterMap_cons, List.filterMap_nil, List.getElem?_toArray, List.getElem?_cons_zero, List.getElem?_cons_succ]
            repeat (first
              | go_big_quiet_skip
              | (go_big_quiet_want; go_big_quiet_op; go_big_quiet_on)
              | (refine id (?_ : wpQuiet _ _ _ _ (_ :: _) _); first | go_big_quiet_skip | (go_big_quiet_want; go_big_quiet_op; go_big_quiet_on)))
            refine wpQuiet_nil ?_
            unfold wpPl
            refine NoPanic.normal ?_
            clear z0 z1 z2 z3 v0 v1 v2 v3 this bw bx bn pl bel q1 q2 q3
            have pl5 : Pl u3 p g h 1 [(Wd.mk x0 y1 y2 y3).num, 0] := pl3
            have i0 := bx3.cell 0
            have i1 := bx3.cell 1
            have i2 := bx3.cell 2
            have i3 := bx3.cell 3
            have n0 := bn3.cell 0
            have n1 := bn3.cell 1
            have n2 := bn3.cell 2
            have n3 := bn3.cell 3
            have f0 := bn3.frozen 0
            have f1 := bn3.frozen 1
            have f2 := bn3.frozen 2
            have f3 := bn3.frozen 3
            have ok5 := hmay.2.1
            have cs5 : (Wd.mk x0 y1 y2 y3) = ⟨1, 1, c, d⟩ ∨ x0 = 2 ∨ x0 = 0 := by
              have h5 := hmay.2.2
              simp at h5
              right; omega
            have up := (((Upd.one u3 gn 0 (.int .i64 x0)).setCell (p := ⟨gn, 1, none⟩) (fun _ => rfl) (.int .i64 y1)).setCell (p := ⟨gn, 2, none⟩) (fun _ => rfl) (.int .i64 y2)).setCell (p := ⟨gn, 3, none⟩) (fun _ => rfl) (.int .i64 y3)
            have bn5 : Blk ((((u3.setCell ⟨gn, 0, none⟩ (.int .i64 x0)).setCell ⟨gn, 1, none⟩ (.int .i64 y1)).setCell ⟨gn, 2, none⟩ (.int .i64 y2)).setCell ⟨gn, 3, none⟩ (.int .i64 y3)) gn 23 #[.int .i64 x0, .int .i64 y1, .int .i64 y2, .int .i64 y3] := (((bn3.set_ 0 (.int .i64 x0)).set_ 1 (.int .i64 y1)).set_ 2 (.int .i64 y2)).set_ 3 (.int .i64 y3)
            have bw5 := bw3.upd up (Ne.symm hnw)
            replace pl5 := pl5.upd up hnp hng hnh
            have bel5 : Below w.heap.size w ((((u3.setCell ⟨gn, 0, none⟩ (.int .i64 x0)).setCell ⟨gn, 1, none⟩ (.int .i64 y1)).setCell ⟨gn, 2, none⟩ (.int .i64 y2)).setCell ⟨gn, 3, none⟩ (.int .i64 y3)) := bel3.trans (up.below bel3.size (fun k hk e => by subst e; omega))
            clear bn3 bx3 bw3 pl3 bel3 up
            go_wp2_with fail
            generalize ((((u3.setCell ⟨gn, 0, none⟩ (.int .i64 x0)).setCell ⟨gn, 1, none⟩ (.int .i64 y1)).setCell ⟨gn, 2, none⟩ (.int .i64 y2)).setCell ⟨gn, 3, none⟩ (.int .i64 y3)) = u5 at *
            clear i0 i1 i2 i3 n0 n1 n2 n3 f0 f1 f2 f3
            have hL := fun W (hW : Below u5.heap.size u5 W) => PlLoad_any 0 p g h 1 _ W (pl5.bel hW) (by omega)
            rw [show (unW (celAt [(⟨x0, y1, y2, y3⟩ : Wd).num, 0] (2 * 0))).val = (⟨x0, y1, y2, y3⟩ : Wd).val by rw [show celAt [(⟨x0, y1, y2, y3⟩ : Wd).num, 0] (2 * 0) = (⟨x0, y1, y2, y3⟩ : Wd).num from rfl, un_num ok5]] at hL
            unfold Wd.val at hL
            simp only at hL
            replace hL := Lib.hid hL
            have z0 : ∀ t : Tw (fun w' => Below u5.heap.size u5 w'), t.w.cell? ⟨gn, 0, none⟩ = _ := fun t => bn5.tw bn5.lt t 0
            have z1 : ∀ t : Tw (fun w' => Below u5.heap.size u5 w'), t.w.cell? ⟨gn, 1, none⟩ = _ := fun t => bn5.tw bn5.lt t 1
            have z2 : ∀ t : Tw (fun w' => Below u5.heap.size u5 w'), t.w.cell? ⟨gn, 2, none⟩ = _ := fun t => bn5.tw bn5.lt t 2
            have z3 : ∀ t : Tw (fun w' => Below u5.heap.size u5 w'), t.w.cell? ⟨gn, 3, none⟩ = _ := fun t => bn5.tw bn5.lt t 3
            simp only [List.getElem?_toArray, List.getElem?_cons_zero, List.getElem?_cons_succ] at z0 z1 z2 z3
            have : Nonempty (Tw (fun w' => Below u5.heap.size u5 w')) := ⟨⟨u5, Below.refl _ _⟩⟩
            refine region_tw (fun w' => Below u5.heap.size u5 w') (by kernel_rfl) (by kernel_rfl) (Below.refl _ _).drew ?_
            unfold clsS
            repeat (first
              | go_big_quiet_skip
              | (go_big_quiet_want; go_big_quiet_op; first | go_big_quiet_on | go_big_quiet_call (
                (first
                | (go_at_call 19; exact q_tw (Nat.le_refl _) (hL.out _ (Tw.h _)))
                | (go_at_call 13; exact q_tw (Nat.le_refl _) (From_any _ _ _ _ _))))))
            refine wpQuiet_nil ?_
            intro tq
            go_wp2_with fail
            go_roundw
            case rel => exact ⟨k + 1, ⟨x0, y1, y2, y3⟩, by go_num, by omega, bw5.bel tq.h, bn5.bel tq.h, pl5.bel tq.h, ok5, by first | exact .inl rfl | exact cs5 | exact .inr (by simp), bel_after bel5 tq.h⟩
            case measure => simp [intOf]; omega
        · obtain ⟨s0, s1, s2, s3⟩ := N
          simp only at cs
          have cs5 : (Wd.mk s0 s1 s2 s3) = ⟨1, 1, c, d⟩ ∨ s0 = 2 ∨ s0 = 0 := .inr cs
          have hcas : ∀ (q : Prop) [Decidable q], decide ((0 ≤ (0 : Int) ∧ (0 : Int) < (1 : Nat)) ∧ q ∧ celAt [(Wd.mk s0 s1 s2 s3).num, 0] (2 * 0) = (Wd.mk 1 1 c d).num) = false := fun q _ => decide_eq_false fun hh => by
            have := num_inj ok hok hh.2.2
            simp at this
            omega
          rcases cs with rfl | rfl
          all_goals
            have n0 := bn.cell 0
            have n1 := bn.cell 1
            have n2 := bn.cell 2
            have n3 := bn.cell 3
            have e0 := bw.cell 0
            have e1 := bw.cell 1
            have e2 := bw.cell 2
            have e3 := bw.cell 3
            have i0 := bx.cell 0
            have i1 := bx.cell 1
            have i2 := bx.cell 2
            have i3 := bx.cell 3
            go_wp2_with fail
            have z0 : ∀ t : Tw (fun w' => Blk w' w.heap.size 23 #[.int .i64 1, .int .i64 1, .int .i64 c, .int .i64 d] ∧ Blk w' wr.heap.size 23 #[.int .i64 x0, .int .i64 y1, .int .i64 y2, .int .i64 y3]), t.w.cell? ⟨w.heap.size, 0, none⟩ = some (.int .i64 1) := fun t => t.h.1.cell 0
            have z1 : ∀ t : Tw (fun w' => Blk w' w.heap.size 23 #[.int .i64 1, .int .i64 1, .int .i64 c, .int .i64 d] ∧ Blk w' wr.heap.size 23 #[.int .i64 x0, .int .i64 y1, .int .i64 y2, .int .i64 y3]), t.w.cell? ⟨w.heap.size, 1, none⟩ = some (.int .i64 1) := fun t => t.h.1.cell 1
            have z2 : ∀ t : Tw (fun w' => Blk w' w.heap.size 23 #[.int .i64 1, .int .i64 1, .int .i64 c, .int .i64 d] ∧ Blk w' wr.heap.size 23 #[.int .i64 x0, .int .i64 y1, .int .i64 y2, .int .i64 y3]), t.w.cell? ⟨w.heap.size, 2, none⟩ = some (.int .i64 c) := fun t => t.h.1.cell 2
            have z3 : ∀ t : Tw (fun w' => Blk w' w.heap.size 23 #[.int .i64 1, .int .i64 1, .int .i64 c, .int .i64 d] ∧ Blk w' wr.heap.size 23 #[.int .i64 x0, .int .i64 y1, .int .i64 y2, .int .i64 y3]), t.w.cell? ⟨w.heap.size, 3, none⟩ = some (.int .i64 d) := fun t => t.h.1.cell 3
            have v0 : ∀ t : Tw (fun w' => Blk w' w.heap.size 23 #[.int .i64 1, .int .i64 1, .int .i64 c, .int .i64 d] ∧ Blk w' wr.heap.size 23 #[.int .i64 x0, .int .i64 y1, .int .i64 y2, .int .i64 y3]), t.w.cell? ⟨wr.heap.size, 0, none⟩ = some (.int .i64 x0) := fun t => t.h.2.cell 0
            have v1 : ∀ t : Tw (fun w' => Blk w' w.heap.size 23 #[.int .i64 1, .int .i64 1, .int .i64 c, .int .i64 d] ∧ Blk w' wr.heap.size 23 #[.int .i64 x0, .int .i64 y1, .int .i64 y2, .int .i64 y3]), t.w.cell? ⟨wr.heap.size, 1, none⟩ = some (.int .i64 y1) := fun t => t.h.2.cell 1
            have v2 : ∀ t : Tw (fun w' => Blk w' w.heap.size 23 #[.int .i64 1, .int .i64 1, .int .i64 c, .int .i64 d] ∧ Blk w' wr.heap.size 23 #[.int .i64 x0, .int .i64 y1, .int .i64 y2, .int .i64 y3]), t.w.cell? ⟨wr.heap.size, 2, none⟩ = some (.int .i64 y2) := fun t => t.h.2.cell 2
            have v3 : ∀ t : Tw (fun w' => Blk w' w.heap.size 23 #[.int .i64 1, .int .i64 1, .int .i64 c, .int .i64 d] ∧ Blk w' wr.heap.size 23 #[.int .i64 x0, .int .i64 y1, .int .i64 y2, .int .i64 y3]), t.w.cell? ⟨wr.heap.size, 3, none⟩ = some (.int .i64 y3) := fun t => t.h.2.cell 3
            have : Nonempty (Tw (fun w' => Blk w' w.heap.size 23 #[.int .i64 1, .int .i64 1, .int .i64 c, .int .i64 d] ∧ Blk w' wr.heap.size 23 #[.int .i64 x0, .int .i64 y1, .int .i64 y2, .int .i64 y3])) := ⟨⟨_, bw, bx⟩⟩
            refine wp_region_plan (fun w' => Blk w' w.heap.size 23 #[.int .i64 1, .int .i64 1, .int .i64 c, .int .i64 d] ∧ Blk w' wr.heap.size 23 #[.int .i64 x0, .int .i64 y1, .int .i64 y2, .int .i64 y3]) [(0, true), (1, true), (3, true), (6, true), (2, false), (4, false), (5, false), (7, true)] (by kernel_rfl) (by kernel_rfl) (by kernel_rfl) (by kernel_rfl) ⟨bw.drew, bx.drew⟩ ?_
            refine wpPl_qs 4 _ _ _ (by kernel_rfl) (by kernel_rfl) (by simp) ?_
            unfold clsS
            simp only [List.take_succ_cons, List.take_zero, List.drop_succ_cons, List.drop_zero, List.filterMap_cons, List.filterMap_nil, List.getElem?_toArray, List.getElem?_cons_zero, List.getElem?_cons_succ]
            repeat (first
              | go_big_quiet_skip
              | (go_big_quiet_want; go_big_quiet_op; go_big_quiet_on)
              | (refine id (?_ : wpQuiet _ _ _ _ (_ :: _) _); first | go_big_quiet_skip | (go_big_quiet_want; go_big_quiet_op; go_big_quiet_on)))
            refine wpQuiet_nil ?_
            refine wpPl_e _ (by rfl) (by kernel_rfl) (fun K hK => ?_)
            go_simp
            refine (To_any _ _ _ _ _).mono ?_
            rintro r u1 ⟨rfl, q1⟩
            refine hK _ _ ⟨bw.drew.bel q1, bx.drew.bel q1⟩ ?_
            clear hK K
            refine wpPl_e _ (by rfl) (by kernel_rfl) (fun K hK => ?_)
            go_simp
            refine (To_any _ _ _ _ _).mono ?_
            rintro r u2 ⟨rfl, q2⟩
            refine hK _ _ ⟨(bw.drew.bel q1).bel q2, (bx.drew.bel q1).bel q2⟩ ?_
            clear hK K
            replace bw := (bw.drew.bel q1).bel q2
            replace bx := (bx.drew.bel q1).bel q2
            replace bn := (bn.drew.bel q1).bel q2
            replace pl := ((pl.drewN 1).bel q1).bel q2
            replace bel := bel_after (bel_after bel.drew q1) q2
            refine wpPl_e _ (by rfl) (by kernel_rfl) (fun K hK => ?_)
            go_simp
            refine (PlCas_any 0 1 1 c d x0 y1 y2 y3 p g h 1 _ _ pl (by omega) false (hcas _)).mono ?_
            rintro r u3 ⟨rfl, pl3, q3⟩
            have bw3 := bw.upd q3 (Ne.symm hgh)
            have bx3 := bx.upd q3 (Ne.symm hxh)
            have bn3 := bn.upd q3 (Ne.symm hnh)
            have bel3 : Below w.heap.size w u3 := bel.trans (q3.below bel.size (fun k hk e => by subst e; omega))
            refine hK _ _ ⟨bw3, bx3⟩ ?_
            clear hK K
            refine wpPl_qs 1 _ _ _ (by kernel_rfl) (by kernel_rfl) (by simp) ?_
            unfold clsS
            simp only [List.take_succ_cons, List.take_zero, List.drop_succ_cons, List.drop_zero, List.filterMap_cons, List.filterMap_nil, List.getElem?_toArray, List.getElem?_cons_zero, List.getElem?_cons_succ]
            repeat (first
              | go_big_quiet_skip
              | (go_big_quiet_want; go_big_quiet_op; go_big_quiet_on)
              | (refine id (?_ : wpQuiet _ _ _ _ (_ :: _) _); first | go_big_quiet_skip | (go_big_quiet_want; go_big_quiet_op; go_big_quiet_on)))
            refine wpQuiet_nil ?_
            unfold wpPl
            refine NoPanic.normal ?_
            clear z0 z1 z2 z3 v0 v1 v2 v3 this bw bx bn pl bel q1 q2 q3
            have pl5 : Pl u3 p g h 1 [(⟨_, s1, s2, s3⟩ : Wd).num, 0] := pl3
            have bw5 := bw3
            have bn5 := bn3
            have bel5 := bel3
            have ok5 := ok
            go_wp2_with fail
            generalize u3 = u5 at *
            have hL := fun W (hW : Below u5.heap.size u5 W) => PlLoad_any 0 p g h 1 _ W (pl5.bel hW) (by omega)
            rw [show (unW (celAt [(⟨_, s1, s2, s3⟩ : Wd).num, 0] (2 * 0))).val = (⟨_, s1, s2, s3⟩ : Wd).val by rw [show celAt [(⟨_, s1, s2, s3⟩ : Wd).num, 0] (2 * 0) = (⟨_, s1, s2, s3⟩ : Wd).num from rfl, un_num ok5]] at hL
            unfold Wd.val at hL
            simp only at hL
            replace hL := Lib.hid hL
            have z0 : ∀ t : Tw (fun w' => Below u5.heap.size u5 w'), t.w.cell? ⟨gn, 0, none⟩ = _ := fun t => bn5.tw bn5.lt t 0
            have z1 : ∀ t : Tw (fun w' => Below u5.heap.size u5 w'), t.w.cell? ⟨gn, 1, none⟩ = _ := fun t => bn5.tw bn5.lt t 1
            have z2 : ∀ t : Tw (fun w' => Below u5.heap.size u5 w'), t.w.cell? ⟨gn, 2, none⟩ = _ := fun t => bn5.tw bn5.lt t 2
            have z3 : ∀ t : Tw (fun w' => Below u5.heap.size u5 w'), t.w.cell? ⟨gn, 3, none⟩ = _ := fun t => bn5.tw bn5.lt t 3
            simp only [List.getElem?_toArray, List.getElem?_cons_zero, List.getElem?_cons_succ] at z0 z1 z2 z3
            have : Nonempty (Tw (fun w' => Below u5.heap.size u5 w')) := ⟨⟨u5, Below.refl _ _⟩⟩
            refine region_tw (fun w' => Below u5.heap.size u5 w') (by kernel_rfl) (by kernel_rfl) (Below.refl _ _).drew ?_
            unfold clsS
            repeat (first
              | go_big_quiet_skip
              | (go_big_quiet_want; go_big_quiet_op; first | go_big_quiet_on | go_big_quiet_call (
                (first
                | (go_at_call 19; exact q_tw (Nat.le_refl _) (hL.out _ (Tw.h _)))
                | (go_at_call 13; exact q_tw (Nat.le_refl _) (From_any _ _ _ _ _))))))
            refine wpQuiet_nil ?_
            intro tq
            go_wp2_with fail
            go_roundw
            case rel => exact ⟨k + 1, ⟨_, s1, s2, s3⟩, by go_num, by omega, bw5.bel tq.h, bn5.bel tq.h, pl5.bel tq.h, ok5, by first | exact .inl rfl | exact cs5 | exact .inr (by simp), bel_after bel5 tq.h⟩
            case measure => simp [intOf]; omega
    · have hcond : decide (k < m) = false ∨ (decide (k < m) = true ∧ decide ((k : Int) < 40) = false) := by
        rcases Nat.lt_or_ge k m with h | h
        · exact .inr ⟨by simpa using h, by simp; omega⟩
        · exact .inl (by simp; omega)
      rcases hcond with hd | ⟨hd, hd2⟩
      · go_wp2
        go_ret
        exact ⟨rfl, bel⟩
      · go_wp2
        go_ret
        exact ⟨rfl, bel⟩
theorem PlaceFirst_args (W : World) (args : Array Value) (hs : args.size = Try.f7.params.size) (hA : ∀ (j : Nat) t v, Try.f7.params[j]? = some t → args[j]? = some v → Arg Try.prog W t v) :
    Calls Try.prog 7 args W fun e W' => e = .returned (.bool true) ∧ Below W.heap.size W W' := by
  obtain ⟨v0, v1, rfl⟩ := args2 hs
  obtain ⟨a, b, c, d, rfl, _⟩ := arg_word (hA 0 23 v0 rfl rfl)
  obtain ⟨A, len, cap, m, rfl, h1, h2, h3⟩ := arg_slice Try.underlying53 (hA 1 53 v1 rfl rfl)
  have hC : Try.prog.cellsOf 23 = 4 := by kernel_rfl
  have hCi : Try.prog.cellsOf 3 = 1 := by kernel_rfl
  rw [hC] at h3
  have h4 := slice_rows (by omega) h3
  unfold maxLen at h2
  have hrd : WdRd W A len := by
    intro hp
    obtain ⟨b, o, rfl, hb, hi⟩ := h4 hp
    refine ⟨b, o, rfl, hb, fun i hil => ?_⟩
    obtain ⟨ys, hc, hl, hr⟩ := hi i hil
    obtain ⟨m', _, hf⟩ := rdg_struct Try.underlying23 hr
    obtain ⟨x0, e0, r0⟩ := fld_int (i := 0) hf rfl Try.underlying3 hCi
    obtain ⟨x1, e1, r1⟩ := fld_int (i := 1) hf rfl Try.underlying3 hCi
    obtain ⟨x2, e2, r2⟩ := fld_int (i := 2) hf rfl Try.underlying3 hCi
    obtain ⟨x3, e3, r3⟩ := fld_int (i := 3) hf rfl Try.underlying3 hCi
    exact ⟨x0, x1, x2, x3, (hc 0 (by omega)).trans e0, (hc 1 (by omega)).trans e1, (hc 2 (by omega)).trans e2, (hc 3 (by omega)).trans e3, r0, r1, r2, r3⟩
  by_cases hok : (Wd.mk 1 1 c d).ok
  · exact PlaceFirst_yes a b c d A len cap W hrd (by omega) hok
  · exact PlaceFirst_no a b c d A len cap W hok

set_option maxRecDepth 100000 in
theorem PlaceFirst_lifted (os : Os) (started : os.Started) (H : Type) (enc : TypeId × Value → H) :
    ReturnsInHanded {} Try.checked os 7 .any (Rows.placeFirstSpec.pre6 enc Try.prog Try.f7 Rows.placeFirstRow.domain false) (Rows.placeFirstSpec.post enc Try.prog Try.f7 false true false false) :=
  law_lifted os started H enc (by kernel_rfl) Try.func7 rfl rfl (fun H ds h => by match ds, h with | [_, _], _ => exact ⟨rfl, rfl, rfl⟩) (by kernel_rfl)
    (ChangeSpec.witness6 (enc := enc) (C := Try.checked) false ⟨#[], #[.agg #[.int .i64 0, .int .i64 0, .int .i64 0, .int .i64 0], .slice none 0 0], []⟩ 8 (by kernel_rfl) (by kernel_rfl) (by kernel_rfl) (by kernel_rfl))
    PlaceFirst_args

/-- the statement -/
theorem placeFirst_holds : Rows.PlaceFirstSaid :=
  OpenClaim.holds_of_wide 7 Try.f7 rfl rfl rfl rfl rfl rfl rfl ⟨rfl, rfl, rfl, rfl, rfl⟩ rfl rfl rfl rfl rfl (by kernel_rfl) Try.func7 (by kernel_rfl)
    (of_decide_eq_true (by kernel_rfl)) (by unfold Func.isWrapper; first | (rw [if_pos (by decide +kernel)]; kernel_rfl) | (rw [if_neg (by decide +kernel)]; exact ⟨rfl, rfl⟩))
    (fun os started H enc _ => PlaceFirst_lifted os started H enc)

end Go.Proofs.Ytgkimfodbbgdbaa
