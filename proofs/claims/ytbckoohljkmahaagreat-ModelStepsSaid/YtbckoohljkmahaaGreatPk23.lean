/- Contracts and plain facts. -/
import Derived.Test.YtbckoohljkmahaaGreatPk21
namespace Go.Proofs.YtbckoohljkmahaaGreat
set_option linter.unusedVariables false
set_option linter.unusedSimpArgs false
set_option maxRecDepth 100000
set_option maxHeartbeats 16000000
open Go.RowKit
theorem RdT.drop {α : Type} {cs : α → List Value} {sz : Nat} {w : World} {B g o n m : Nat} {l : List α} (h : RdT cs sz w B (some ⟨g, o, none⟩) n l) (hm : m ≤ n) : RdT cs sz w B (some ⟨g, o + m * sz, none⟩) (n - m) (l.drop m) := by
 refine ⟨by rw [List.length_drop, h.len], fun h0 => ?_⟩
 obtain ⟨b, o', e, hb, hc⟩ := h.cel (by omega)
 simp only [Option.some.injEq, Addr.mk.injEq, and_true] at e
 obtain ⟨rfl, rfl⟩ := e
 refine ⟨g, o + m * sz, rfl, hb, fun j x hj f u hu => ?_⟩
 rw [List.getElem?_drop] at hj
 have := hc (m + j) x hj f u hu
 rw [Nat.add_mul] at this
 rw [show o + m * sz + j * sz + f = o + (m * sz + j * sz) + f by omega]
 exact this
def DExR (w : World) (base : Nat) (c : Cf) (gd : Nat) (v : Value) (R : List Bd × Bool) (e : Ending) (w' : World) : Prop :=
 e = .returned (.bool R.2) ∧ ∃ v', DN w' base c gd v' R.1 ∧ Upd (DnS gd v) w w' ∧ Keep8 w w'
theorem rExp_any (c : Cf) (base gd : Nat) (v : Value) (L : List Bd) (pr po ti : Int) (w : World) (h : DN w base c gd v L) (hi : LInv c L) (hL : L.length ≤ 100000) (hbase : base ≤ w.heap.size) :
  Calls Tryz.prog 36 (A22 (some ⟨gd, 0, none⟩) pr po ti) w (DExR w base c gd v (expP c L pr po ti)) := by
 obtain ⟨i0, hii, hz0, hz1, hz2⟩ := info_parts rbd_info
 obtain ⟨n, hn⟩ : ∃ n, L.length = n := ⟨_, rfl⟩
 obtain ⟨A, cap, rfl, hnc, hcm⟩ := h.row.form hn
 unfold maxLen at hcm
 have hrd := h.row.rd BdL_len rfl hn
 have hsome := fun (j : Nat) b (hj : L[j]? = some b) (he : et pr po ti b = true) => et_some hi (pr := pr) (po := po) (ti := ti) hj he
 have hnone := et_none hi (pr := pr) (po := po) (ti := ti)
 generalize expP c L pr po ti = R at *
 have hse := fun b hb => (hi.ok b hb).se
 replace hsome := Lib.hid hsome
 replace hnone := Lib.hid hnone
 replace hse := Lib.hid hse
 clear hi
 go_enter Tryz.func36, Tryz.ntmps36
 go_wp2_with fail
 go_loopw [9] (fun i wr => ∃ k : Nat, k ≤ n ∧ i = .int .i64 k ∧ (∀ (j : Nat) (b : Bd), j < k → L[j]? = some b → et pr po ti b = false) ∧ Below w.heap.size w wr) (fun i _ => n - (intOf i).toNat)
 case atStart => exact ⟨0, by omega, rfl, fun j b hj => by omega, Below.refl _ _⟩
 case round =>
  obtain ⟨k, hk, rfl, hno, bel⟩ := hrel
  have hd := h.bel bel
  have c6 := hd.obj.cell 6
  rcases Nat.lt_or_ge k n with hkn | hkn
  ·have d1 : decide ((k : Int) < (n : Int)) = true := by simpa using hkn
   have d2 : decide (k < n) = true := by simpa using hkn
   obtain ⟨b, hb⟩ : ∃ b, L[k]? = some b := ⟨_, List.getElem?_eq_getElem (by rw [hrd.len]; omega)⟩
   obtain ⟨g, cc, hA, _, _, hgb, hgl, _⟩ := h.row.formG hn (by omega)
   simp only [Value.slice.injEq] at hA
   obtain ⟨rfl, _, rfl⟩ := hA
   have hcz : ∀ f u, (BdL b)[f]? = some u → wr.cell? ⟨g, k * 6 + f, none⟩ = some u := fun f u hu => hd.row.at_ BdL_len hb hu
   have hbse := hse.out b (List.mem_of_getElem? hb)
   have hlife := lifeS_bd pr b.tr
   have hyes := fun he => hsome.out k b hb he
   have hnx : et pr po ti b = false → ∀ (j : Nat) (b' : Bd), j < k + 1 → L[j]? = some b' → et pr po ti b' = false := fun hne j b' hj hb' => by
    by_cases hjk : j = k
    ·subst hjk
     rw [hb] at hb'
     cases hb'
     exact hne
    ·exact hno j b' (by omega) hb'
   have kl := fun W => rLife_any pr b.tr W
   clear hno hb
   obtain ⟨⟨b0, b1, b2⟩, b3, b4, b5⟩ := b
   simp only [BdL, et] at hcz hbse hlife kl hyes hnx
   generalize lifeS pr b4 = lf at *
   have k0 : (0 : Int) ≤ (k : Int) := by omega
   have k1 : (k : Int) < (n : Int) := by omega
   have bb := (Blk.new wr 92 Z3).setRow (A10 b0 b1 b2 b3 b4 b5)
   have belb : Below wr.heap.size wr ((wr.alloc (.cells Z3 92)).setRow wr.heap.size (A10 b0 b1 b2 b3 b4 b5)) := below_setRow (bel_alloc _ _) (Nat.le_refl _) _
   have bel2 := bel_after bel belb
   replace kl := Lib.hid kl
   replace hyes := Lib.hid hyes
   replace hnx := Lib.hid hnx
   go_upto_region 5 with (first
    | (refine wpList_ldAt rfl rfl rfl hcz Tryz.underlying92 rbd_size ?_)
    | (refine wpList_stRow rfl rfl rfl rfl rfl (Blk.new wr _ _) rbd_size rfl (by simp [Value.oneCell']) ?_; generalize (wr.alloc (.cells Z3 92)).setRow wr.heap.size (A10 b0 b1 b2 b3 b4 b5) = W2 at *; generalize wr.heap.size = gb at *))
   clear hcz belb c6 hd
   have z0 : ∀ t : Tw (Up W2), t.w.cell? ⟨gb, 0, none⟩ = some (.int .i64 b0) := fun t => (bb.bel t.h).cell 0
   have z3 : ∀ t : Tw (Up W2), t.w.cell? ⟨gb, 3, none⟩ = some (.int .i64 b3) := fun t => (bb.bel t.h).cell 3
   have z4 : ∀ t : Tw (Up W2), t.w.cell? ⟨gb, 4, none⟩ = some (.int .i64 b4) := fun t => (bb.bel t.h).cell 4
   have z5 : ∀ t : Tw (Up W2), t.w.cell? ⟨gb, 5, none⟩ = some (.int .i64 b5) := fun t => (bb.bel t.h).cell 5
   have zl : ∀ t : Tw (Up W2), Calls Tryz.prog 61 #[.int .i64 pr, .int .i64 b4] t.w fun e w' => e = .returned (.int .i64 lf) ∧ t.w = w' := fun t => kl.out t.w
   have zz := Up.one W2
   replace zl := Lib.hid zl
   by_cases e0 : b0 = pr
   ·have q0 : (b0 != pr) = false := by simpa using e0
    have q0' : (b0 == pr) = true := by simpa using e0
    by_cases e3 : b3 = po
    ·have q3 : (b3 != po) = false := by simpa using e3
     have q3' : (b3 == po) = true := by simpa using e3
     by_cases t0 : ti < 0
     ·have d3 : decide (ti < 0) = true := by simpa using t0
      replace hnx := Lib.hid (hnx.out (by simp [d3]))
      clear e0 e3 t0 hyes q0' q3'
      refine region_tw (Up W2) (by kernel_rfl) (by kernel_rfl) (Below.refl _ _).drew ?_
      unfold clsS
      repeat (first
       | go_big_quiet_skip
       | (go_big_quiet_want; go_big_quiet_op; first | go_big_quiet_on | go_big_quiet_call (exact q_tw_same (zl.out _))))
      refine wpQuiet_nil ?_
      intro tq
      have belq := bel_after bel2 tq.h
      clear z0 z3 z4 z5 zl zz bb bel bel2
      go_wp2_with fail
      go_roundw
      case rel => exact ⟨k + 1, by omega, by go_num, hnx.out, belq⟩
      case measure => simp [intOf]; omega
     have d3 : decide (ti < 0) = false := by simpa using t0
     by_cases t1 : 4294967295 < ti
     ·have d4 : decide (4294967295 < ti) = true := by simpa using t1
      replace hnx := Lib.hid (hnx.out (by simp [d4]))
      clear e0 e3 t0 t1 hyes q0' q3'
      refine region_tw (Up W2) (by kernel_rfl) (by kernel_rfl) (Below.refl _ _).drew ?_
      unfold clsS
      repeat (first
       | go_big_quiet_skip
       | (go_big_quiet_want; go_big_quiet_op; first | go_big_quiet_on | go_big_quiet_call (exact q_tw_same (zl.out _))))
      refine wpQuiet_nil ?_
      intro tq
      have belq := bel_after bel2 tq.h
      clear z0 z3 z4 z5 zl zz bb bel bel2
      go_wp2_with fail
      go_roundw
      case rel => exact ⟨k + 1, by omega, by go_num, hnx.out, belq⟩
      case measure => simp [intOf]; omega
     have d4 : decide (4294967295 < ti) = false := by simpa using t1
     have hw : wrap64 (b5 + lf) = b5 + lf := IntWalk.wrap64_in _ ⟨by omega, by omega⟩
     by_cases t2 : ti < b5 + lf
     ·have d5 : decide (ti < b5 + lf) = true := by simpa using t2
      replace hnx := Lib.hid (hnx.out (by simp [d5]))
      clear e0 e3 t0 t1 t2 hyes q0' q3'
      refine region_tw (Up W2) (by kernel_rfl) (by kernel_rfl) (Below.refl _ _).drew ?_
      unfold clsS
      repeat (first
       | go_big_quiet_skip
       | (go_big_quiet_want; go_big_quiet_op; first | go_big_quiet_on | go_big_quiet_call (exact q_tw_same (zl.out _))))
      refine wpQuiet_nil ?_
      intro tq
      have belq := bel_after bel2 tq.h
      clear z0 z3 z4 z5 zl zz bb bel bel2
      go_wp2_with fail
      go_roundw
      case rel => exact ⟨k + 1, by omega, by go_num, hnx.out, belq⟩
      case measure => simp [intOf]; omega
     have d5 : decide (ti < b5 + lf) = false := by simpa using t2
     have hR := hyes.out (by simp [q0', q3', d3, d4, d5])
     replace hR := Lib.hid hR
     clear hyes hnx e0 e3 q0' q3' t0 t1 t2
     refine region_tw (Up W2) (by kernel_rfl) (by kernel_rfl) (Below.refl _ _).drew ?_
     unfold clsS
     repeat (first
      | go_big_quiet_skip
      | (go_big_quiet_want; go_big_quiet_op; first | go_big_quiet_on | go_big_quiet_call (exact q_tw_same (zl.out _))))
     refine wpQuiet_nil ?_
     intro tq
     have belq := bel_after bel2 tq.h
     clear z0 z3 z4 z5 zl zz bb bel bel2 kl hsome hnone hse
     generalize tq.w = W3 at *
     clear tq
     have hd3 := h.bel belq
     obtain ⟨k1', hk1'⟩ : ∃ j, k + 1 = j := ⟨_, rfl⟩
     have hk1I : (k : Int) + 1 = (k1' : Int) := by omega
     have e1 : (0 : Int) ≤ (k1' : Int) := by omega
     have e2 : (k1' : Int) ≤ (n : Int) := by omega
     have e3 : (k1' : Int) ≤ (cap : Int) := by omega
     have e4 : (k : Int) ≤ (cap : Int) := by omega
     have e5 : (n : Int) - (k1' : Int) = ((n - k1' : Nat) : Int) := by omega
     have e6 : (cap : Int) - (k1' : Int) = ((cap - k1' : Nat) : Int) := by omega
     go_upto_region 6 with fail
     by_cases hcc : cap = k1'
     ·have hcI : ((cap : Int) = (k1' : Int)) = True := by simp [hcc]
      have hcN : (cap = k1') = True := by simp [hcc]
      clear e5 e6
      have e5 : (n : Int) - (k1' : Int) = 0 := by omega
      have e6 : (cap : Int) - (k1' : Int) = 0 := by omega
      replace hcc := Lib.hid hcc
      have hdr : RdT BdL 6 w w.heap.size (some ⟨g, 0, none⟩) (n - k1') (L.drop (k + 1)) := by
       have h1 : L.drop (k + 1) = [] := List.drop_eq_nil_of_le (by have := hcc.out; omega)
       rw [h1, show n - k1' = 0 by have := hcc.out; omega]; exact RdT.nil _ _ _ _ _
      replace hdr := Lib.hid hdr
      replace hk1' := Lib.hid hk1'
      have zg : ∀ t : Tw (fun w' => Blk w' gd 98 (A15 c.wk c.ou c.lo c.hi c.bk c.rg (some ⟨g, 0, none⟩) n cap)), t.w.cell? ⟨gd, 6, none⟩ = some (.slice (some ⟨g, 0, none⟩) n cap) := fun t => t.h.cell 6
      have zz : Nonempty (Tw (fun w' => Blk w' gd 98 (A15 c.wk c.ou c.lo c.hi c.bk c.rg (some ⟨g, 0, none⟩) n cap))) := ⟨⟨_, hd3.obj⟩⟩
      refine wp_region_planT (fun w' => Blk w' gd 98 (A15 c.wk c.ou c.lo c.hi c.bk c.rg (some ⟨g, 0, none⟩) n cap)) [(0, true), (2, true), (3, true), (4, true), (5, true), (6, true), (7, true), (9, true), (10, true), (11, true), (12, true), (13, true), (14, true), (15, true), (1, false), (8, false), (16, false), (17, true), (18, true)] [19] (by kernel_rfl) (by kernel_rfl) (by kernel_rfl) (by kernel_rfl) hd3.obj.drew ?_
      replace hd3 := hd3.drew
      replace belq := belq.drew
      generalize W3.drew = W4 at *
      refine wpPh_qs 14 _ _ _ (by kernel_rfl) (by kernel_rfl) (by simp) ?_
      unfold clsS
      simp only [qq1, qq2, qq3, qq4, List.filterMap_cons, qq6, qq7, qq8, qq9]
      repeat (first | go_big_quiet_skip | (go_big_quiet_want; go_big_quiet_op; go_big_quiet_on) | refine id (?_ : wpQuiet _ _ _ _ (_ :: _) _))
      refine wpQuiet_nil ?_
      clear zg
      have own0 := OwnT.new0 (cs := BdL) (sz := 6) W4 92 w.heap.size belq.size
      have hal := bel_alloc W4 (.cells #[] 92)
      refine wpPh_e _ (by rfl) (by kernel_rfl) (fun K hK => ?_)
      go_simp
      replace hd3 := hd3.bel hal
      replace belq := bel_after belq hal
      refine hK _ _ hd3.obj ?_
      clear hK K hal
      generalize hW5 : W4.alloc (.cells #[] 92) = W5 at *
      have hs5 := belq.size
      refine wpPh_e _ (by rfl) (by kernel_rfl) (fun K hK => ?_)
      refine wp_appT BdL_len BdL_one (by decide) W5 (.tmp 58) (.tmp 64) 81 rfl w.heap.size 92 i0 (.agg Z3) 40 Tryz.underlying81 hii hz0 hz1 hz2 rfl _ rfl [] own0 w.heap.size _ k _ rfl (L.take k) ((hrd.below belq).take (by omega)) (by simp; omega) (by decide) hs5 ?_
      intro v6 W6 own6 hg6 hv6
      rw [List.nil_append] at own6
      have bel6 : Below w.heap.size w W6 := belq.grown hg6 hs5 (fun x h => (own0.lt x h).1)
      clear hg6 hv6 own0 hW5
      replace hd3 := h.bel bel6
      go_simp
      refine hK _ _ hd3.obj ?_
      clear hK K
      have hs6 := bel6.size
      refine wpPh_e _ (by rfl) (by kernel_rfl) (fun K hK => ?_)
      refine wp_appT BdL_len BdL_one (by decide) W6 (.tmp 65) (.tmp 72) 81 rfl w.heap.size 92 i0 (.agg Z3) 40 Tryz.underlying81 hii hz0 hz1 hz2 rfl _ rfl (L.take k) own6 w.heap.size _ (n - k1') _ rfl (L.drop (k + 1)) (hdr.out.below bel6) (by rw [List.length_take]; omega) (by decide) hs6 ?_
      intro v7 W7 own7 hg7 hv7
      obtain ⟨n7, hn7⟩ : ∃ n, (L.take k ++ L.drop (k + 1)).length = n := ⟨_, rfl⟩
      obtain ⟨A7, c7, rfl, _, _⟩ := own7.form hn7
      replace hn7 := Lib.hid hn7
      have bel7 : Below w.heap.size w W7 := bel6.grown hg7 hs6 (fun x h => (own6.lt x h).1)
      clear hg7 hv7 own6
      replace hd3 := h.bel bel7
      go_simp
      refine hK _ _ hd3.obj ?_
      clear hK K
      refine wpPh_qs 2 _ _ _ (by kernel_rfl) (by kernel_rfl) (by simp) ?_
      unfold clsS
      simp only [qq1, qq2, qq3, qq4, List.filterMap_cons, qq6, qq7, qq8, qq9]
      repeat (first | go_big_quiet_skip | (go_big_quiet_want; go_big_quiet_op; go_big_quiet_on) | refine id (?_ : wpQuiet _ _ _ _ (_ :: _) _))
      refine wpQuiet_nil ?_
      unfold wpPh
      refine wpPt_e _ (by rfl) (by kernel_rfl) (fun K hK => ?_)
      have q1 := hd3.obj.cell 6
      have q1f := hd3.obj.frozen 6
      have hlt0 := h.obj.lt
      go_simp
      have hu := Upd.one W7 gd 6 (.slice A7 n7 c7)
      have hnS : ∀ x, (Value.slice A7 n7 c7).ownBlock = some x → x ≠ gd := fun x e => by have := (own7.lt x e).1; omega
      have dn' : DN (W7.setCell ⟨gd, 6, none⟩ (.slice A7 n7 c7)) base c gd (.slice A7 n7 c7) (L.take k ++ L.drop (k + 1)) := ⟨hd3.obj.set_ 6 (.slice A7 n7 c7), (own7.upd hu hnS).lowerB hbase⟩
      have up' : Upd (DnS gd (.slice (some ⟨g, 0, none⟩) n cap)) w (W7.setCell ⟨gd, 6, none⟩ (.slice A7 n7 c7)) := (Upd.of_below bel7 _).trans (hu.mono fun x _ e => .inl e)
      have k8' : Keep8 w (W7.setCell ⟨gd, 6, none⟩ (.slice A7 n7 c7)) := (Keep8.of_below bel7).set q1 (fun x e => by cases e) (.slice A7 n7 c7)
      refine hK _ _ ?_
      clear hK K q1 q1f hu hnS own7
      unfold wpPt
      refine NoPanic.normal ?_
      generalize W7.setCell ⟨gd, 6, none⟩ (.slice A7 n7 c7) = W8 at *
      go_wp2_with fail
      go_ret
      rw [hR.out]
      exact ⟨rfl, _, dn', up', k8'⟩
     ·have hcI : ((cap : Int) = (k1' : Int)) = False := by simp; omega
      have hcN : (cap = k1') = False := by simp [hcc]
      have hdr : RdT BdL 6 w w.heap.size (some ⟨g, k1' * 6, none⟩) (n - k1') (L.drop (k + 1)) := by
       have h1 := hrd.drop (m := k + 1) (by omega)
       rw [hk1', Nat.zero_add] at h1
       rw [hk1']; exact h1
      replace hdr := Lib.hid hdr
      replace hk1' := Lib.hid hk1'
      have zg : ∀ t : Tw (fun w' => Blk w' gd 98 (A15 c.wk c.ou c.lo c.hi c.bk c.rg (some ⟨g, 0, none⟩) n cap)), t.w.cell? ⟨gd, 6, none⟩ = some (.slice (some ⟨g, 0, none⟩) n cap) := fun t => t.h.cell 6
      have zz : Nonempty (Tw (fun w' => Blk w' gd 98 (A15 c.wk c.ou c.lo c.hi c.bk c.rg (some ⟨g, 0, none⟩) n cap))) := ⟨⟨_, hd3.obj⟩⟩
      refine wp_region_planT (fun w' => Blk w' gd 98 (A15 c.wk c.ou c.lo c.hi c.bk c.rg (some ⟨g, 0, none⟩) n cap)) [(0, true), (2, true), (3, true), (4, true), (5, true), (6, true), (7, true), (9, true), (10, true), (11, true), (12, true), (13, true), (14, true), (15, true), (1, false), (8, false), (16, false), (17, true), (18, true)] [19] (by kernel_rfl) (by kernel_rfl) (by kernel_rfl) (by kernel_rfl) hd3.obj.drew ?_
      replace hd3 := hd3.drew
      replace belq := belq.drew
      generalize W3.drew = W4 at *
      refine wpPh_qs 14 _ _ _ (by kernel_rfl) (by kernel_rfl) (by simp) ?_
      unfold clsS
      simp only [qq1, qq2, qq3, qq4, List.filterMap_cons, qq6, qq7, qq8, qq9]
      repeat (first | go_big_quiet_skip | (go_big_quiet_want; go_big_quiet_op; go_big_quiet_on) | refine id (?_ : wpQuiet _ _ _ _ (_ :: _) _))
      refine wpQuiet_nil ?_
      clear zg
      have own0 := OwnT.new0 (cs := BdL) (sz := 6) W4 92 w.heap.size belq.size
      have hal := bel_alloc W4 (.cells #[] 92)
      refine wpPh_e _ (by rfl) (by kernel_rfl) (fun K hK => ?_)
      go_simp
      replace hd3 := hd3.bel hal
      replace belq := bel_after belq hal
      refine hK _ _ hd3.obj ?_
      clear hK K hal
      generalize hW5 : W4.alloc (.cells #[] 92) = W5 at *
      have hs5 := belq.size
      refine wpPh_e _ (by rfl) (by kernel_rfl) (fun K hK => ?_)
      refine wp_appT BdL_len BdL_one (by decide) W5 (.tmp 58) (.tmp 64) 81 rfl w.heap.size 92 i0 (.agg Z3) 40 Tryz.underlying81 hii hz0 hz1 hz2 rfl _ rfl [] own0 w.heap.size _ k _ rfl (L.take k) ((hrd.below belq).take (by omega)) (by simp; omega) (by decide) hs5 ?_
      intro v6 W6 own6 hg6 hv6
      rw [List.nil_append] at own6
      have bel6 : Below w.heap.size w W6 := belq.grown hg6 hs5 (fun x h => (own0.lt x h).1)
      clear hg6 hv6 own0 hW5
      replace hd3 := h.bel bel6
      go_simp
      refine hK _ _ hd3.obj ?_
      clear hK K
      have hs6 := bel6.size
      refine wpPh_e _ (by rfl) (by kernel_rfl) (fun K hK => ?_)
      refine wp_appT BdL_len BdL_one (by decide) W6 (.tmp 65) (.tmp 72) 81 rfl w.heap.size 92 i0 (.agg Z3) 40 Tryz.underlying81 hii hz0 hz1 hz2 rfl _ rfl (L.take k) own6 w.heap.size _ (n - k1') _ rfl (L.drop (k + 1)) (hdr.out.below bel6) (by rw [List.length_take]; omega) (by decide) hs6 ?_
      intro v7 W7 own7 hg7 hv7
      obtain ⟨n7, hn7⟩ : ∃ n, (L.take k ++ L.drop (k + 1)).length = n := ⟨_, rfl⟩
      obtain ⟨A7, c7, rfl, _, _⟩ := own7.form hn7
      replace hn7 := Lib.hid hn7
      have bel7 : Below w.heap.size w W7 := bel6.grown hg7 hs6 (fun x h => (own6.lt x h).1)
      clear hg7 hv7 own6
      replace hd3 := h.bel bel7
      go_simp
      refine hK _ _ hd3.obj ?_
      clear hK K
      refine wpPh_qs 2 _ _ _ (by kernel_rfl) (by kernel_rfl) (by simp) ?_
      unfold clsS
      simp only [qq1, qq2, qq3, qq4, List.filterMap_cons, qq6, qq7, qq8, qq9]
      repeat (first | go_big_quiet_skip | (go_big_quiet_want; go_big_quiet_op; go_big_quiet_on) | refine id (?_ : wpQuiet _ _ _ _ (_ :: _) _))
      refine wpQuiet_nil ?_
      unfold wpPh
      refine wpPt_e _ (by rfl) (by kernel_rfl) (fun K hK => ?_)
      have q1 := hd3.obj.cell 6
      have q1f := hd3.obj.frozen 6
      have hlt0 := h.obj.lt
      go_simp
      have hu := Upd.one W7 gd 6 (.slice A7 n7 c7)
      have hnS : ∀ x, (Value.slice A7 n7 c7).ownBlock = some x → x ≠ gd := fun x e => by have := (own7.lt x e).1; omega
      have dn' : DN (W7.setCell ⟨gd, 6, none⟩ (.slice A7 n7 c7)) base c gd (.slice A7 n7 c7) (L.take k ++ L.drop (k + 1)) := ⟨hd3.obj.set_ 6 (.slice A7 n7 c7), (own7.upd hu hnS).lowerB hbase⟩
      have up' : Upd (DnS gd (.slice (some ⟨g, 0, none⟩) n cap)) w (W7.setCell ⟨gd, 6, none⟩ (.slice A7 n7 c7)) := (Upd.of_below bel7 _).trans (hu.mono fun x _ e => .inl e)
      have k8' : Keep8 w (W7.setCell ⟨gd, 6, none⟩ (.slice A7 n7 c7)) := (Keep8.of_below bel7).set q1 (fun x e => by cases e) (.slice A7 n7 c7)
      refine hK _ _ ?_
      clear hK K q1 q1f hu hnS own7
      unfold wpPt
      refine NoPanic.normal ?_
      generalize W7.setCell ⟨gd, 6, none⟩ (.slice A7 n7 c7) = W8 at *
      go_wp2_with fail
      go_ret
      rw [hR.out]
      exact ⟨rfl, _, dn', up', k8'⟩
    ·have q3 : (b3 != po) = true := by simpa using e3
     have q3' : (b3 == po) = false := by simpa using e3
     replace hnx := Lib.hid (hnx.out (by simp [q3']))
     clear e0 e3 hyes q0' q3'
     refine region_tw (Up W2) (by kernel_rfl) (by kernel_rfl) (Below.refl _ _).drew ?_
     unfold clsS
     repeat (first
      | go_big_quiet_skip
      | (go_big_quiet_want; go_big_quiet_op; first | go_big_quiet_on | go_big_quiet_call (exact q_tw_same (zl.out _))))
     refine wpQuiet_nil ?_
     intro tq
     have belq := bel_after bel2 tq.h
     clear z0 z3 z4 z5 zl zz bb bel bel2
     go_wp2_with fail
     go_roundw
     case rel => exact ⟨k + 1, by omega, by go_num, hnx.out, belq⟩
     case measure => simp [intOf]; omega
   ·have q0 : (b0 != pr) = true := by simpa using e0
    have q0' : (b0 == pr) = false := by simpa using e0
    replace hnx := Lib.hid (hnx.out (by simp [q0']))
    clear e0 hyes q0'
    refine region_tw (Up W2) (by kernel_rfl) (by kernel_rfl) (Below.refl _ _).drew ?_
    unfold clsS
    repeat (first
     | go_big_quiet_skip
     | (go_big_quiet_want; go_big_quiet_op; first | go_big_quiet_on | go_big_quiet_call (exact q_tw_same (zl.out _))))
    refine wpQuiet_nil ?_
    intro tq
    have belq := bel_after bel2 tq.h
    clear z0 z3 z4 z5 zl zz bb bel bel2
    go_wp2_with fail
    go_roundw
    case rel => exact ⟨k + 1, by omega, by go_num, hnx.out, belq⟩
    case measure => simp [intOf]; omega
  ·obtain rfl : k = n := by omega
   have d1 : decide ((k : Int) < (k : Int)) = false := by simp
   have d2 : decide (k < k) = false := by simp
   have hR2 := hnone.out (fun j b hj => hno j b (by have := (List.getElem?_eq_some_iff.1 hj).1; rw [hrd.len] at this; exact this) hj)
   subst hR2
   go_wp2_with fail
   go_ret
   exact ⟨rfl, _, hd, Upd.of_below bel _, Keep8.of_below bel⟩
end Go.Proofs.YtbckoohljkmahaaGreat
