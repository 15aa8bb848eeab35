/- What the laws' proofs lean on: plain facts and contracts of the program's functions, laid together (2). -/
import Derived.Test.YtbckoohljkmahaaGreatPW01
import Derived.Shelf.SlMaps.Clone
namespace Go.Proofs.YtbckoohljkmahaaGreat
set_option linter.unusedVariables false
set_option linter.unusedSimpArgs false
open Go.RowKit Go.Maps
def expP (c : Cf) (L : List Bd) (pr po ti : Int) : List Bd × Bool :=
  if ti < 0 ∨ 4294967295 < ti then (L, false) else
  match atB c (placeP c pr po) L with
  | none => (L, false)
  | some b => if ti < b.se + lifeS pr b.tr then (L, false) else (cutB c (placeP c pr po) L, true)
def ExpR (w : World) (c : Cf) (gn pb fm np nf : Nat) (R : List Bd × Bool) (e : Ending) (w' : World) : Prop :=
  e = .returned (.bool R.2) ∧ NatM w' c gn pb fm np nf R.1 ∧ Upd (fun k => k = pb ∨ k = fm) w w'
section
variable {P : Program} {ops : Array Oper} {Q : Exit → Act → World → Prop} {a : Act} {w : World} {rest : List Oper} {o : Oper} {K : Act → World → Prop}
theorem wpList_delE (hd : o.dst = none) (hg : o.guard = none) {t k : TypeId} {m x : Operand} (ho : o.op = .call { callee := .builtin .delete, args := #[m, x], argTypes := #[t, k] }) {mv xv : Value} (hm : a.eval m = mv) (hx : a.eval x = xv) {R : World → Prop} (hr : ∀ ty, ∃ w', (Builtin.delete_ #[t, k] ty #[mv, xv]).run P w = .ok (.tuple #[]) w' ∧ R w') (h : ∀ w', R w' → wpList P ops Q rest a w') : wpList P ops Q (o :: rest) a w := by
  obtain ⟨w', h1, h2⟩ := hr o.type
  refine wpList_del hg ho hm hx h1 ?_
  rw [hd]
  exact h w' h2
theorem wp_delN (hd : o.dst = none) {t k : TypeId} {m x : Operand} (ho : o.op = .call { callee := .builtin .delete, args := #[m, x], argTypes := #[t, k] }) {mv xv : Value} (hm : a.eval m = mv) (hx : a.eval x = xv) {R : World → Prop} (hr : ∀ ty, ∃ w', (Builtin.delete_ #[t, k] ty #[mv, xv]).run P w = .ok (.tuple #[]) w' ∧ R w') (h : ∀ w', R w' → K a w') : o.wp P a w K Q := by
  obtain ⟨w', h1, h2⟩ := hr o.type
  refine wp_del ho hm hx h1 ?_
  rw [hd]
  exact h w' h2
end
theorem lifeS_bd (p st : Int) : 0 ≤ lifeS p st ∧ lifeS p st ≤ 7440 := by
  unfold lifeS
  repeat' split
  all_goals omega
set_option maxRecDepth 100000 in
set_option maxHeartbeats 4000000 in
theorem Expire_bad (c : Cf) (gn pb fm np nf : Nat) (L : List Bd) (pr po ti : Int) (w : World) (hm : NatM w c gn pb fm np nf L) (ht : ti < 0 ∨ 4294967295 < ti) :
    Calls Tryz.prog 27 #[.pointer (some ⟨gn, 0, none⟩), .int .i64 pr, .int .i64 po, .int .i64 ti] w (ExpR w c gn pb fm np nf (L, false)) := by
  rcases Int.lt_or_le ti 0 with h1 | h1
  · have d1 : decide (ti < 0) = true := by simpa using h1
    clear ht
    go_enter Tryz.func27, Tryz.ntmps27
    go_wp2_with fail
    go_ret
    exact ⟨rfl, hm, Upd.refl _ _⟩
  · have d1 : decide (ti < 0) = false := by simpa using h1
    have d2 : decide (4294967295 < ti) = true := by simp; omega
    clear ht
    go_enter Tryz.func27, Tryz.ntmps27
    go_wp2_with fail
    go_ret
    exact ⟨rfl, hm, Upd.refl _ _⟩
set_option maxRecDepth 100000 in
set_option maxHeartbeats 4000000 in
theorem Expire_none (c : Cf) (gn pb fm np nf : Nat) (L : List Bd) (pr po ti : Int) (w : World) (hm : NatM w c gn pb fm np nf L) (hc : c.ok) (ht : 0 ≤ ti ∧ ti ≤ 4294967295) (hat : atB c (placeP c pr po) L = none) :
    Calls Tryz.prog 27 #[.pointer (some ⟨gn, 0, none⟩), .int .i64 pr, .int .i64 po, .int .i64 ti] w (ExpR w c gn pb fm np nf (L, false)) := by
  obtain ⟨PL, hPL⟩ : ∃ PL, placeP c pr po = PL := ⟨_, rfl⟩
  have kp := fun W => Place_ok c pr po W hc
  have hkr := placeP_rng hc pr po
  rw [hPL] at kp hkr hat
  replace hPL := Lib.hid hPL
  replace kp := Lib.hid kp
  replace hat := Lib.hid hat
  have d1 : decide (ti < 0) = false := by simp; omega
  have d2 : decide (4294967295 < ti) = false := by simp; omega
  go_enter Tryz.func27, Tryz.ntmps27
  have z1 : ∀ j u, ([.int .i64 c.wk, .int .u32 c.ou, .int .i64 c.lo, .int .i64 c.hi, .int .i64 c.bk, .int .i64 c.rg] : List Value)[j]? = some u → w.cell? ⟨gn, 0 + j, none⟩ = some u := fun j u hu => by
    rw [Nat.zero_add, hm.obj.cell]
    match j with
    | 0 | 1 | 2 | 3 | 4 | 5 => exact hu
    | j + 6 => simp at hu
  go_wp2_with (refine wpList_ldAt rfl rfl rfl z1 Tryz.underlying36 cf_size ?_; clear z1)
  refine (kp.out _).mono ?_
  rintro e W1 ⟨rfl, hb1⟩
  have hm1 := hm.bel_ hb1
  have hu1 := Upd.of_below hb1 (fun k => k = pb ∨ k = fm)
  clear hb1 kp
  have hlook := hm1.pl.look hkr
  have q6 := hm1.obj.cell 6
  rw [hat.out] at hlook
  simp only [lookB] at hlook
  have hb2 := below_setRow (bel_alloc W1 (.cells #[.int .i64 0, .int .u32 0, .int .u16 0, .int .i64 0, .int .i64 0, .int .i64 0] 63)) (Nat.le_refl _) #[.int .i64 0, .int .u32 0, .int .u16 0, .int .i64 0, .int .i64 0, .int .i64 0]
  have hm2 := hm1.bel_ hb2
  have hu2 := hu1.trans (Upd.of_below hb2 _)
  go_upto_region 5 with (first
    | (refine wpList_look rfl rfl rfl rfl hlook ?_)
    | (refine wpList_stRow rfl rfl rfl rfl rfl (Blk.new W1 _ _) bd_size rfl (by simp [Value.oneCell']) ?_; generalize (W1.alloc (.cells #[.int .i64 0, .int .u32 0, .int .u16 0, .int .i64 0, .int .i64 0, .int .i64 0] 63)).setRow W1.heap.size #[.int .i64 0, .int .u32 0, .int .u16 0, .int .i64 0, .int .i64 0, .int .i64 0] = W2 at *; generalize W1.heap.size = gb at *))
  clear hlook q6 hm1 hu1 hb2
  have : Nonempty (Tw (fun W' => Below W2.heap.size W2 W')) := ⟨⟨W2, Below.refl _ _⟩⟩
  refine region_tw (fun w' => Below (W2).heap.size (W2) w') (by kernel_rfl) (by kernel_rfl) (Below.refl _ _).drew ?_
  unfold clsS
  repeat (first
    | go_big_quiet_skip
    | (go_big_quiet_want; go_big_quiet_op; first | go_big_quiet_on | go_big_quiet_call (
      (first 
      | fail))))
  refine wpQuiet_nil ?_
  intro tq
  replace hu2 := hu2.trans (Upd.of_below tq.h _)
  replace hm2 := hm2.bel_ tq.h
  generalize hW : tq.w = W3 at *
  clear hW
  go_wp2_with fail
  go_ret
  exact ⟨rfl, hm2, hu2⟩
set_option maxRecDepth 100000 in
set_option maxHeartbeats 4000000 in
theorem Expire_stay (c : Cf) (gn pb fm np nf : Nat) (L : List Bd) (b : Bd) (pr po ti : Int) (w : World) (hm : NatM w c gn pb fm np nf L) (hc : c.ok) (ht : 0 ≤ ti ∧ ti ≤ 4294967295) (hat : atB c (placeP c pr po) L = some b) (hle : ti < b.se + lifeS pr b.tr) :
    Calls Tryz.prog 27 #[.pointer (some ⟨gn, 0, none⟩), .int .i64 pr, .int .i64 po, .int .i64 ti] w (ExpR w c gn pb fm np nf (L, false)) := by
  obtain ⟨hbm, hbk⟩ := atB_some hat
  have hbo := hm.inv.ok b hbm
  have hbr := hbo.rng
  have hse := hbo.se
  have hlf := lifeS_bd pr b.tr
  have kl := fun W => Life_any pr b.tr W
  have hcut := plOf_cut hm.inv hbm
  have hinv := hm.inv.cut (keyB c b)
  rw [hbk] at hcut hinv
  generalize lifeS pr b.tr = LF at *
  replace hbr := Lib.hid hbr
  replace kl := Lib.hid kl
  replace hcut := Lib.hid hcut
  replace hinv := Lib.hid hinv
  clear hbm hbk hbo
  obtain ⟨⟨b0, b1, b2⟩, b3, b4, b5⟩ := b
  simp only at hle hse
  obtain ⟨PL, hPL⟩ : ∃ PL, placeP c pr po = PL := ⟨_, rfl⟩
  have kp := fun W => Place_ok c pr po W hc
  have hkr := placeP_rng hc pr po
  rw [hPL] at kp hkr hat
  replace hPL := Lib.hid hPL
  replace kp := Lib.hid kp
  replace hat := Lib.hid hat
  have d1 : decide (ti < 0) = false := by simp; omega
  have d2 : decide (4294967295 < ti) = false := by simp; omega
  go_enter Tryz.func27, Tryz.ntmps27
  have z1 : ∀ j u, ([.int .i64 c.wk, .int .u32 c.ou, .int .i64 c.lo, .int .i64 c.hi, .int .i64 c.bk, .int .i64 c.rg] : List Value)[j]? = some u → w.cell? ⟨gn, 0 + j, none⟩ = some u := fun j u hu => by
    rw [Nat.zero_add, hm.obj.cell]
    match j with
    | 0 | 1 | 2 | 3 | 4 | 5 => exact hu
    | j + 6 => simp at hu
  go_wp2_with (refine wpList_ldAt rfl rfl rfl z1 Tryz.underlying36 cf_size ?_; clear z1)
  refine (kp.out _).mono ?_
  rintro e W1 ⟨rfl, hb1⟩
  have hm1 := hm.bel_ hb1
  have hu1 := Upd.of_below hb1 (fun k => k = pb ∨ k = fm)
  clear hb1 kp
  have hlook := hm1.pl.look hkr
  have q6 := hm1.obj.cell 6
  rw [hPL.out] at hcut hinv
  replace hcut := Lib.hid hcut.out
  replace hinv := Lib.hid hinv.out
  rw [hat.out] at hlook
  simp only [lookB, Bd.cs] at hlook
  have hb2 := below_setRow (bel_alloc W1 (.cells #[.int .i64 0, .int .u32 0, .int .u16 0, .int .i64 0, .int .i64 0, .int .i64 0] 63)) (Nat.le_refl _) #[.int .i64 b0, .int .u32 b1, .int .u16 b2, .int .i64 b3, .int .i64 b4, .int .i64 b5]
  have hm2 := hm1.bel_ hb2
  have hu2 := hu1.trans (Upd.of_below hb2 _)
  have bb := (Blk.new W1 63 #[.int .i64 0, .int .u32 0, .int .u16 0, .int .i64 0, .int .i64 0, .int .i64 0]).setRow #[.int .i64 b0, .int .u32 b1, .int .u16 b2, .int .i64 b3, .int .i64 b4, .int .i64 b5]
  go_upto_region 5 with (first
    | (refine wpList_look rfl rfl rfl rfl hlook ?_)
    | (refine wpList_stRow rfl rfl rfl rfl rfl (Blk.new W1 _ _) bd_size rfl (by simp [Value.oneCell']) ?_; generalize (W1.alloc (.cells #[.int .i64 0, .int .u32 0, .int .u16 0, .int .i64 0, .int .i64 0, .int .i64 0] 63)).setRow W1.heap.size #[.int .i64 b0, .int .u32 b1, .int .u16 b2, .int .i64 b3, .int .i64 b4, .int .i64 b5] = W2 at *; generalize W1.heap.size = gb at *))
  clear hlook q6 hm1 hu1 hb2
  have z4 : ∀ t : Tw (Up W2), t.w.cell? ⟨gb, 4, none⟩ = some (.int .i64 b4) := fun t => (bb.bel t.h).cell 4
  have z5 : ∀ t : Tw (Up W2), t.w.cell? ⟨gb, 5, none⟩ = some (.int .i64 b5) := fun t => (bb.bel t.h).cell 5
  have zz := Up.one W2
  refine wp_region_plan (Up W2) [(0, true), (1, true), (2, true), (3, true), (4, true), (5, true), (6, true), (7, true), (10, true), (8, false), (9, true), (11, true), (12, true)] (by kernel_rfl) (by kernel_rfl) (by kernel_rfl) (by kernel_rfl) (Below.refl _ _).drew ?_
  refine wpPl_qs 9 _ _ _ (by kernel_rfl) (by kernel_rfl) (by simp) ?_
  unfold clsS
  simp only [List.take_succ_cons, List.take_zero, List.drop_succ_cons, List.drop_zero, List.filterMap_cons, List.filterMap_nil, List.getElem?_toArray, List.getElem?_cons_zero, List.getElem?_cons_succ]
  repeat (first
    | go_big_quiet_skip
    | (go_big_quiet_want; go_big_quiet_op; go_big_quiet_on)
    | (refine id (?_ : wpQuiet _ _ _ _ (_ :: _) _); first | go_big_quiet_skip | (go_big_quiet_want; go_big_quiet_op; go_big_quiet_on)))
  refine wpQuiet_nil ?_
  refine wpPl_e _ (by rfl) (by kernel_rfl) (fun K hK => ?_)
  go_simp
  refine (kl.out _).mono ?_
  rintro e W3 ⟨rfl, rfl⟩
  refine hK _ _ (Below.refl _ _).drew ?_
  clear hK K kl
  refine wpPl_qs 3 _ _ _ (by kernel_rfl) (by kernel_rfl) (by simp) ?_
  unfold clsS
  simp only [List.take_succ_cons, List.take_zero, List.drop_succ_cons, List.drop_zero, List.filterMap_cons, List.filterMap_nil, List.getElem?_toArray, List.getElem?_cons_zero, List.getElem?_cons_succ]
  repeat (first
    | go_big_quiet_skip
    | (go_big_quiet_want; go_big_quiet_op; go_big_quiet_on)
    | (refine id (?_ : wpQuiet _ _ _ _ (_ :: _) _); first | go_big_quiet_skip | (go_big_quiet_want; go_big_quiet_op; go_big_quiet_on)))
  refine wpQuiet_nil ?_
  unfold wpPl
  refine NoPanic.normal ?_
  clear z4 z5 zz
  replace hm2 := hm2.drew
  replace bb := bb.drew
  replace hu2 := hu2.trans (Upd.of_below (Below.refl _ _).drew _)
  generalize W2.drew = W3 at *
  go_wp2_with fail
  go_ret
  exact ⟨rfl, hm2, hu2⟩
set_option maxRecDepth 100000 in
set_option maxHeartbeats 4000000 in
theorem Expire_go (c : Cf) (gn pb fm np nf : Nat) (L : List Bd) (b : Bd) (pr po ti : Int) (w : World) (hm : NatM w c gn pb fm np nf L) (hc : c.ok) (ht : 0 ≤ ti ∧ ti ≤ 4294967295) (hat : atB c (placeP c pr po) L = some b) (hle : b.se + lifeS pr b.tr ≤ ti) :
    Calls Tryz.prog 27 #[.pointer (some ⟨gn, 0, none⟩), .int .i64 pr, .int .i64 po, .int .i64 ti] w (ExpR w c gn pb fm np nf (cutB c (placeP c pr po) L, true)) := by
  obtain ⟨hbm, hbk⟩ := atB_some hat
  have hbo := hm.inv.ok b hbm
  have hbr := hbo.rng
  have hse := hbo.se
  have hlf := lifeS_bd pr b.tr
  have kl := fun W => Life_any pr b.tr W
  have hcut := plOf_cut hm.inv hbm
  have hinv := hm.inv.cut (keyB c b)
  rw [hbk] at hcut hinv
  generalize lifeS pr b.tr = LF at *
  replace hbr := Lib.hid hbr
  replace kl := Lib.hid kl
  replace hcut := Lib.hid hcut
  replace hinv := Lib.hid hinv
  clear hbm hbk hbo
  obtain ⟨⟨b0, b1, b2⟩, b3, b4, b5⟩ := b
  simp only at hle hse
  obtain ⟨PL, hPL⟩ : ∃ PL, placeP c pr po = PL := ⟨_, rfl⟩
  have kp := fun W => Place_ok c pr po W hc
  have hkr := placeP_rng hc pr po
  rw [hPL] at kp hkr hat
  replace hPL := Lib.hid hPL
  replace kp := Lib.hid kp
  replace hat := Lib.hid hat
  have d1 : decide (ti < 0) = false := by simp; omega
  have d2 : decide (4294967295 < ti) = false := by simp; omega
  go_enter Tryz.func27, Tryz.ntmps27
  have z1 : ∀ j u, ([.int .i64 c.wk, .int .u32 c.ou, .int .i64 c.lo, .int .i64 c.hi, .int .i64 c.bk, .int .i64 c.rg] : List Value)[j]? = some u → w.cell? ⟨gn, 0 + j, none⟩ = some u := fun j u hu => by
    rw [Nat.zero_add, hm.obj.cell]
    match j with
    | 0 | 1 | 2 | 3 | 4 | 5 => exact hu
    | j + 6 => simp at hu
  go_wp2_with (refine wpList_ldAt rfl rfl rfl z1 Tryz.underlying36 cf_size ?_; clear z1)
  refine (kp.out _).mono ?_
  rintro e W1 ⟨rfl, hb1⟩
  have hm1 := hm.bel_ hb1
  have hu1 := Upd.of_below hb1 (fun k => k = pb ∨ k = fm)
  clear hb1 kp
  have hlook := hm1.pl.look hkr
  have q6 := hm1.obj.cell 6
  rw [hPL.out] at hcut hinv
  replace hcut := Lib.hid hcut.out
  replace hinv := Lib.hid hinv.out
  rw [hat.out] at hlook
  simp only [lookB, Bd.cs] at hlook
  have hb2 := below_setRow (bel_alloc W1 (.cells #[.int .i64 0, .int .u32 0, .int .u16 0, .int .i64 0, .int .i64 0, .int .i64 0] 63)) (Nat.le_refl _) #[.int .i64 b0, .int .u32 b1, .int .u16 b2, .int .i64 b3, .int .i64 b4, .int .i64 b5]
  have hm2 := hm1.bel_ hb2
  have hu2 := hu1.trans (Upd.of_below hb2 _)
  have bb := (Blk.new W1 63 #[.int .i64 0, .int .u32 0, .int .u16 0, .int .i64 0, .int .i64 0, .int .i64 0]).setRow #[.int .i64 b0, .int .u32 b1, .int .u16 b2, .int .i64 b3, .int .i64 b4, .int .i64 b5]
  go_upto_region 5 with (first
    | (refine wpList_look rfl rfl rfl rfl hlook ?_)
    | (refine wpList_stRow rfl rfl rfl rfl rfl (Blk.new W1 _ _) bd_size rfl (by simp [Value.oneCell']) ?_; generalize (W1.alloc (.cells #[.int .i64 0, .int .u32 0, .int .u16 0, .int .i64 0, .int .i64 0, .int .i64 0] 63)).setRow W1.heap.size #[.int .i64 b0, .int .u32 b1, .int .u16 b2, .int .i64 b3, .int .i64 b4, .int .i64 b5] = W2 at *; generalize W1.heap.size = gb at *))
  clear hlook q6 hm1 hu1 hb2
  have z4 : ∀ t : Tw (Up W2), t.w.cell? ⟨gb, 4, none⟩ = some (.int .i64 b4) := fun t => (bb.bel t.h).cell 4
  have z5 : ∀ t : Tw (Up W2), t.w.cell? ⟨gb, 5, none⟩ = some (.int .i64 b5) := fun t => (bb.bel t.h).cell 5
  have zz := Up.one W2
  refine wp_region_plan (Up W2) [(0, true), (1, true), (2, true), (3, true), (4, true), (5, true), (6, true), (7, true), (10, true), (8, false), (9, true), (11, true), (12, true)] (by kernel_rfl) (by kernel_rfl) (by kernel_rfl) (by kernel_rfl) (Below.refl _ _).drew ?_
  refine wpPl_qs 9 _ _ _ (by kernel_rfl) (by kernel_rfl) (by simp) ?_
  unfold clsS
  simp only [List.take_succ_cons, List.take_zero, List.drop_succ_cons, List.drop_zero, List.filterMap_cons, List.filterMap_nil, List.getElem?_toArray, List.getElem?_cons_zero, List.getElem?_cons_succ]
  repeat (first
    | go_big_quiet_skip
    | (go_big_quiet_want; go_big_quiet_op; go_big_quiet_on)
    | (refine id (?_ : wpQuiet _ _ _ _ (_ :: _) _); first | go_big_quiet_skip | (go_big_quiet_want; go_big_quiet_op; go_big_quiet_on)))
  refine wpQuiet_nil ?_
  refine wpPl_e _ (by rfl) (by kernel_rfl) (fun K hK => ?_)
  go_simp
  refine (kl.out _).mono ?_
  rintro e W3 ⟨rfl, rfl⟩
  refine hK _ _ (Below.refl _ _).drew ?_
  clear hK K kl
  refine wpPl_qs 3 _ _ _ (by kernel_rfl) (by kernel_rfl) (by simp) ?_
  unfold clsS
  simp only [List.take_succ_cons, List.take_zero, List.drop_succ_cons, List.drop_zero, List.filterMap_cons, List.filterMap_nil, List.getElem?_toArray, List.getElem?_cons_zero, List.getElem?_cons_succ]
  repeat (first
    | go_big_quiet_skip
    | (go_big_quiet_want; go_big_quiet_op; go_big_quiet_on)
    | (refine id (?_ : wpQuiet _ _ _ _ (_ :: _) _); first | go_big_quiet_skip | (go_big_quiet_want; go_big_quiet_op; go_big_quiet_on)))
  refine wpQuiet_nil ?_
  unfold wpPl
  refine NoPanic.normal ?_
  clear z4 z5 zz
  replace hm2 := hm2.drew
  replace bb := bb.drew
  replace hu2 := hu2.trans (Upd.of_below (Below.refl _ _).drew _)
  generalize W2.drew = W3 at *
  have q6 := hm2.obj.cell 6
  have hdel := fun ty => hm2.pl.del PL hkr ty
  go_upto_region 8 with (refine wpList_delE rfl rfl rfl rfl rfl hdel ?_; rintro W4 ⟨hp4, hu4⟩)
  clear q6 hdel
  have ho4 := hm2.obj.upd hu4 (fun e => hm2.pl.notBlk hm2.obj e)
  have bb4 := bb.upd hu4 (fun e => hm2.pl.notBlk bb e)
  have hf4 := hm2.fl.upd hu4 (fun e => hm2.ne e.symm)
  have z7 : ∀ t : Tw (fun w' => Blk w' gn 117 #[.int .i64 c.wk, .int .u32 c.ou, .int .i64 c.lo, .int .i64 c.hi, .int .i64 c.bk, .int .i64 c.rg, .map (some pb), .map (some fm)] ∧ Blk w' gb 63 #[.int .i64 b0, .int .u32 b1, .int .u16 b2, .int .i64 b3, .int .i64 b4, .int .i64 b5]), t.w.cell? ⟨gn, 7, none⟩ = some (.map (some fm)) := fun t => t.h.1.cell 7
  have z8 : ∀ w', (∃ t : Tw (fun w' => Blk w' gn 117 #[.int .i64 c.wk, .int .u32 c.ou, .int .i64 c.lo, .int .i64 c.hi, .int .i64 c.bk, .int .i64 c.rg, .map (some pb), .map (some fm)] ∧ Blk w' gb 63 #[.int .i64 b0, .int .u32 b1, .int .u16 b2, .int .i64 b3, .int .i64 b4, .int .i64 b5]), w' = t.w) → ∀ j u, ([.int .i64 b0, .int .u32 b1, .int .u16 b2] : List Value)[j]? = some u → w'.cell? ⟨gb, 0 + j, none⟩ = some u := fun w' ⟨t, ht⟩ j u hu => by
    rw [ht, Nat.zero_add, t.h.2.cell]
    match j with
    | 0 | 1 | 2 => exact hu
    | j + 3 => simp at hu
  have zz : Nonempty (Tw (fun w' => Blk w' gn 117 #[.int .i64 c.wk, .int .u32 c.ou, .int .i64 c.lo, .int .i64 c.hi, .int .i64 c.bk, .int .i64 c.rg, .map (some pb), .map (some fm)] ∧ Blk w' gb 63 #[.int .i64 b0, .int .u32 b1, .int .u16 b2, .int .i64 b3, .int .i64 b4, .int .i64 b5])) := ⟨⟨_, ho4, bb4⟩⟩
  refine wp_region_plan (fun w' => Blk w' gn 117 #[.int .i64 c.wk, .int .u32 c.ou, .int .i64 c.lo, .int .i64 c.hi, .int .i64 c.bk, .int .i64 c.rg, .map (some pb), .map (some fm)] ∧ Blk w' gb 63 #[.int .i64 b0, .int .u32 b1, .int .u16 b2, .int .i64 b3, .int .i64 b4, .int .i64 b5]) [(0, true), (1, true), (2, true), (3, true), (4, true), (5, true), (6, false)] (by kernel_rfl) (by kernel_rfl) (by kernel_rfl) (by kernel_rfl) ⟨ho4.drew, bb4.drew⟩ ?_
  refine wpPl_qs 6 _ _ _ (by kernel_rfl) (by kernel_rfl) (by simp) ?_
  unfold clsS
  simp only [List.take_succ_cons, List.take_zero, List.drop_succ_cons, List.drop_zero, List.filterMap_cons, List.filterMap_nil, List.getElem?_toArray, List.getElem?_cons_zero, List.getElem?_cons_succ]
  repeat (first
    | go_big_quiet_skip
    | (go_big_quiet_want; first | (refine quiet_ldAt rfl rfl z8 Tryz.underlying32 fl_size ?_; go_simp; go_big_quiet_on) | (go_big_quiet_op; go_big_quiet_on))
    | (refine id (?_ : wpQuiet _ _ _ _ (_ :: _) _); first | go_big_quiet_skip | (go_big_quiet_want; first | (refine quiet_ldAt rfl rfl z8 Tryz.underlying32 fl_size ?_; go_simp; go_big_quiet_on) | (go_big_quiet_op; go_big_quiet_on))))
  refine wpQuiet_nil ?_
  have hd := fun ty => (hf4.bel (Below.refl _ _).drew).del hbr.out ty
  refine wpPl_e _ (by rfl) (by kernel_rfl) (fun K hK => ?_)
  refine wp_delN rfl rfl rfl rfl hd ?_
  rintro W6 ⟨hf6, hu6⟩
  have hnb := fun {g t cs} (h : Blk W4.drew g t cs) => (hf4.bel (Below.refl _ _).drew).notBlk h
  refine hK _ _ ⟨ho4.drew.upd hu6 (fun e => hnb ho4.drew e), bb4.drew.upd hu6 (fun e => hnb bb4.drew e)⟩ ?_
  clear hK K
  unfold wpPl
  refine NoPanic.normal ?_
  go_wp2_with fail
  go_ret
  rw [hPL.out]
  exact ⟨rfl, ⟨ho4.drew.upd hu6 (fun e => hnb ho4.drew e), (hp4.bel (Below.refl _ _).drew).upd hu6 (fun e => hm2.ne e), hf6.congr (fun f => (hcut.out f).symm), hm2.ne, hinv.out⟩, ((hu2.trans (hu4.mono (fun _ _ h => .inl h))).trans (Upd.of_below (Below.refl _ _).drew _)).trans (hu6.mono (fun _ _ h => .inr h))⟩
theorem Expire_any (c : Cf) (gn pb fm np nf : Nat) (L : List Bd) (pr po ti : Int) (w : World) (hm : NatM w c gn pb fm np nf L) (hc : c.ok) :
    Calls Tryz.prog 27 #[.pointer (some ⟨gn, 0, none⟩), .int .i64 pr, .int .i64 po, .int .i64 ti] w (ExpR w c gn pb fm np nf (expP c L pr po ti)) := by
  unfold expP
  by_cases h1 : ti < 0 ∨ 4294967295 < ti
  · rw [if_pos h1]
    exact Expire_bad c gn pb fm np nf L pr po ti w hm h1
  rw [if_neg h1]
  have ht : 0 ≤ ti ∧ ti ≤ 4294967295 := by omega
  cases hat : atB c (placeP c pr po) L with
  | none => exact Expire_none c gn pb fm np nf L pr po ti w hm hc ht hat
  | some b =>
    simp only
    by_cases h2 : ti < b.se + lifeS pr b.tr
    · rw [if_pos h2]
      exact Expire_stay c gn pb fm np nf L b pr po ti w hm hc ht hat h2
    · rw [if_neg h2]
      exact Expire_go c gn pb fm np nf L b pr po ti w hm hc ht hat (by omega)
end Go.Proofs.YtbckoohljkmahaaGreat
namespace Go.Proofs.YtbckoohljkmahaaGreat
set_option linter.unusedVariables false
set_option linter.unusedSimpArgs false
open Go.RowKit Go.Maps
theorem c14_size : (Tryz.prog.info? 27).map (·.size) = some 6 := by kernel_rfl
theorem fl10_size : (Tryz.prog.info? 38).map (·.size) = some 3 := by kernel_rfl
set_option maxRecDepth 100000 in
theorem To_any (c : Cf) (w : World) : Calls Tryz.prog 14 #[.agg #[.int .i64 c.wk, .int .u32 c.ou, .int .i64 c.lo, .int .i64 c.hi, .int .i64 c.bk, .int .i64 c.rg]] w fun e w' => e = .returned (.agg #[.int .i64 c.wk, .int .u32 c.ou, .int .i64 c.lo, .int .i64 c.hi, .int .i64 c.bk, .int .i64 c.rg]) ∧ Below w.heap.size w w' := by
  obtain ⟨wk, ou, lo, hi, bk, rg⟩ := c
  simp only
  go_enter Tryz.func14, Tryz.ntmps14
  go_upto_region 1 with fail
  have bx := (Blk.new w 27 #[.int .i64 wk, .int .u32 ou, .int .i64 lo, .int .i64 hi, .int .i64 bk, .int .i64 rg]).alloc (.cells #[.int .i64 0, .int .u32 0, .int .i64 0, .int .i64 0, .int .i64 0, .int .i64 0] 36)
  have ba := Blk.new (w.alloc (.cells #[.int .i64 wk, .int .u32 ou, .int .i64 lo, .int .i64 hi, .int .i64 bk, .int .i64 rg] 27)) 36 #[.int .i64 0, .int .u32 0, .int .i64 0, .int .i64 0, .int .i64 0, .int .i64 0]
  rw [show (w.alloc (.cells #[.int .i64 wk, .int .u32 ou, .int .i64 lo, .int .i64 hi, .int .i64 bk, .int .i64 rg] 27)).heap.size = w.heap.size + 1 by simp] at ba
  have bel : Below w.heap.size w ((w.alloc (.cells #[.int .i64 wk, .int .u32 ou, .int .i64 lo, .int .i64 hi, .int .i64 bk, .int .i64 rg] 27)).alloc (.cells #[.int .i64 0, .int .u32 0, .int .i64 0, .int .i64 0, .int .i64 0, .int .i64 0] 36)) := (bel_alloc _ _).alloc (by simp) _
  generalize (w.alloc (.cells #[.int .i64 wk, .int .u32 ou, .int .i64 lo, .int .i64 hi, .int .i64 bk, .int .i64 rg] 27)).alloc (.cells #[.int .i64 0, .int .u32 0, .int .i64 0, .int .i64 0, .int .i64 0, .int .i64 0] 36) = W at *
  have x0 := bx.cell 0
  have x1 := bx.cell 1
  have x2 := bx.cell 2
  have x3 := bx.cell 3
  have x4 := bx.cell 4
  have x5 := bx.cell 5
  go_wp2_with (refine wpList_stRow rfl rfl rfl rfl rfl ba cf_size rfl (by simp [Value.oneCell']) ?_)
  exact bodyPost_ret (results_row rfl _ rfl (ba.setRow _) Tryz.underlying36 cf_size) rfl ⟨rfl, below_setRow bel (Nat.le_succ _) _⟩
set_option maxRecDepth 100000 in
theorem FromKey_any (f : Fl) (w : World) : Calls Tryz.prog 16 #[.agg f.cs] w fun e w' => e = .returned (.agg f.cs) ∧ Below w.heap.size w w' := by
  obtain ⟨f0, f1, f2⟩ := f
  simp only [Fl.cs]
  go_enter Tryz.func16, Tryz.ntmps16
  go_upto_region 1 with fail
  have bx := (Blk.new w 32 #[.int .i64 f0, .int .u32 f1, .int .u16 f2]).alloc (.cells #[.int .i64 0, .int .u32 0, .int .u16 0] 38)
  have ba := Blk.new (w.alloc (.cells #[.int .i64 f0, .int .u32 f1, .int .u16 f2] 32)) 38 #[.int .i64 0, .int .u32 0, .int .u16 0]
  rw [show (w.alloc (.cells #[.int .i64 f0, .int .u32 f1, .int .u16 f2] 32)).heap.size = w.heap.size + 1 by simp] at ba
  have bel : Below w.heap.size w ((w.alloc (.cells #[.int .i64 f0, .int .u32 f1, .int .u16 f2] 32)).alloc (.cells #[.int .i64 0, .int .u32 0, .int .u16 0] 38)) := (bel_alloc _ _).alloc (by simp) _
  generalize (w.alloc (.cells #[.int .i64 f0, .int .u32 f1, .int .u16 f2] 32)).alloc (.cells #[.int .i64 0, .int .u32 0, .int .u16 0] 38) = W at *
  have x0 := bx.cell 0
  have x1 := bx.cell 1
  have x2 := bx.cell 2
  go_wp2_with (refine wpList_stRow rfl rfl rfl rfl rfl ba fl10_size rfl (by simp [Value.oneCell']) ?_)
  exact bodyPost_ret (results_row rfl _ rfl (ba.setRow _) Tryz.underlying38 fl10_size) rfl ⟨rfl, below_setRow bel (Nat.le_succ _) _⟩
end Go.Proofs.YtbckoohljkmahaaGreat
namespace Go.Proofs.YtbckoohljkmahaaGreat
set_option linter.unusedVariables false
set_option linter.unusedSimpArgs false
open Go.RowKit Go.Maps
def cfL (n : Int) : Cf := ⟨1, 3221225985, 1000, 1000 + n, 2, 4⟩
set_option maxRecDepth 100000 in
theorem Config39 (w : World) : Calls Tryz.prog 11 #[.int .i64 0, .int .i64 39, .int .i64 0] w fun e w' => e = .returned (.agg #[.int .i64 1, .int .u32 3221225985, .int .i64 1000, .int .i64 1039, .int .i64 2, .int .i64 4]) ∧ Below w.heap.size w w' := by
  go_enter Tryz.func11, Tryz.ntmps11
  go_upto_region 1 with fail
  have ba := Blk.new w 27 #[.int .i64 0, .int .u32 0, .int .i64 0, .int .i64 0, .int .i64 0, .int .i64 0]
  have bel := bel_alloc w (.cells #[.int .i64 0, .int .u32 0, .int .i64 0, .int .i64 0, .int .i64 0, .int .i64 0] 27)
  generalize w.alloc (.cells #[.int .i64 0, .int .u32 0, .int .i64 0, .int .i64 0, .int .i64 0, .int .i64 0] 27) = W at *
  have hlt := ba.lt
  have bel2 : Below w.heap.size w (W.alloc (.cells #[.int .i64 2, .int .i64 4, .int .i64 16, .int .i64 64] 3)) := bel.alloc bel.size _
  have ba2 := ba.alloc (.cells #[.int .i64 2, .int .i64 4, .int .i64 16, .int .i64 64] 3)
  go_wp2_with (refine wpList_stRow rfl rfl rfl rfl rfl ba2 c14_size rfl (by simp [Value.oneCell']) ?_)
  exact bodyPost_ret (results_row rfl _ rfl (ba2.setRow _) Tryz.underlying27 c14_size) rfl ⟨rfl, below_setRow bel2 (Nat.le_refl _) _⟩
set_option maxRecDepth 100000 in
theorem Config9 (w : World) : Calls Tryz.prog 11 #[.int .i64 0, .int .i64 9, .int .i64 0] w fun e w' => e = .returned (.agg #[.int .i64 1, .int .u32 3221225985, .int .i64 1000, .int .i64 1009, .int .i64 2, .int .i64 4]) ∧ Below w.heap.size w w' := by
  go_enter Tryz.func11, Tryz.ntmps11
  go_upto_region 1 with fail
  have ba := Blk.new w 27 #[.int .i64 0, .int .u32 0, .int .i64 0, .int .i64 0, .int .i64 0, .int .i64 0]
  have bel := bel_alloc w (.cells #[.int .i64 0, .int .u32 0, .int .i64 0, .int .i64 0, .int .i64 0, .int .i64 0] 27)
  generalize w.alloc (.cells #[.int .i64 0, .int .u32 0, .int .i64 0, .int .i64 0, .int .i64 0, .int .i64 0] 27) = W at *
  have hlt := ba.lt
  have bel2 : Below w.heap.size w (W.alloc (.cells #[.int .i64 2, .int .i64 4, .int .i64 16, .int .i64 64] 3)) := bel.alloc bel.size _
  have ba2 := ba.alloc (.cells #[.int .i64 2, .int .i64 4, .int .i64 16, .int .i64 64] 3)
  go_wp2_with (refine wpList_stRow rfl rfl rfl rfl rfl ba2 c14_size rfl (by simp [Value.oneCell']) ?_)
  exact bodyPost_ret (results_row rfl _ rfl (ba2.setRow _) Tryz.underlying27 c14_size) rfl ⟨rfl, below_setRow bel2 (Nat.le_refl _) _⟩
theorem cfL_ok {n : Int} (h : 0 ≤ n ∧ n ≤ 39) : (cfL n).ok := by
  refine ⟨?_, ?_, ?_, ?_, ?_, ?_, ?_⟩ <;> simp only [cfL] <;> first | omega | decide | (constructor <;> omega)
end Go.Proofs.YtbckoohljkmahaaGreat
namespace Go.Proofs.YtbckoohljkmahaaGreat
set_option linter.unusedVariables false
set_option linter.unusedSimpArgs false
open Go.RowKit Go.Maps
def BdL (b : Bd) : List Value := [.int .i64 b.fl.pr, .int .u32 b.fl.ad, .int .u16 b.fl.po, .int .i64 b.po, .int .i64 b.tr, .int .i64 b.se]
theorem BdL_len (b : Bd) : (BdL b).length = 6 := rfl
theorem BdL_one (b : Bd) : ∀ u ∈ BdL b, u.oneCell' = true := by intro u hu; simp [BdL] at hu; rcases hu with rfl | rfl | rfl | rfl | rfl | rfl <;> rfl
theorem bd_info : (Tryz.prog.info? 63).map (fun i => (i.zero, i.size, i.bytes)) = some (some (.agg #[.int .i64 0, .int .u32 0, .int .u16 0, .int .i64 0, .int .i64 0, .int .i64 0]), 6, 40) := by kernel_rfl
def BndR (w : World) (c : Cf) (gn pb fm np nf : Nat) (L : List Bd) (e : Ending) (w' : World) : Prop :=
  ∃ v, e = .returned v ∧ OwnT BdL 6 63 w' w.heap.size v L ∧ NatM w' c gn pb fm np nf L ∧ Below w.heap.size w w'
def KeysR (c : Cf) (L : List Bd) (W : World) (e : Ending) (w1 : World) : Prop :=
  ∃ fv, e = .returned fv ∧ Below W.heap.size W w1 ∧ Calls Tryz.prog 52 #[fv] w1 fun e w2 => ∃ A cp, e = .returned (.slice A L.length cp) ∧ L.length ≤ cp ∧ Rd .i64 w2 w2.heap.size A L.length (L.map (keyB c)) ∧ Below w1.heap.size w1 w2
theorem OwnT.lowerB {α : Type} {cs : α → List Value} {sz : Nat} {e : TypeId} {w : World} {base base' : Nat} {v : Value} {l : List α} (h : OwnT cs sz e w base v l) (hb : base' ≤ base) : OwnT cs sz e w base' v l := by
  refine ⟨h.row.1, ?_⟩
  rcases h.row.2 with hn | ⟨g, cap, cur, rfl, hg, rest⟩
  · exact .inl hn
  · exact .inr ⟨g, cap, cur, rfl, by omega, rest⟩
set_option maxRecDepth 100000 in
set_option maxHeartbeats 4000000 in
theorem Bindings_of (c : Cf) (gn pb fm np nf : Nat) (L : List Bd) (w : World) (hm : NatM w c gn pb fm np nf L) (hc : c.ok) (hnp : np ≤ 1000000)
    (kk : ∀ W, NatM W c gn pb fm np nf L → Calls Tryz.prog 53 #[.map (some pb)] W (KeysR c L W)) :
    Calls Tryz.prog 23 #[.pointer (some ⟨gn, 0, none⟩)] w (BndR w c gn pb fm np nf L) := by
  obtain ⟨i0, hi, hz0, hz1, hz2⟩ := info_parts bd_info
  have hLn := hm.pl.len
  unfold BndR
  unfold KeysR at kk
  obtain ⟨n, hn⟩ : ∃ n, L.length = n := ⟨_, rfl⟩
  rw [hn] at kk hLn
  replace hn := Lib.hid hn
  replace kk := Lib.hid kk
  have q6 := hm.obj.cell 6
  go_enter Tryz.func23, Tryz.ntmps23
  go_wp2_with fail
  refine (kk.out _ hm).mono ?_
  rintro e W1 ⟨fv, rfl, hb1, ks⟩
  have hm1 := hm.bel_ hb1
  clear q6 kk
  replace ks := Lib.hid ks
  go_wp2_with fail
  refine ks.out.mono ?_
  rintro e W2 ⟨A, cp, rfl, hcp, rd, hb2⟩
  have hm2 := hm1.bel_ hb2
  have bel2 := bel_after hb1 hb2
  clear ks hm1 hb2
  go_wp2_with fail
  go_loopw [3, 15] (fun o i wr => ∃ k : Nat, k ≤ n ∧ i = .int .i64 k ∧ OwnT BdL 6 63 wr W2.heap.size o (L.take k) ∧ Below w.heap.size w wr ∧ NatM wr c gn pb fm np nf L ∧ Rd .i64 wr W2.heap.size A n (L.map (keyB c)) ∧ W2.heap.size ≤ wr.heap.size) (fun _ i _ => n - (intOf i).toNat)
  case atStart => exact ⟨0, by omega, rfl, ⟨World.ownsRow_nil _ _ _ _⟩, bel2, hm2, rd, Nat.le_refl _⟩
  case round =>
    obtain ⟨k, hk, rfl, own, bel, hmr, rdr, hsz⟩ := hrel
    rcases Nat.lt_or_ge k n with hkn | hkn
    · have d1 : decide ((k : Int) < (n : Int)) = true := by simpa using hkn
      have d2 : decide (k < n) = true := by simpa using hkn
      obtain ⟨b, hb⟩ : ∃ b, L[k]? = some b := ⟨_, List.getElem?_eq_getElem (by rw [hn.out]; omega)⟩
      obtain ⟨g, o, rfl, hg, hcell, hir⟩ := rdr.at_ hkn
      have hkey : (L.map (keyB c)).getD k 0 = keyB c b := by rw [List.getD_eq_getElem?_getD, List.getElem?_map, hb]; rfl
      rw [hkey] at hcell hir
      have hlook := hmr.pl.look0 hir
      have hat := atB_of hmr.inv (List.mem_of_getElem? hb)
      have htk : L.take (k + 1) = L.take k ++ [b] := by rw [List.take_add_one, hb]; rfl
      have hlt : (L.take k).length = k := by rw [List.length_take, hn.out]; omega
      rw [hat] at hlook
      generalize keyB c b = KEY at *
      clear hat hkey hir
      replace htk := Lib.hid htk
      replace hb := Lib.hid hb
      replace hlt := Lib.hid hlt
      obtain ⟨⟨b0, b1, b2⟩, b3, b4, b5⟩ := b
      simp only [lookZ, Bd.cs] at hlook
      have q6 := hmr.obj.cell 6
      have k0 : (0 : Int) ≤ (k : Int) := by omega
      have k1 : (k : Int) < (n : Int) := by omega
      go_upto_region 7 with fail
      have hla := bel_alloc wr (.cells #[.int .i64 b0, .int .u32 b1, .int .u16 b2, .int .i64 b3, .int .i64 b4, .int .i64 b5] 63)
      have hxr := RdT.new (cs := BdL) (sz := 6) BdL_len wr 63 [(⟨⟨b0, b1, b2⟩, b3, b4, b5⟩ : Bd)] #[.int .i64 b0, .int .u32 b1, .int .u16 b2, .int .i64 b3, .int .i64 b4, .int .i64 b5] rfl 1 rfl
      have own3 := own.below hla
      have hm3 := hmr.bel_ hla
      have bel3 := bel_after bel hla
      have rd3 := rdr.below (Below.mono hla hsz)
      have hsz3 := Nat.le_trans hsz hla.size
      clear hla
      go_wp2_with (first
        | (refine wpList_look rfl rfl rfl rfl hlook ?_)
        | (at_builtin; generalize wr.alloc (.cells #[.int .i64 b0, .int .u32 b1, .int .u16 b2, .int .i64 b3, .int .i64 b4, .int .i64 b5] 63) = W3 at *; refine wpList_appT BdL_len BdL_one (by decide) _ rfl (.tmp 19) (.tmp 26) 58 rfl W2.heap.size 63 i0 (.agg #[.int .i64 0, .int .u32 0, .int .u16 0, .int .i64 0, .int .i64 0, .int .i64 0]) 40 Tryz.underlying58 hi hz0 hz1 hz2 rfl _ rfl (L.take k) own3 _ _ 1 1 rfl [(⟨⟨b0, b1, b2⟩, b3, b4, b5⟩ : Bd)] hxr (by rw [hlt.out]; omega) (by decide) hsz3 ?_; intro v4 w4 own4 hg4 hv4))
      have hu4 : Upd (fun k => W2.heap.size ≤ k) W3 w4 := Upd.of_grown (S := fun k => W2.heap.size ≤ k) hg4 (fun g e => (own3.lt g e).1)
      have hb4 : Below W2.heap.size W3 w4 := hu4.below hsz3 (fun k hk => by omega)
      have l1 := hm2.obj.lt
      have l2 := hm2.pl.lt
      have l3 := hm2.fl.lt
      have hm4 : NatM w4 c gn pb fm np nf L := ⟨hm3.obj.upd hu4 (by omega), hm3.pl.upd hu4 (by omega), hm3.fl.upd hu4 (by omega), hm3.ne, hm3.inv⟩
      have bel4 : Below w.heap.size w w4 := bel3.trans (Below.mono hb4 bel2.size)
      rw [← htk.out] at own4
      go_roundw
      case rel => exact ⟨k + 1, by omega, by go_num, own4, bel4, hm4, rd3.below hb4, Nat.le_trans hsz3 hb4.size⟩
      case measure => simp [intOf]; omega
    · obtain rfl : k = n := by omega
      have d1 : decide ((k : Int) < (k : Int)) = false := by simp
      have ht : L.take k = L := by rw [← hn.out, List.take_length]
      rw [ht] at own
      have d2 : decide (k < k) = false := by simp
      go_wp2
      go_ret
      exact ⟨_, rfl, own.lowerB bel2.size, hmr, bel⟩
end Go.Proofs.YtbckoohljkmahaaGreat
namespace Go.Proofs.YtbckoohljkmahaaGreat
set_option linter.unusedVariables false
set_option linter.unusedSimpArgs false
open Go.RowKit
def partI (l : List Int) : Pt × Bool := if getE l = 0 then ((getR (hdIf l 0) l).2, (getR (hdIf l 0) l).1 == 0) else (Pt.z, false)
def PartT (w : World) (p : Pt × Bool) (e : Ending) (w' : World) : Prop := e = .returned (.tuple #[p.1.val, .bool p.2]) ∧ Below w.heap.size w w'
set_option maxRecDepth 100000 in
set_option maxHeartbeats 4000000 in
theorem rPart_any (l : List Int) (A : Option Addr) (len c : Nat) (w : World) (hr : Rd .u8 w w.heap.size A len l) (hlc : len ≤ c) (hcm : c ≤ 9223372036854775807) (hl : len ≤ 60000) :
    Calls Tryz.prog 24 #[.slice A len c] w (PartT w (partI l)) := by
  have k1 := fun W (h : Below w.heap.size w W) => rGet_any l false A len c _ W ((hr.below h).more h.size) (Nat.le_refl _) hlc hcm (by omega)
  rw [show getP l false = getE l from rfl] at k1
  unfold partI
  by_cases hE : getE l = 0
  · have hbb := frm_bdh (fun x hx => inr_u8 (hr.rng x hx)) hE
    rw [if_pos hE]
    rw [hE] at k1
    have k2 := fun W (h : Below w.heap.size w W) => rPGet_any (hdIf l 0) l A len c _ W ((hr.below h).more h.size) (Nat.le_refl _) hlc hcm (by omega) hbb.1 hbb.2
    generalize hdIf l 0 = H at *
    generalize getR H l = R at *
    obtain ⟨h0, h1, h2, h3, h4, h5⟩ := H
    obtain ⟨E, pr, sr, ds, fl, ki, co, er, ⟨isz, i1, i2, i3, i4, i5⟩, pat, ba⟩ := R
    simp only [PartT, Hd.val, Pt.val, Tells] at k1 k2 ⊢
    obtain ⟨ok, hok⟩ : ∃ ok, (E == 0) = ok := ⟨_, rfl⟩
    rw [hok]
    clear hbb hE hr
    replace k1 := Lib.hid k1
    replace k2 := Lib.hid k2
    go_enter Tryz.func24, Tryz.ntmps24
    go_upto_region 1 with fail
    have bk := Blk.new w 69 #[.int .i64 0, .int .u16 0, .int .u16 0, .int .i64 0, .int .i64 0, .int .i64 0, .bool false, .int .i64 0, .int .i64 0, .int .i64 0, .int .i64 0, .int .u32 0, .int .u32 0, .int .i64 0, .bool false]
    have bel := bel_alloc w (.cells #[.int .i64 0, .int .u16 0, .int .u16 0, .int .i64 0, .int .i64 0, .int .i64 0, .bool false, .int .i64 0, .int .i64 0, .int .i64 0, .int .i64 0, .int .u32 0, .int .u32 0, .int .i64 0, .bool false] 69)
    generalize w.alloc (.cells #[.int .i64 0, .int .u16 0, .int .u16 0, .int .i64 0, .int .i64 0, .int .i64 0, .bool false, .int .i64 0, .int .i64 0, .int .i64 0, .int .i64 0, .int .u32 0, .int .u32 0, .int .i64 0, .bool false] 69) = W1 at *
    go_wp2_with fail
    refine (k1.out _ bel).mono ?_
    rintro e w2 ⟨rfl, hb⟩
    replace bel := bel_after bel hb
    replace bk := bk.bel hb
    clear hb k1
    have hlt := bk.lt
    have bh := (Blk.new w2 67 #[.int .i64 0, .int .i64 0, .int .i64 0, .int .i64 0, .int .u32 0, .int .u32 0]).setRow #[.int .i64 h0, .int .i64 h1, .int .i64 h2, .int .i64 h3, .int .u32 h4, .int .u32 h5]
    replace bk := (bk.alloc (.cells #[.int .i64 0, .int .i64 0, .int .i64 0, .int .i64 0, .int .u32 0, .int .u32 0] 67)).setRow_far (g' := w2.heap.size) (by omega) #[.int .i64 h0, .int .i64 h1, .int .i64 h2, .int .i64 h3, .int .u32 h4, .int .u32 h5]
    replace bel := below_setRow (bel.alloc bel.size (.cells #[.int .i64 0, .int .i64 0, .int .i64 0, .int .i64 0, .int .u32 0, .int .u32 0] 67)) bel.size #[.int .i64 h0, .int .i64 h1, .int .i64 h2, .int .i64 h3, .int .u32 h4, .int .u32 h5]
    clear hlt
    go_wp2_with (first
      | (refine wpList_stRow rfl rfl rfl rfl rfl (Blk.new w2 _ _) rhd_size rfl (by simp [Value.oneCell']) ?_; generalize (w2.alloc (.cells #[.int .i64 0, .int .i64 0, .int .i64 0, .int .i64 0, .int .u32 0, .int .u32 0] 67)).setRow w2.heap.size #[.int .i64 h0, .int .i64 h1, .int .i64 h2, .int .i64 h3, .int .u32 h4, .int .u32 h5] = W4 at *; generalize w2.heap.size = gh at *)
      | (refine wpList_ldRow rfl rfl rfl bh Tryz.underlying67 rhd_size ?_))
    refine (k2.out _ bel).mono ?_
    rintro e w3 ⟨rfl, hb⟩
    replace bel := bel_after bel hb
    replace bk := bk.bel hb
    clear hb k2 bh
    have hlt := bk.lt
    have bp := (Blk.new w3 69 #[.int .i64 0, .int .u16 0, .int .u16 0, .int .i64 0, .int .i64 0, .int .i64 0, .bool false, .int .i64 0, .int .i64 0, .int .i64 0, .int .i64 0, .int .u32 0, .int .u32 0, .int .i64 0, .bool false]).setRow #[.int .i64 pr, .int .u16 sr, .int .u16 ds, .int .i64 fl, .int .i64 ki, .int .i64 co, .bool er, .int .i64 isz, .int .i64 i1, .int .i64 i2, .int .i64 i3, .int .u32 i4, .int .u32 i5, .int .i64 pat, .bool ba]
    replace bk := (bk.alloc (.cells #[.int .i64 0, .int .u16 0, .int .u16 0, .int .i64 0, .int .i64 0, .int .i64 0, .bool false, .int .i64 0, .int .i64 0, .int .i64 0, .int .i64 0, .int .u32 0, .int .u32 0, .int .i64 0, .bool false] 69)).setRow_far (g' := w3.heap.size) (by omega) #[.int .i64 pr, .int .u16 sr, .int .u16 ds, .int .i64 fl, .int .i64 ki, .int .i64 co, .bool er, .int .i64 isz, .int .i64 i1, .int .i64 i2, .int .i64 i3, .int .u32 i4, .int .u32 i5, .int .i64 pat, .bool ba]
    replace bel := below_setRow (bel.alloc bel.size (.cells #[.int .i64 0, .int .u16 0, .int .u16 0, .int .i64 0, .int .i64 0, .int .i64 0, .bool false, .int .i64 0, .int .i64 0, .int .i64 0, .int .i64 0, .int .u32 0, .int .u32 0, .int .i64 0, .bool false] 69)) bel.size #[.int .i64 pr, .int .u16 sr, .int .u16 ds, .int .i64 fl, .int .i64 ki, .int .i64 co, .bool er, .int .i64 isz, .int .i64 i1, .int .i64 i2, .int .i64 i3, .int .u32 i4, .int .u32 i5, .int .i64 pat, .bool ba]
    clear hlt
    go_upto_region 5 with (refine wpList_stRow rfl rfl rfl rfl rfl (Blk.new w3 _ _) rpt_size rfl (by simp [Value.oneCell']) ?_; generalize (w3.alloc (.cells #[.int .i64 0, .int .u16 0, .int .u16 0, .int .i64 0, .int .i64 0, .int .i64 0, .bool false, .int .i64 0, .int .i64 0, .int .i64 0, .int .i64 0, .int .u32 0, .int .u32 0, .int .i64 0, .bool false] 69)).setRow w3.heap.size #[.int .i64 pr, .int .u16 sr, .int .u16 ds, .int .i64 fl, .int .i64 ki, .int .i64 co, .bool er, .int .i64 isz, .int .i64 i1, .int .i64 i2, .int .i64 i3, .int .u32 i4, .int .u32 i5, .int .i64 pat, .bool ba] = W5 at *; generalize w3.heap.size = gp at *)
    go_wp2_with (first
      | (refine wpList_ldRow rfl rfl rfl bp Tryz.underlying69 rpt_size ?_)
      | (refine wpList_stRow rfl rfl rfl rfl rfl bk rpt_size rfl (by simp [Value.oneCell']) ?_))
    exact bodyPost_ret (results_row2 rfl _ rfl (bk.setRow _) Tryz.underlying69 rpt_size) rfl ⟨rfl, below_setRow bel (Nat.le_refl _) _⟩
  · rw [if_neg hE]
    have hz : hdIf l (getE l) = Hd.z := by unfold hdIf; rw [if_neg hE]
    rw [hz] at k1
    generalize getE l = E at *
    have d1 : (E != 0) = true := by simpa using hE
    have d2 : (E == 0) = false := by simpa using hE
    clear hE hr hz
    obtain ⟨h0, h1, h2, h3, h4, h5, hh⟩ : ∃ h0 h1 h2 h3 h4 h5 : Int, Hd.z = ⟨h0, h1, h2, h3, h4, h5⟩ := ⟨_, _, _, _, _, _, rfl⟩
    rw [hh] at k1
    clear hh
    simp only [PartT, Hd.val, Pt.val, Pt.z, Hd.z] at k1 ⊢
    replace k1 := Lib.hid k1
    go_enter Tryz.func24, Tryz.ntmps24
    go_upto_region 1 with fail
    have bk := Blk.new w 69 #[.int .i64 0, .int .u16 0, .int .u16 0, .int .i64 0, .int .i64 0, .int .i64 0, .bool false, .int .i64 0, .int .i64 0, .int .i64 0, .int .i64 0, .int .u32 0, .int .u32 0, .int .i64 0, .bool false]
    have bel := bel_alloc w (.cells #[.int .i64 0, .int .u16 0, .int .u16 0, .int .i64 0, .int .i64 0, .int .i64 0, .bool false, .int .i64 0, .int .i64 0, .int .i64 0, .int .i64 0, .int .u32 0, .int .u32 0, .int .i64 0, .bool false] 69)
    generalize w.alloc (.cells #[.int .i64 0, .int .u16 0, .int .u16 0, .int .i64 0, .int .i64 0, .int .i64 0, .bool false, .int .i64 0, .int .i64 0, .int .i64 0, .int .i64 0, .int .u32 0, .int .u32 0, .int .i64 0, .bool false] 69) = W1 at *
    go_wp2_with fail
    refine (k1.out _ bel).mono ?_
    rintro e w2 ⟨rfl, hb⟩
    replace bel := bel_after bel hb
    replace bk := bk.bel hb
    clear hb k1
    have hlt := bk.lt
    replace bk := (bk.alloc (.cells #[.int .i64 0, .int .i64 0, .int .i64 0, .int .i64 0, .int .u32 0, .int .u32 0] 67)).setRow_far (g' := w2.heap.size) (by omega) #[.int .i64 h0, .int .i64 h1, .int .i64 h2, .int .i64 h3, .int .u32 h4, .int .u32 h5]
    replace bel := below_setRow (bel.alloc bel.size (.cells #[.int .i64 0, .int .i64 0, .int .i64 0, .int .i64 0, .int .u32 0, .int .u32 0] 67)) bel.size #[.int .i64 h0, .int .i64 h1, .int .i64 h2, .int .i64 h3, .int .u32 h4, .int .u32 h5]
    clear hlt
    go_upto_region 3 with (refine wpList_stRow rfl rfl rfl rfl rfl (Blk.new w2 _ _) rhd_size rfl (by simp [Value.oneCell']) ?_; generalize (w2.alloc (.cells #[.int .i64 0, .int .i64 0, .int .i64 0, .int .i64 0, .int .u32 0, .int .u32 0] 67)).setRow w2.heap.size #[.int .i64 h0, .int .i64 h1, .int .i64 h2, .int .i64 h3, .int .u32 h4, .int .u32 h5] = W4 at *; generalize w2.heap.size = gh at *)
    go_wp2_with (refine wpList_stRow rfl rfl rfl rfl rfl bk rpt_size rfl (by simp [Value.oneCell']) ?_)
    exact bodyPost_ret (results_row2 rfl _ rfl (bk.setRow _) Tryz.underlying69 rpt_size) rfl ⟨rfl, below_setRow bel (Nat.le_refl _) _⟩
end Go.Proofs.YtbckoohljkmahaaGreat
