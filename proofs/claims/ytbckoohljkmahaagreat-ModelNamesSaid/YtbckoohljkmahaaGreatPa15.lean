/- What the laws' proofs lean on: plain facts and contracts of the program's functions, laid together (15). -/
import Derived.Test.YtbckoohljkmahaaGreatPa14
import Derived.Test.YtbckoohljkmahaaGreatPa01
import Derived.Test.YtbckoohljkmahaaGreatPa13
import Derived.Deep.DeepCutAuto
import Derived.Deep.CutBlock
namespace Go.Proofs.YtbckoohljkmahaaGreat
set_option linter.unusedVariables false
set_option linter.unusedSimpArgs false
open Go.RowKit Go.Maps
theorem placeP_rng {c : Cf} (hc : c.ok) (p port : Int) : inr .i64 (placeP c p port) := keyB_rng hc ⟨⟨p, 0, 0⟩, port, 0, 0⟩
theorem placeP_port {c : Cf} (hc : c.ok) {p port : Int} (h : 0 ≤ placeP c p port) : 1 ≤ port ∧ port ≤ 65535 := by
  unfold placeP at h
  have h2 := hc.lo
  have h3 := hc.hi
  split at h
  · omega
  · omega
/-- between both maps -/
structure OM (w W : World) (c : Cf) (gn pb fm np nf : Nat) (L1 : List Bd) (G : Fl → Option Int) (xv fv pv av : Array Value) : Prop where
  oc : OC c gn pb fm w.heap.size xv fv pv W
  pl : PlM W c pb np L1
  fl : FlG W fm nf G
  ba : Blk W (w.heap.size + 1 + 1 + 1) 55 av
  up : Upd (fun k => k = pb ∨ k = fm) w W
section
variable {w W W' : World} {c : Cf} {gn pb fm np nf np' nf' : Nat} {L L1 : List Bd} {G G' : Fl → Option Int} {xv fv pv av : Array Value}
theorem OC.upd {S : Nat → Prop} {g0 : Nat} (h : OC c gn pb fm g0 xv fv pv W) (hu : Upd S W W') (hS : ∀ g t cs, Blk W g t cs → ¬ S g) : OC c gn pb fm g0 xv fv pv W' :=
  ⟨h.obj.upd hu (hS _ _ _ h.obj), h.bx.upd hu (hS _ _ _ h.bx), h.bf.upd hu (hS _ _ _ h.bf), h.bp.upd hu (hS _ _ _ h.bp)⟩
theorem OS.mid (h : OS w W c gn pb fm np nf L xv fv pv av) (hp : PlM W' c pb np' L1) (hu : Upd (fun k => k = pb) W W') : OM w W' c gn pb fm np' nf L1 (plOf c L) xv fv pv av :=
  ⟨h.oc.upd hu (fun g t cs hb e => h.nm.pl.notBlk hb e), hp, h.nm.fl.upd hu (fun e => h.nm.ne e.symm), h.ba.upd hu (fun e => h.nm.pl.notBlk h.ba e), h.up.trans (hu.mono (fun _ _ h => .inl h))⟩
theorem OM.drew (h : OM w W c gn pb fm np nf L1 G xv fv pv av) : OM w W.drew c gn pb fm np nf L1 G xv fv pv av :=
  ⟨⟨h.oc.obj, h.oc.bx, h.oc.bf, h.oc.bp⟩, ⟨h.pl.own⟩, ⟨h.fl.ex⟩, h.ba, h.up.drew⟩
theorem OM.fin (h : OM w W c gn pb fm np nf L1 G xv fv pv av) (hf : FlG W' fm nf' G') (hu : Upd (fun k => k = fm) W W') (hne : pb ≠ fm) (hG : ∀ f, G' f = plOf c L1 f) (hi : LInv c L1) : OS w W' c gn pb fm np nf' L1 xv fv pv av := by
  have oc := h.oc.upd hu (fun g t cs hb e => h.fl.notBlk hb e)
  exact ⟨⟨oc.obj, h.pl.upd hu hne, hf.congr hG, hne, hi⟩, oc.bx, oc.bf, oc.bp, h.ba.upd hu (fun e => h.fl.notBlk h.ba e), h.up.trans (hu.mono (fun _ _ h => .inr h))⟩
end
set_option maxRecDepth 100000 in
set_option maxHeartbeats 8000000 in
theorem out_none (c : Cf) (gn pb fm np nf : Nat) (L : List Bd) (ou : Bool) (xA : Option Addr) (xn xc : Nat) (ti po : Int) (f : Fl) (p : Pt) (l : List Int) (w : World) (hm : NatM w c gn pb fm np nf L) (hfr : f.rng) (hb : ofB f L = none)
    (hbg : begP true l = false) (hr : Rd .u8 w w.heap.size xA xn l) (hlc : xn ≤ xc) (hcm : xc ≤ 9223372036854775807) (hl : xn ≤ 60000) :
    Calls Tryz.prog 47 #[.pointer (some ⟨gn, 0, none⟩), .agg #[.bool ou, .slice xA xn xc, .int .i64 ti, .int .i64 po], .agg f.cs, p.val] w (AnsR w c gn pb fm np nf L 7 []) := by
  have hpo0 : plOf c L f = none := by unfold plOf; rw [hb]; rfl
  have hlt1 := hm.obj.lt
  have hlt2 := hm.pl.lt
  have hlt3 := hm.fl.lt
  have kb := fun W (hr : Rd .u8 W W.heap.size xA xn l) => Begins2_any true l xA xn xc W hr hlc hcm hl
  obtain ⟨pv0, hpv⟩ : ∃ pv0, p.val = .agg pv0 := ⟨_, rfl⟩
  rw [hpv]
  replace hpo0 := Lib.hid hpo0
  rw [hbg] at kb
  replace kb := Lib.hid kb
  obtain ⟨f0, f1, f2⟩ := f
  simp only [Fl.cs]
  go_enter Tryz.func47, Tryz.ntmps47
  go_upto_region 1 with fail
  have os : OS w ((((w.alloc (.cells #[.bool ou, .slice xA xn xc, .int .i64 ti, .int .i64 po] 57)).alloc (.cells #[.int .i64 f0, .int .u32 f1, .int .u16 f2] 32)).alloc (.cells pv0 107)).alloc (.cells #[.slice none 0 0, .int .i64 0] 55)) c gn pb fm np nf L #[.bool ou, .slice xA xn xc, .int .i64 ti, .int .i64 po] #[.int .i64 f0, .int .u32 f1, .int .u16 f2] pv0 #[.slice none 0 0, .int .i64 0] := by
    have e1 : (w.alloc (.cells #[.bool ou, .slice xA xn xc, .int .i64 ti, .int .i64 po] 57)).heap.size = w.heap.size + 1 := by simp
    have e2 : ((w.alloc (.cells #[.bool ou, .slice xA xn xc, .int .i64 ti, .int .i64 po] 57)).alloc (.cells #[.int .i64 f0, .int .u32 f1, .int .u16 f2] 32)).heap.size = w.heap.size + 1 + 1 := by simp
    have e3 : (((w.alloc (.cells #[.bool ou, .slice xA xn xc, .int .i64 ti, .int .i64 po] 57)).alloc (.cells #[.int .i64 f0, .int .u32 f1, .int .u16 f2] 32)).alloc (.cells pv0 107)).heap.size = w.heap.size + 1 + 1 + 1 := by simp
    have b1 := Blk.new w 57 #[.bool ou, .slice xA xn xc, .int .i64 ti, .int .i64 po]
    have b2 := Blk.new (w.alloc (.cells #[.bool ou, .slice xA xn xc, .int .i64 ti, .int .i64 po] 57)) 32 #[.int .i64 f0, .int .u32 f1, .int .u16 f2]
    have b3 := Blk.new ((w.alloc (.cells #[.bool ou, .slice xA xn xc, .int .i64 ti, .int .i64 po] 57)).alloc (.cells #[.int .i64 f0, .int .u32 f1, .int .u16 f2] 32)) 107 pv0
    have b4 := Blk.new (((w.alloc (.cells #[.bool ou, .slice xA xn xc, .int .i64 ti, .int .i64 po] 57)).alloc (.cells #[.int .i64 f0, .int .u32 f1, .int .u16 f2] 32)).alloc (.cells pv0 107)) 55 #[.slice none 0 0, .int .i64 0]
    rw [e1] at b2
    rw [e2] at b3
    rw [e3] at b4
    exact ⟨(((hm.alloc _).alloc _).alloc _).alloc _, ((b1.alloc _).alloc _).alloc _, (b2.alloc _).alloc _, b3.alloc _, b4, (((Upd.refl _ w).alloc _).alloc _).alloc _ |>.alloc _⟩
  generalize (((w.alloc (.cells #[.bool ou, .slice xA xn xc, .int .i64 ti, .int .i64 po] 57)).alloc (.cells #[.int .i64 f0, .int .u32 f1, .int .u16 f2] 32)).alloc (.cells pv0 107)).alloc (.cells #[.slice none 0 0, .int .i64 0] 55) = W at *
  have z2 : ∀ t : Tw (OC c gn pb fm w.heap.size #[.bool ou, .slice xA xn xc, .int .i64 ti, .int .i64 po] #[.int .i64 f0, .int .u32 f1, .int .u16 f2] pv0), t.w.cell? ⟨gn, 7, none⟩ = some (.map (some fm)) := fun t => t.h.obj.cell 7
  have z5 : ∀ w', (∃ t : Tw (OC c gn pb fm w.heap.size #[.bool ou, .slice xA xn xc, .int .i64 ti, .int .i64 po] #[.int .i64 f0, .int .u32 f1, .int .u16 f2] pv0), w' = t.w) → Blk w' (w.heap.size + 1) 32 #[.int .i64 f0, .int .u32 f1, .int .u16 f2] := fun w' ⟨t, ht⟩ => ht ▸ t.h.bf
  have zz : Nonempty (Tw (OC c gn pb fm w.heap.size #[.bool ou, .slice xA xn xc, .int .i64 ti, .int .i64 po] #[.int .i64 f0, .int .u32 f1, .int .u16 f2] pv0)) := ⟨⟨_, os.oc⟩⟩
  refine wp_region_plan (OC c gn pb fm w.heap.size #[.bool ou, .slice xA xn xc, .int .i64 ti, .int .i64 po] #[.int .i64 f0, .int .u32 f1, .int .u16 f2] pv0) [(0, true), (1, true), (2, true), (3, true), (4, true), (5, false), (6, true), (7, true), (8, true), (9, true), (10, true)] (by kernel_rfl) (by kernel_rfl) (by kernel_rfl) (by kernel_rfl) os.drew.oc ?_
  replace os := os.drew
  generalize W.drew = W1 at *
  refine wpPl_qs 5 _ _ _ (by kernel_rfl) (by kernel_rfl) (by simp) ?_
  unfold clsS
  simp only [List.take_succ_cons, List.take_zero, List.drop_succ_cons, List.drop_zero, List.filterMap_cons, List.filterMap_nil, List.getElem?_toArray, List.getElem?_cons_zero, List.getElem?_cons_succ]
  repeat (first
    | go_big_quiet_skip
    | (go_big_quiet_want; first | (refine quiet_ldRow rfl rfl z5 Tryz.underlying32 fl_size ?_; go_simp; go_big_quiet_on) | (go_big_quiet_op; go_big_quiet_on))
    | (refine id (?_ : wpQuiet _ _ _ _ (_ :: _) _); first | go_big_quiet_skip | (go_big_quiet_want; first | (refine quiet_ldRow rfl rfl z5 Tryz.underlying32 fl_size ?_; go_simp; go_big_quiet_on) | (go_big_quiet_op; go_big_quiet_on))))
  refine wpQuiet_nil ?_
  have hlook := os.nm.fl.look hfr
  rw [hpo0.out] at hlook
  refine wpPl_e _ (by rfl) (by kernel_rfl) (fun K hK => ?_)
  refine wp_look rfl rfl rfl hlook ?_
  simp only [lookF, Option.getD_some, Option.isSome_some, Option.getD_none, Option.isSome_none]
  go_simp
  refine hK _ _ os.oc ?_
  clear hK K hlook
  refine wpPl_qs 5 _ _ _ (by kernel_rfl) (by kernel_rfl) (by simp) ?_
  unfold clsS
  simp only [List.take_succ_cons, List.take_zero, List.drop_succ_cons, List.drop_zero, List.filterMap_cons, List.filterMap_nil, List.getElem?_toArray, List.getElem?_cons_zero, List.getElem?_cons_succ]
  repeat (first
    | go_big_quiet_skip
    | (go_big_quiet_want; go_big_quiet_op; go_big_quiet_on)
    | (refine id (?_ : wpQuiet _ _ _ _ (_ :: _) _); first | go_big_quiet_skip | (go_big_quiet_want; go_big_quiet_op; go_big_quiet_on)))
  refine wpQuiet_nil ?_
  clear z2 z5 zz
  unfold wpPl
  refine NoPanic.normal ?_
  have hrW := rd_step hr hm (Nat.le_refl _) os.up
  have x1 := os.bx.cell 1
  go_wp2_with fail
  refine (kb.out _ (hrW.more os.up.size)).mono ?_
  rintro e W2 ⟨rfl, hb2⟩
  replace os := os.bel_ hb2
  clear x1
  have ba := os.ba
  go_wp2_with (refine wpList_stRow rfl rfl rfl rfl rfl ba an_size rfl (by simp [Value.oneCell']) ?_)
  have os2 := os.ans hlt1 hlt2 hlt3 #[.slice none 0 0, .int .i64 7]
  exact bodyPost_ret (results_row rfl _ rfl os2.ba Tryz.underlying55 an_size) rfl ⟨_, _, _, rfl, Own.nil _ _ _ _, os2.nm, Nat.le_succ _, Nat.le_succ _, os2.up⟩
set_option maxRecDepth 100000 in
set_option maxHeartbeats 8000000 in
theorem out_port (c : Cf) (gn pb fm np nf : Nat) (L : List Bd) (ou : Bool) (xA : Option Addr) (xn xc : Nat) (ti po : Int) (f : Fl) (p : Pt) (l : List Int) (w : World) (hm : NatM w c gn pb fm np nf L) (hfr : f.rng) (hb : ofB f L = none)
    (hbg : begP true l = true) (hpo : po = -1 ∨ po = -2) (hr : Rd .u8 w w.heap.size xA xn l) (hlc : xn ≤ xc) (hcm : xc ≤ 9223372036854775807) (hl : xn ≤ 60000) :
    Calls Tryz.prog 47 #[.pointer (some ⟨gn, 0, none⟩), .agg #[.bool ou, .slice xA xn xc, .int .i64 ti, .int .i64 po], .agg f.cs, p.val] w (AnsR w c gn pb fm np nf L (if po = -1 then 8 else 9) []) := by
  have hpo0 : plOf c L f = none := by unfold plOf; rw [hb]; rfl
  have hlt1 := hm.obj.lt
  have hlt2 := hm.pl.lt
  have hlt3 := hm.fl.lt
  have kb := fun W (hr : Rd .u8 W W.heap.size xA xn l) => Begins2_any true l xA xn xc W hr hlc hcm hl
  obtain ⟨pv0, hpv⟩ : ∃ pv0, p.val = .agg pv0 := ⟨_, rfl⟩
  rw [hpv]
  replace hpo0 := Lib.hid hpo0
  rw [hbg] at kb
  replace kb := Lib.hid kb
  obtain ⟨f0, f1, f2⟩ := f
  simp only [Fl.cs]
  rcases hpo with rfl | rfl
  · rw [if_pos rfl]
    go_enter Tryz.func47, Tryz.ntmps47
    go_upto_region 1 with fail
    have os : OS w ((((w.alloc (.cells #[.bool ou, .slice xA xn xc, .int .i64 ti, .int .i64 (-1)] 57)).alloc (.cells #[.int .i64 f0, .int .u32 f1, .int .u16 f2] 32)).alloc (.cells pv0 107)).alloc (.cells #[.slice none 0 0, .int .i64 0] 55)) c gn pb fm np nf L #[.bool ou, .slice xA xn xc, .int .i64 ti, .int .i64 (-1)] #[.int .i64 f0, .int .u32 f1, .int .u16 f2] pv0 #[.slice none 0 0, .int .i64 0] := by
      have e1 : (w.alloc (.cells #[.bool ou, .slice xA xn xc, .int .i64 ti, .int .i64 (-1)] 57)).heap.size = w.heap.size + 1 := by simp
      have e2 : ((w.alloc (.cells #[.bool ou, .slice xA xn xc, .int .i64 ti, .int .i64 (-1)] 57)).alloc (.cells #[.int .i64 f0, .int .u32 f1, .int .u16 f2] 32)).heap.size = w.heap.size + 1 + 1 := by simp
      have e3 : (((w.alloc (.cells #[.bool ou, .slice xA xn xc, .int .i64 ti, .int .i64 (-1)] 57)).alloc (.cells #[.int .i64 f0, .int .u32 f1, .int .u16 f2] 32)).alloc (.cells pv0 107)).heap.size = w.heap.size + 1 + 1 + 1 := by simp
      have b1 := Blk.new w 57 #[.bool ou, .slice xA xn xc, .int .i64 ti, .int .i64 (-1)]
      have b2 := Blk.new (w.alloc (.cells #[.bool ou, .slice xA xn xc, .int .i64 ti, .int .i64 (-1)] 57)) 32 #[.int .i64 f0, .int .u32 f1, .int .u16 f2]
      have b3 := Blk.new ((w.alloc (.cells #[.bool ou, .slice xA xn xc, .int .i64 ti, .int .i64 (-1)] 57)).alloc (.cells #[.int .i64 f0, .int .u32 f1, .int .u16 f2] 32)) 107 pv0
      have b4 := Blk.new (((w.alloc (.cells #[.bool ou, .slice xA xn xc, .int .i64 ti, .int .i64 (-1)] 57)).alloc (.cells #[.int .i64 f0, .int .u32 f1, .int .u16 f2] 32)).alloc (.cells pv0 107)) 55 #[.slice none 0 0, .int .i64 0]
      rw [e1] at b2
      rw [e2] at b3
      rw [e3] at b4
      exact ⟨(((hm.alloc _).alloc _).alloc _).alloc _, ((b1.alloc _).alloc _).alloc _, (b2.alloc _).alloc _, b3.alloc _, b4, (((Upd.refl _ w).alloc _).alloc _).alloc _ |>.alloc _⟩
    generalize (((w.alloc (.cells #[.bool ou, .slice xA xn xc, .int .i64 ti, .int .i64 (-1)] 57)).alloc (.cells #[.int .i64 f0, .int .u32 f1, .int .u16 f2] 32)).alloc (.cells pv0 107)).alloc (.cells #[.slice none 0 0, .int .i64 0] 55) = W at *
    have z2 : ∀ t : Tw (OC c gn pb fm w.heap.size #[.bool ou, .slice xA xn xc, .int .i64 ti, .int .i64 (-1)] #[.int .i64 f0, .int .u32 f1, .int .u16 f2] pv0), t.w.cell? ⟨gn, 7, none⟩ = some (.map (some fm)) := fun t => t.h.obj.cell 7
    have z5 : ∀ w', (∃ t : Tw (OC c gn pb fm w.heap.size #[.bool ou, .slice xA xn xc, .int .i64 ti, .int .i64 (-1)] #[.int .i64 f0, .int .u32 f1, .int .u16 f2] pv0), w' = t.w) → Blk w' (w.heap.size + 1) 32 #[.int .i64 f0, .int .u32 f1, .int .u16 f2] := fun w' ⟨t, ht⟩ => ht ▸ t.h.bf
    have zz : Nonempty (Tw (OC c gn pb fm w.heap.size #[.bool ou, .slice xA xn xc, .int .i64 ti, .int .i64 (-1)] #[.int .i64 f0, .int .u32 f1, .int .u16 f2] pv0)) := ⟨⟨_, os.oc⟩⟩
    refine wp_region_plan (OC c gn pb fm w.heap.size #[.bool ou, .slice xA xn xc, .int .i64 ti, .int .i64 (-1)] #[.int .i64 f0, .int .u32 f1, .int .u16 f2] pv0) [(0, true), (1, true), (2, true), (3, true), (4, true), (5, false), (6, true), (7, true), (8, true), (9, true), (10, true)] (by kernel_rfl) (by kernel_rfl) (by kernel_rfl) (by kernel_rfl) os.drew.oc ?_
    replace os := os.drew
    generalize W.drew = W1 at *
    refine wpPl_qs 5 _ _ _ (by kernel_rfl) (by kernel_rfl) (by simp) ?_
    unfold clsS
    simp only [List.take_succ_cons, List.take_zero, List.drop_succ_cons, List.drop_zero, List.filterMap_cons, List.filterMap_nil, List.getElem?_toArray, List.getElem?_cons_zero, List.getElem?_cons_succ]
    repeat (first
      | go_big_quiet_skip
      | (go_big_quiet_want; first | (refine quiet_ldRow rfl rfl z5 Tryz.underlying32 fl_size ?_; go_simp; go_big_quiet_on) | (go_big_quiet_op; go_big_quiet_on))
      | (refine id (?_ : wpQuiet _ _ _ _ (_ :: _) _); first | go_big_quiet_skip | (go_big_quiet_want; first | (refine quiet_ldRow rfl rfl z5 Tryz.underlying32 fl_size ?_; go_simp; go_big_quiet_on) | (go_big_quiet_op; go_big_quiet_on))))
    refine wpQuiet_nil ?_
    have hlook := os.nm.fl.look hfr
    rw [hpo0.out] at hlook
    refine wpPl_e _ (by rfl) (by kernel_rfl) (fun K hK => ?_)
    refine wp_look rfl rfl rfl hlook ?_
    simp only [lookF, Option.getD_some, Option.isSome_some, Option.getD_none, Option.isSome_none]
    go_simp
    refine hK _ _ os.oc ?_
    clear hK K hlook
    refine wpPl_qs 5 _ _ _ (by kernel_rfl) (by kernel_rfl) (by simp) ?_
    unfold clsS
    simp only [List.take_succ_cons, List.take_zero, List.drop_succ_cons, List.drop_zero, List.filterMap_cons, List.filterMap_nil, List.getElem?_toArray, List.getElem?_cons_zero, List.getElem?_cons_succ]
    repeat (first
      | go_big_quiet_skip
      | (go_big_quiet_want; go_big_quiet_op; go_big_quiet_on)
      | (refine id (?_ : wpQuiet _ _ _ _ (_ :: _) _); first | go_big_quiet_skip | (go_big_quiet_want; go_big_quiet_op; go_big_quiet_on)))
    refine wpQuiet_nil ?_
    clear z2 z5 zz
    unfold wpPl
    refine NoPanic.normal ?_
    have hrW := rd_step hr hm (Nat.le_refl _) os.up
    have x1 := os.bx.cell 1
    go_wp2_with fail
    refine (kb.out _ (hrW.more os.up.size)).mono ?_
    rintro e W2 ⟨rfl, hb2⟩
    replace os := os.bel_ hb2
    clear x1
    have x3 := os.bx.cell 3
    have ba := os.ba
    go_wp2_with (refine wpList_stRow rfl rfl rfl rfl rfl ba an_size rfl (by simp [Value.oneCell']) ?_)
    have os2 := os.ans hlt1 hlt2 hlt3 #[.slice none 0 0, .int .i64 8]
    exact bodyPost_ret (results_row rfl _ rfl os2.ba Tryz.underlying55 an_size) rfl ⟨_, _, _, rfl, Own.nil _ _ _ _, os2.nm, Nat.le_succ _, Nat.le_succ _, os2.up⟩
  · rw [if_neg (by decide)]
    go_enter Tryz.func47, Tryz.ntmps47
    go_upto_region 1 with fail
    have os : OS w ((((w.alloc (.cells #[.bool ou, .slice xA xn xc, .int .i64 ti, .int .i64 (-2)] 57)).alloc (.cells #[.int .i64 f0, .int .u32 f1, .int .u16 f2] 32)).alloc (.cells pv0 107)).alloc (.cells #[.slice none 0 0, .int .i64 0] 55)) c gn pb fm np nf L #[.bool ou, .slice xA xn xc, .int .i64 ti, .int .i64 (-2)] #[.int .i64 f0, .int .u32 f1, .int .u16 f2] pv0 #[.slice none 0 0, .int .i64 0] := by
      have e1 : (w.alloc (.cells #[.bool ou, .slice xA xn xc, .int .i64 ti, .int .i64 (-2)] 57)).heap.size = w.heap.size + 1 := by simp
      have e2 : ((w.alloc (.cells #[.bool ou, .slice xA xn xc, .int .i64 ti, .int .i64 (-2)] 57)).alloc (.cells #[.int .i64 f0, .int .u32 f1, .int .u16 f2] 32)).heap.size = w.heap.size + 1 + 1 := by simp
      have e3 : (((w.alloc (.cells #[.bool ou, .slice xA xn xc, .int .i64 ti, .int .i64 (-2)] 57)).alloc (.cells #[.int .i64 f0, .int .u32 f1, .int .u16 f2] 32)).alloc (.cells pv0 107)).heap.size = w.heap.size + 1 + 1 + 1 := by simp
      have b1 := Blk.new w 57 #[.bool ou, .slice xA xn xc, .int .i64 ti, .int .i64 (-2)]
      have b2 := Blk.new (w.alloc (.cells #[.bool ou, .slice xA xn xc, .int .i64 ti, .int .i64 (-2)] 57)) 32 #[.int .i64 f0, .int .u32 f1, .int .u16 f2]
      have b3 := Blk.new ((w.alloc (.cells #[.bool ou, .slice xA xn xc, .int .i64 ti, .int .i64 (-2)] 57)).alloc (.cells #[.int .i64 f0, .int .u32 f1, .int .u16 f2] 32)) 107 pv0
      have b4 := Blk.new (((w.alloc (.cells #[.bool ou, .slice xA xn xc, .int .i64 ti, .int .i64 (-2)] 57)).alloc (.cells #[.int .i64 f0, .int .u32 f1, .int .u16 f2] 32)).alloc (.cells pv0 107)) 55 #[.slice none 0 0, .int .i64 0]
      rw [e1] at b2
      rw [e2] at b3
      rw [e3] at b4
      exact ⟨(((hm.alloc _).alloc _).alloc _).alloc _, ((b1.alloc _).alloc _).alloc _, (b2.alloc _).alloc _, b3.alloc _, b4, (((Upd.refl _ w).alloc _).alloc _).alloc _ |>.alloc _⟩
    generalize (((w.alloc (.cells #[.bool ou, .slice xA xn xc, .int .i64 ti, .int .i64 (-2)] 57)).alloc (.cells #[.int .i64 f0, .int .u32 f1, .int .u16 f2] 32)).alloc (.cells pv0 107)).alloc (.cells #[.slice none 0 0, .int .i64 0] 55) = W at *
    have z2 : ∀ t : Tw (OC c gn pb fm w.heap.size #[.bool ou, .slice xA xn xc, .int .i64 ti, .int .i64 (-2)] #[.int .i64 f0, .int .u32 f1, .int .u16 f2] pv0), t.w.cell? ⟨gn, 7, none⟩ = some (.map (some fm)) := fun t => t.h.obj.cell 7
    have z5 : ∀ w', (∃ t : Tw (OC c gn pb fm w.heap.size #[.bool ou, .slice xA xn xc, .int .i64 ti, .int .i64 (-2)] #[.int .i64 f0, .int .u32 f1, .int .u16 f2] pv0), w' = t.w) → Blk w' (w.heap.size + 1) 32 #[.int .i64 f0, .int .u32 f1, .int .u16 f2] := fun w' ⟨t, ht⟩ => ht ▸ t.h.bf
    have zz : Nonempty (Tw (OC c gn pb fm w.heap.size #[.bool ou, .slice xA xn xc, .int .i64 ti, .int .i64 (-2)] #[.int .i64 f0, .int .u32 f1, .int .u16 f2] pv0)) := ⟨⟨_, os.oc⟩⟩
    refine wp_region_plan (OC c gn pb fm w.heap.size #[.bool ou, .slice xA xn xc, .int .i64 ti, .int .i64 (-2)] #[.int .i64 f0, .int .u32 f1, .int .u16 f2] pv0) [(0, true), (1, true), (2, true), (3, true), (4, true), (5, false), (6, true), (7, true), (8, true), (9, true), (10, true)] (by kernel_rfl) (by kernel_rfl) (by kernel_rfl) (by kernel_rfl) os.drew.oc ?_
    replace os := os.drew
    generalize W.drew = W1 at *
    refine wpPl_qs 5 _ _ _ (by kernel_rfl) (by kernel_rfl) (by simp) ?_
    unfold clsS
    simp only [List.take_succ_cons, List.take_zero, List.drop_succ_cons, List.drop_zero, List.filterMap_cons, List.filterMap_nil, List.getElem?_toArray, List.getElem?_cons_zero, List.getElem?_cons_succ]
    repeat (first
      | go_big_quiet_skip
      | (go_big_quiet_want; first | (refine quiet_ldRow rfl rfl z5 Tryz.underlying32 fl_size ?_; go_simp; go_big_quiet_on) | (go_big_quiet_op; go_big_quiet_on))
      | (refine id (?_ : wpQuiet _ _ _ _ (_ :: _) _); first | go_big_quiet_skip | (go_big_quiet_want; first | (refine quiet_ldRow rfl rfl z5 Tryz.underlying32 fl_size ?_; go_simp; go_big_quiet_on) | (go_big_quiet_op; go_big_quiet_on))))
    refine wpQuiet_nil ?_
    have hlook := os.nm.fl.look hfr
    rw [hpo0.out] at hlook
    refine wpPl_e _ (by rfl) (by kernel_rfl) (fun K hK => ?_)
    refine wp_look rfl rfl rfl hlook ?_
    simp only [lookF, Option.getD_some, Option.isSome_some, Option.getD_none, Option.isSome_none]
    go_simp
    refine hK _ _ os.oc ?_
    clear hK K hlook
    refine wpPl_qs 5 _ _ _ (by kernel_rfl) (by kernel_rfl) (by simp) ?_
    unfold clsS
    simp only [List.take_succ_cons, List.take_zero, List.drop_succ_cons, List.drop_zero, List.filterMap_cons, List.filterMap_nil, List.getElem?_toArray, List.getElem?_cons_zero, List.getElem?_cons_succ]
    repeat (first
      | go_big_quiet_skip
      | (go_big_quiet_want; go_big_quiet_op; go_big_quiet_on)
      | (refine id (?_ : wpQuiet _ _ _ _ (_ :: _) _); first | go_big_quiet_skip | (go_big_quiet_want; go_big_quiet_op; go_big_quiet_on)))
    refine wpQuiet_nil ?_
    clear z2 z5 zz
    unfold wpPl
    refine NoPanic.normal ?_
    have hrW := rd_step hr hm (Nat.le_refl _) os.up
    have x1 := os.bx.cell 1
    go_wp2_with fail
    refine (kb.out _ (hrW.more os.up.size)).mono ?_
    rintro e W2 ⟨rfl, hb2⟩
    replace os := os.bel_ hb2
    clear x1
    have x3 := os.bx.cell 3
    have ba := os.ba
    go_wp2_with (refine wpList_stRow rfl rfl rfl rfl rfl ba an_size rfl (by simp [Value.oneCell']) ?_)
    have os2 := os.ans hlt1 hlt2 hlt3 #[.slice none 0 0, .int .i64 9]
    exact bodyPost_ret (results_row rfl _ rfl os2.ba Tryz.underlying55 an_size) rfl ⟨_, _, _, rfl, Own.nil _ _ _ _, os2.nm, Nat.le_succ _, Nat.le_succ _, os2.up⟩
end Go.Proofs.YtbckoohljkmahaaGreat
namespace Go.Proofs.YtbckoohljkmahaaGreat
set_option linter.unusedVariables false
set_option linter.unusedSimpArgs false
open Go.RowKit
variable {α : Type}
/-- the cells of an element, in a row -/
theorem flat_at {cs : α → List Value} {sz : Nat} (hs : ∀ x, (cs x).length = sz) : ∀ (l : List α) (j f : Nat) (x : α), l[j]? = some x → f < sz → (l.flatMap cs)[j * sz + f]? = (cs x)[f]?
  | [], j, f, x, h, _ => by simp at h
  | y :: l, 0, f, x, h, hf => by
      simp only [List.getElem?_cons_zero, Option.some.injEq] at h
      subst h
      rw [List.flatMap_cons, Nat.zero_mul, Nat.zero_add, List.getElem?_append_left (by rw [hs]; omega)]
  | y :: l, j + 1, f, x, h, hf => by
      simp only [List.getElem?_cons_succ] at h
      rw [List.flatMap_cons, List.getElem?_append_right (by rw [hs, Nat.add_mul]; omega)]
      have := flat_at hs l j f x h hf
      rw [hs]
      rw [show (j + 1) * sz + f - sz = j * sz + f by rw [Nat.add_mul]; omega]
      exact this
theorem flat_len {cs : α → List Value} {sz : Nat} (hs : ∀ x, (cs x).length = sz) : ∀ (l : List α), (l.flatMap cs).length = l.length * sz
  | [] => by simp
  | y :: l => by rw [List.flatMap_cons, List.length_append, hs, flat_len hs l, List.length_cons, Nat.add_mul]; omega
theorem flat_split {cs : α → List Value} {sz : Nat} (hs : ∀ x, (cs x).length = sz) (h0 : 0 < sz) (l : List α) (j : Nat) (u : Value) (h : (l.flatMap cs)[j]? = some u) : ∃ x, l[j / sz]? = some x ∧ (cs x)[j % sz]? = some u := by
  have hj : j < l.length * sz := by
    obtain ⟨h1, _⟩ := List.getElem?_eq_some_iff.1 h
    rwa [flat_len hs] at h1
  have hd : j / sz < l.length := Nat.div_lt_of_lt_mul (by rw [Nat.mul_comm]; exact hj)
  refine ⟨l[j / sz], List.getElem?_eq_getElem hd, ?_⟩
  have := flat_at hs l (j / sz) (j % sz) _ (List.getElem?_eq_getElem hd) (Nat.mod_lt _ h0)
  rw [show j / sz * sz + j % sz = j by rw [Nat.mul_comm]; exact Nat.div_add_mod j sz] at this
  rw [← this, h]
/-- the slice (A, n) holds the elements l, below block B -/
structure RdT (cs : α → List Value) (sz : Nat) (w : World) (B : Nat) (A : Option Addr) (n : Nat) (l : List α) : Prop where
  len : l.length = n
  cel : 0 < n → ∃ b o, A = some ⟨b, o, none⟩ ∧ b < B ∧ ∀ j x, l[j]? = some x → ∀ f u, (cs x)[f]? = some u → w.cell? ⟨b, o + j * sz + f, none⟩ = some u
section
variable {cs : α → List Value} {sz : Nat} {w w' : World} {B B' n : Nat} {A : Option Addr} {l : List α}
/-- a block that was just laid, with exactly these cells -/
theorem RdT.new (hs : ∀ x, (cs x).length = sz) (w : World) (t : TypeId) (l : List α) (a : Array Value) (ha : a = (l.flatMap cs).toArray) (n : Nat) (hn : l.length = n) :
    RdT cs sz (w.alloc (.cells a t)) (w.heap.size + 1) (some ⟨w.heap.size, 0, none⟩) n l := by
  subst ha
  refine ⟨hn, fun h0 => ⟨_, 0, rfl, by omega, fun j x hj f u hu => ?_⟩⟩
  rw [cell_of_row _ _ _ _ _ _ (heap_alloc_new w _)]
  have hf : f < sz := by rw [← hs x]; exact (List.getElem?_eq_some_iff.1 hu).1
  have := flat_at hs l j f x hj hf
  rw [Nat.zero_add]
  simp only [List.getElem?_toArray]
  rw [this, hu]
end
/-- a row of the call's own that holds the elements l -/
structure OwnT (cs : α → List Value) (sz : Nat) (e : TypeId) (w : World) (base : Nat) (v : Value) (l : List α) : Prop where
  row : w.ownsRow base e sz v l.length (l.flatMap cs)
section
variable {cs : α → List Value} {sz : Nat} {w w' : World} {e : TypeId} {base : Nat} {v : Value} {l : List α}
theorem OwnT.form (h : OwnT cs sz e w base v l) {n : Nat} (hn : l.length = n) : ∃ A c, v = .slice A n c ∧ n ≤ c ∧ c ≤ maxLen := by
  subst hn
  rcases h.row.2 with ⟨rfl, h0⟩ | ⟨g, cap, cur, rfl, hg, hh, hnc, hcm, hcs, hx⟩
  · rw [h0]; exact ⟨none, 0, rfl, Nat.le_refl _, Nat.zero_le _⟩
  · exact ⟨_, cap, rfl, hnc, hcm⟩
theorem OwnT.formG (h : OwnT cs sz e w base v l) {n : Nat} (hn : l.length = n) (h0 : 0 < n) :
    ∃ g c, v = .slice (some ⟨g, 0, none⟩) n c ∧ n ≤ c ∧ c ≤ maxLen ∧ base ≤ g ∧ g < w.heap.size ∧ ∃ cur, w.heap[g]? = some (.cells cur e (0, 0)) := by
  subst hn
  rcases h.row.2 with ⟨rfl, h1⟩ | ⟨g, cap, cur, rfl, hg, hh, hnc, hcm, hcs, hx⟩
  · omega
  · exact ⟨g, cap, rfl, hnc, hcm, hg, (h.row.lt g rfl).2, cur, hh⟩
theorem OwnT.lt (h : OwnT cs sz e w base v l) : ∀ g, v.ownBlock = some g → base ≤ g ∧ g < w.heap.size := h.row.lt
theorem OwnT.keep (h : OwnT cs sz e w base v l) {row : Option Nat} (hg : w.grownBy w' row) (hne : v.ownBlock = none ∨ v.ownBlock ≠ row) : OwnT cs sz e w' base v l := ⟨h.row.kept hg hne⟩
theorem OwnT.drew (h : OwnT cs sz e w base v l) : OwnT cs sz e w.drew base v l := ⟨h.row⟩
theorem OwnT.below (h : OwnT cs sz e w base v l) (hb : Below w.heap.size w w') : OwnT cs sz e w' base v l := by
  refine h.keep (row := none) ⟨hb.os, hb.tape, hb.output, hb.size, fun k hk _ => hb.block k hk⟩ ?_
  cases hv : v.ownBlock
  · exact .inl rfl
  · exact .inr (by simp)
theorem OwnT.upd {S : Nat → Prop} (h : OwnT cs sz e w base v l) (hu : Upd S w w') (hS : ∀ g, v.ownBlock = some g → ¬ S g) : OwnT cs sz e w' base v l := by
  refine ⟨h.row.1, ?_⟩
  rcases h.row.2 with hn | ⟨g, cap, cur, rfl, hb, hgg, rest⟩
  · exact .inl hn
  · refine .inr ⟨g, cap, cur, rfl, hb, ?_, rest⟩
    rw [hu.block g (Array.getElem?_eq_some_iff.1 hgg).1 (hS g rfl)]
    exact hgg
theorem OwnT.at_ {g n c : Nat} (hs : ∀ x, (cs x).length = sz) (h : OwnT cs sz e w base (.slice (some ⟨g, 0, none⟩) n c) l) {j : Nat} {x : α} (hj : l[j]? = some x) {f : Nat} {u : Value} (hu : (cs x)[f]? = some u) :
    w.cell? ⟨g, j * sz + f, none⟩ = some u := by
  have hf : f < sz := by rw [← hs x]; exact (List.getElem?_eq_some_iff.1 hu).1
  have h1 := flat_at hs l j f x hj hf
  have hc := h.row.cells (g := g) rfl (j * sz + f) u (by rw [h1, hu])
  rw [← hc]
  unfold Addr.add
  split <;> simp_all
theorem OwnT.rd (hs : ∀ x, (cs x).length = sz) (h : OwnT cs sz e w base v l) {n c : Nat} {A : Option Addr} (hv : v = .slice A n c) (hn : l.length = n) : RdT cs sz w w.heap.size A n l := by
  refine ⟨hn, fun h0 => ?_⟩
  obtain ⟨g, c', h1, _, _, _, h2, _⟩ := h.formG hn h0
  rw [h1] at hv
  simp only [Value.slice.injEq] at hv
  refine ⟨g, 0, hv.1.symm, h2, fun j x hj f u hu => ?_⟩
  subst h1
  rw [Nat.zero_add]
  exact h.at_ hs hj hu
end
section
variable {P : Program} {cs : α → List Value} {sz : Nat}
/-- 'append(own, src...)': the source is a slice that reads as a list, nil or not -/
theorem run_appT (hs : ∀ x, (cs x).length = sz) (h1c : ∀ x, ∀ u ∈ cs x, u.oneCell' = true) (hsz : 0 < sz) (w : World) (base : Nat) (t ty e : TypeId) (i : TypeInfo) (z : Value) (bytes : Nat) (ht : P.underlying t = some (.slice e)) (hi : P.info? e = some i) (hz : i.zero = some z)
    (hsize : i.size = sz) (hby : i.bytes = bytes) (hzs : z.cells.size = sz) (v : Value) (l : List α) (hown : OwnT cs sz e w base v l)
    (B : Nat) (A : Option Addr) (m c : Nat) (l2 : List α) (hr : RdT cs sz w B A m l2) (hlen : (l.length + m) * bytes ≤ 140737488355328) (hbp : 0 < bytes) (hbase : base ≤ w.heap.size) :
    ∃ v' w', (Builtin.append_ #[t, t] ty #[v, .slice A m c]).run P w = .ok v' w' ∧ OwnT cs sz e w' base v' (l ++ l2) ∧ w.grownBy w' v.ownBlock ∧ (v'.ownBlock = v.ownBlock ∨ v'.ownBlock = some w.heap.size) := by
  have hl := hr.len
  have h63 : l.length + m ≤ maxLen := by
    have := Nat.le_mul_of_pos_right (l.length + m) hbp
    unfold maxLen; omega
  have main : ∀ ad : Addr, (∀ j u, (l2.flatMap cs)[j]? = some u → w.cell? (ad.add j) = some u) → ∃ v' w', (Builtin.append_ #[t, t] ty #[v, .slice (some ad) m c]).run P w = .ok v' w' ∧ OwnT cs sz e w' base v' (l ++ l2) ∧ w.grownBy w' v.ownBlock ∧ (v'.ownBlock = v.ownBlock ∨ v'.ownBlock = some w.heap.size) := by
    intro ad hc
    obtain ⟨v', w', h1, h2, h3, _, h5⟩ := run_append_own_at (P := P) w base t ty e i z sz bytes ht hi hz hsize hby hzs hsz v l.length (l.flatMap cs) hown.row ad m c (l2.flatMap cs) (by rw [flat_len hs, hl]) hc
      (by intro u hu; obtain ⟨x, _, hx⟩ := List.mem_flatMap.1 hu; exact h1c x u hx) h63 hlen hbase
    exact ⟨v', w', h1, ⟨by rw [List.length_append, List.flatMap_append, hl]; exact h2⟩, h3, h5⟩
  rcases Nat.eq_zero_or_pos m with h0 | h0
  · subst h0
    have e2 : l2 = [] := List.length_eq_zero_iff.mp hl
    subst e2
    cases A with
    | some ad => exact main ad (by simp)
    | none =>
      refine ⟨v, w, ?_, by simpa using hown, World.grownBy.refl w _, .inl rfl⟩
      rcases hown.row.2 with ⟨rfl, h⟩ | ⟨g, cap, cur, rfl, _, _, hnc, _⟩
      · simp [Builtin.append_, run_underlying ht, sizeOf, typeInfo, hi, Builtin.lenOf, Builtin.firstCells]
      · simp [Builtin.append_, run_underlying ht, sizeOf, typeInfo, hi, Builtin.lenOf, Builtin.firstCells, hnc, storeCells]
  · obtain ⟨b, o, rfl, hb, hc⟩ := hr.cel h0
    refine main ⟨b, o, none⟩ fun j u hu => ?_
    obtain ⟨x, hx, hu2⟩ := flat_split hs hsz l2 j u hu
    have := hc _ x hx _ u hu2
    rw [← this]
    have e1 : o + j / sz * sz + j % sz = o + j := by
      have := Nat.div_add_mod j sz
      rw [Nat.mul_comm] at this; omega
    rw [e1]
    unfold Addr.add
    split
    · rename_i h; subst h; simp
    · rfl
theorem wpList_appT (hs : ∀ x, (cs x).length = sz) (h1c : ∀ x, ∀ u ∈ cs x, u.oneCell' = true) (hsz : 0 < sz) {ops : Array Oper} {rest : List Oper} {o : Oper} {a : Act} {Q : Exit → Act → World → Prop} (w : World) (hgd : o.guard = none) (s x : Operand) (t : TypeId)
    (ho : o.op = .call { callee := .builtin .append, args := #[s, x], argTypes := #[t, t] })
    (base : Nat) (e : TypeId) (i : TypeInfo) (z : Value) (bytes : Nat) (ht : P.underlying t = some (.slice e)) (hi : P.info? e = some i) (hz : i.zero = some z)
    (hsize : i.size = sz) (hby : i.bytes = bytes) (hzs : z.cells.size = sz) (v : Value) (hsv : a.eval s = v) (l : List α) (hown : OwnT cs sz e w base v l)
    (B : Nat) (A : Option Addr) (m c : Nat) (hx : a.eval x = .slice A m c) (l2 : List α) (hr : RdT cs sz w B A m l2) (hlen : (l.length + m) * bytes ≤ 140737488355328) (hbp : 0 < bytes) (hbase : base ≤ w.heap.size)
    (h : ∀ v' w', OwnT cs sz e w' base v' (l ++ l2) → w.grownBy w' v.ownBlock → (v'.ownBlock = v.ownBlock ∨ v'.ownBlock = some w.heap.size) → wpList P ops Q rest (a.put o.dst v') w') : wpList P ops Q (o :: rest) a w := by
  refine wpList_plain hgd fun K hK => ?_
  obtain ⟨v', w', hrun, h2, h3, h4⟩ := run_appT (P := P) hs h1c hsz w base t o.type e i z bytes ht hi hz hsize hby hzs v l hown B A m c l2 hr hlen hbp hbase
  unfold Oper.wp execOp
  simp only [ho, resolve, invoke, builtin, Sem.run_bind, Sem.run_pure, Result.andThen_ok, List.map_toArray, List.map_cons, List.map_nil, hsv, hx, hrun]
  exact hK _ _ (h v' w' h2 h3 h4)
end
end Go.Proofs.YtbckoohljkmahaaGreat
namespace Go.Proofs.YtbckoohljkmahaaGreat
set_option linter.unusedVariables false
set_option linter.unusedSimpArgs false
open Go.RowKit
variable {α : Type} {P : Program}
theorem run_load_at {w : World} {g o : Nat} {ty : TypeId} {cs : List Value} (h : ∀ j u, cs[j]? = some u → w.cell? ⟨g, o + j, none⟩ = some u) {fs : Array Field} (hu : P.underlying ty = some (.struct fs)) (hi : (P.info? ty).map (·.size) = some cs.length) :
    (loadVar ty ⟨g, o, none⟩).run P w = .ok (.agg cs.toArray) w := by
  have hl : (loadCells ⟨g, o, none⟩ cs.length).run P w = .ok cs.toArray w :=
    run_loadCells_list (P := P) w ⟨g, o, none⟩ cs (fun j v hv => by
      have hadd : (⟨g, o, none⟩ : Addr).add j = ⟨g, o + j, none⟩ := by unfold Addr.add; split <;> simp_all
      rw [hadd]; exact h j v hv)
  cases hq : P.info? ty with
  | none => simp [hq] at hi
  | some i =>
    have hs : i.size = cs.length := by simpa [hq] using hi
    have hagg : (isAgg ty).run P w = .ok true w := by
      unfold isAgg
      rw [Sem.run_bind, run_underlying hu w]
      simp
    simp [loadVar, Sem.run_bind, hagg, sizeOf, typeInfo, hq, hs, hl]
theorem wpList_ldAt {ops : Array Oper} {Q : Exit → Act → World → Prop} {a : Act} {w : World} {rest : List Oper} {o : Oper} (hg : o.guard = none) {t : TypeId} {p : Operand} (ho : o.op = .load t p) {g i : Nat} (hp : a.eval p = .pointer (some ⟨g, i, none⟩)) {cs : List Value}
    (hc : ∀ j u, cs[j]? = some u → w.cell? ⟨g, i + j, none⟩ = some u) {fs : Array Field} (hu : P.underlying t = some (.struct fs)) (hi : (P.info? t).map (·.size) = some cs.length) (h : wpList P ops Q rest (a.put o.dst (.agg cs.toArray)) w) : wpList P ops Q (o :: rest) a w := by
  refine wpList_plain hg fun K hK => ?_
  have hr : (execOp a.eval o).run P w = .ok (.value (.agg cs.toArray)) w := by
    have h2 := run_load_at (P := P) hc hu hi
    simp only [execOp, ho, hp, Instr.loadAt, Instr.sureAddr, Sem.run_bind, Sem.run_pure, Result.andThen, h2]
  unfold Oper.wp
  rw [hr, Oper.upon_value]
  exact hK _ _ h
theorem quiet_ldAt {o : Oper} {a : Act} {C : World → Prop} {K : Act → Prop} {t : TypeId} {p : Operand} (ho : o.op = .load t p) {g i : Nat} (hp : a.eval p = .pointer (some ⟨g, i, none⟩)) {cs : List Value} (h : ∀ w, C w → ∀ j u, cs[j]? = some u → w.cell? ⟨g, i + j, none⟩ = some u) {fs : Array Field} (hu : P.underlying t = some (.struct fs)) (hi : (P.info? t).map (·.size) = some cs.length)
    (hk : K (a.put o.dst (.agg cs.toArray))) : o.quiet P a C K :=
  quiet_run _ (fun w hw => by
    have h2 := run_load_at (P := P) (h w hw) hu hi
    simp only [execOp, ho, hp, Instr.loadAt, Instr.sureAddr, Sem.run_bind, Sem.run_pure, Result.andThen, h2]) hk
end Go.Proofs.YtbckoohljkmahaaGreat
namespace Go.Proofs.YtbckoohljkmahaaGreat
set_option linter.unusedVariables false
set_option linter.unusedSimpArgs false
open Go.RowKit Go.Maps
set_option maxRecDepth 100000 in
set_option maxHeartbeats 8000000 in
theorem out_bad (c : Cf) (gn pb fm np nf : Nat) (L : List Bd) (ou : Bool) (xA : Option Addr) (xn xc : Nat) (ti po : Int) (f : Fl) (p : Pt) (l : List Int) (w : World) (hm : NatM w c gn pb fm np nf L) (hc : c.ok) (hfr : f.rng) (hb : ofB f L = none)
    (hbg : begP true l = true) (hp1 : po ≠ -1) (hp2 : po ≠ -2) (hbad : placeP c f.pr po < 0 ∨ (atB c (placeP c f.pr po) L).isSome = true) (hr : Rd .u8 w w.heap.size xA xn l) (hlc : xn ≤ xc) (hcm : xc ≤ 9223372036854775807) (hl : xn ≤ 60000) :
    Calls Tryz.prog 47 #[.pointer (some ⟨gn, 0, none⟩), .agg #[.bool ou, .slice xA xn xc, .int .i64 ti, .int .i64 po], .agg f.cs, p.val] w (AnsR w c gn pb fm np nf L 1 []) := by
  have hpo0 : plOf c L f = none := by unfold plOf; rw [hb]; rfl
  have hlt1 := hm.obj.lt
  have hlt2 := hm.pl.lt
  have hlt3 := hm.fl.lt
  have kb := fun W (hr : Rd .u8 W W.heap.size xA xn l) => Begins2_any true l xA xn xc W hr hlc hcm hl
  obtain ⟨pv0, hpv⟩ : ∃ pv0, p.val = .agg pv0 := ⟨_, rfl⟩
  rw [hpv]
  replace hpo0 := Lib.hid hpo0
  rw [hbg] at kb
  have kp := fun W => Place_ok c f.pr po W hc
  have hkr := placeP_rng hc f.pr po
  have d1 : (po == -1) = false := by simpa using hp1
  have d2 : (po == -2) = false := by simpa using hp2
  clear hp1 hp2
  replace kb := Lib.hid kb
  have hps : (Tryz.prog.info? 107).map (·.size) = some pv0.size ∧ pv0[3]? = some (.int .i64 p.flags) := by
    obtain ⟨pr, sr, ds, fl, ki, co, er, ⟨isz, i1, i2, i3, i4, i5⟩, pat, ba⟩ := p
    simp only [Pt.val, Value.agg.injEq] at hpv
    rw [← hpv]; exact ⟨pt_size, rfl⟩
  clear hpv
  obtain ⟨f0, f1, f2⟩ := f
  simp only [Fl.cs] at *
  generalize hPL : placeP c f0 po = PL at *
  replace kp := Lib.hid kp
  replace hPL := Lib.hid hPL
  replace hps := Lib.hid hps
  go_enter Tryz.func47, Tryz.ntmps47
  go_upto_region 1 with fail
  have os : OS w ((((w.alloc (.cells #[.bool ou, .slice xA xn xc, .int .i64 ti, .int .i64 po] 57)).alloc (.cells #[.int .i64 f0, .int .u32 f1, .int .u16 f2] 32)).alloc (.cells pv0 107)).alloc (.cells #[.slice none 0 0, .int .i64 0] 55)) c gn pb fm np nf L #[.bool ou, .slice xA xn xc, .int .i64 ti, .int .i64 po] #[.int .i64 f0, .int .u32 f1, .int .u16 f2] pv0 #[.slice none 0 0, .int .i64 0] := by
    have e1 : (w.alloc (.cells #[.bool ou, .slice xA xn xc, .int .i64 ti, .int .i64 po] 57)).heap.size = w.heap.size + 1 := by simp
    have e2 : ((w.alloc (.cells #[.bool ou, .slice xA xn xc, .int .i64 ti, .int .i64 po] 57)).alloc (.cells #[.int .i64 f0, .int .u32 f1, .int .u16 f2] 32)).heap.size = w.heap.size + 1 + 1 := by simp
    have e3 : (((w.alloc (.cells #[.bool ou, .slice xA xn xc, .int .i64 ti, .int .i64 po] 57)).alloc (.cells #[.int .i64 f0, .int .u32 f1, .int .u16 f2] 32)).alloc (.cells pv0 107)).heap.size = w.heap.size + 1 + 1 + 1 := by simp
    have b1 := Blk.new w 57 #[.bool ou, .slice xA xn xc, .int .i64 ti, .int .i64 po]
    have b2 := Blk.new (w.alloc (.cells #[.bool ou, .slice xA xn xc, .int .i64 ti, .int .i64 po] 57)) 32 #[.int .i64 f0, .int .u32 f1, .int .u16 f2]
    have b3 := Blk.new ((w.alloc (.cells #[.bool ou, .slice xA xn xc, .int .i64 ti, .int .i64 po] 57)).alloc (.cells #[.int .i64 f0, .int .u32 f1, .int .u16 f2] 32)) 107 pv0
    have b4 := Blk.new (((w.alloc (.cells #[.bool ou, .slice xA xn xc, .int .i64 ti, .int .i64 po] 57)).alloc (.cells #[.int .i64 f0, .int .u32 f1, .int .u16 f2] 32)).alloc (.cells pv0 107)) 55 #[.slice none 0 0, .int .i64 0]
    rw [e1] at b2
    rw [e2] at b3
    rw [e3] at b4
    exact ⟨(((hm.alloc _).alloc _).alloc _).alloc _, ((b1.alloc _).alloc _).alloc _, (b2.alloc _).alloc _, b3.alloc _, b4, (((Upd.refl _ w).alloc _).alloc _).alloc _ |>.alloc _⟩
  generalize (((w.alloc (.cells #[.bool ou, .slice xA xn xc, .int .i64 ti, .int .i64 po] 57)).alloc (.cells #[.int .i64 f0, .int .u32 f1, .int .u16 f2] 32)).alloc (.cells pv0 107)).alloc (.cells #[.slice none 0 0, .int .i64 0] 55) = W at *
  have z2 : ∀ t : Tw (OC c gn pb fm w.heap.size #[.bool ou, .slice xA xn xc, .int .i64 ti, .int .i64 po] #[.int .i64 f0, .int .u32 f1, .int .u16 f2] pv0), t.w.cell? ⟨gn, 7, none⟩ = some (.map (some fm)) := fun t => t.h.obj.cell 7
  have z5 : ∀ w', (∃ t : Tw (OC c gn pb fm w.heap.size #[.bool ou, .slice xA xn xc, .int .i64 ti, .int .i64 po] #[.int .i64 f0, .int .u32 f1, .int .u16 f2] pv0), w' = t.w) → Blk w' (w.heap.size + 1) 32 #[.int .i64 f0, .int .u32 f1, .int .u16 f2] := fun w' ⟨t, ht⟩ => ht ▸ t.h.bf
  have zz : Nonempty (Tw (OC c gn pb fm w.heap.size #[.bool ou, .slice xA xn xc, .int .i64 ti, .int .i64 po] #[.int .i64 f0, .int .u32 f1, .int .u16 f2] pv0)) := ⟨⟨_, os.oc⟩⟩
  refine wp_region_plan (OC c gn pb fm w.heap.size #[.bool ou, .slice xA xn xc, .int .i64 ti, .int .i64 po] #[.int .i64 f0, .int .u32 f1, .int .u16 f2] pv0) [(0, true), (1, true), (2, true), (3, true), (4, true), (5, false), (6, true), (7, true), (8, true), (9, true), (10, true)] (by kernel_rfl) (by kernel_rfl) (by kernel_rfl) (by kernel_rfl) os.drew.oc ?_
  replace os := os.drew
  generalize W.drew = W1 at *
  refine wpPl_qs 5 _ _ _ (by kernel_rfl) (by kernel_rfl) (by simp) ?_
  unfold clsS
  simp only [List.take_succ_cons, List.take_zero, List.drop_succ_cons, List.drop_zero, List.filterMap_cons, List.filterMap_nil, List.getElem?_toArray, List.getElem?_cons_zero, List.getElem?_cons_succ]
  repeat (first
    | go_big_quiet_skip
    | (go_big_quiet_want; first | (refine quiet_ldRow rfl rfl z5 Tryz.underlying32 fl_size ?_; go_simp; go_big_quiet_on) | (go_big_quiet_op; go_big_quiet_on))
    | (refine id (?_ : wpQuiet _ _ _ _ (_ :: _) _); first | go_big_quiet_skip | (go_big_quiet_want; first | (refine quiet_ldRow rfl rfl z5 Tryz.underlying32 fl_size ?_; go_simp; go_big_quiet_on) | (go_big_quiet_op; go_big_quiet_on))))
  refine wpQuiet_nil ?_
  have hlook := os.nm.fl.look hfr
  rw [hpo0.out] at hlook
  refine wpPl_e _ (by rfl) (by kernel_rfl) (fun K hK => ?_)
  refine wp_look rfl rfl rfl hlook ?_
  simp only [lookF, Option.getD_some, Option.isSome_some, Option.getD_none, Option.isSome_none]
  go_simp
  refine hK _ _ os.oc ?_
  clear hK K hlook
  refine wpPl_qs 5 _ _ _ (by kernel_rfl) (by kernel_rfl) (by simp) ?_
  unfold clsS
  simp only [List.take_succ_cons, List.take_zero, List.drop_succ_cons, List.drop_zero, List.filterMap_cons, List.filterMap_nil, List.getElem?_toArray, List.getElem?_cons_zero, List.getElem?_cons_succ]
  repeat (first
    | go_big_quiet_skip
    | (go_big_quiet_want; go_big_quiet_op; go_big_quiet_on)
    | (refine id (?_ : wpQuiet _ _ _ _ (_ :: _) _); first | go_big_quiet_skip | (go_big_quiet_want; go_big_quiet_op; go_big_quiet_on)))
  refine wpQuiet_nil ?_
  clear z2 z5 zz
  unfold wpPl
  refine NoPanic.normal ?_
  have hrW := rd_step hr hm (Nat.le_refl _) os.up
  have x1 := os.bx.cell 1
  go_wp2_with fail
  refine (kb.out _ (hrW.more os.up.size)).mono ?_
  rintro e W2 ⟨rfl, hb2⟩
  replace os := os.bel_ hb2
  clear x1 hrW hb2 kb
  have x3 := os.bx.cell 3
  go_upto_region 12 with fail
  clear x3
  have z1 : ∀ w', (∃ t : Tw (OC c gn pb fm w.heap.size #[.bool ou, .slice xA xn xc, .int .i64 ti, .int .i64 po] #[.int .i64 f0, .int .u32 f1, .int .u16 f2] pv0), w' = t.w) → ∀ j u, ([.int .i64 c.wk, .int .u32 c.ou, .int .i64 c.lo, .int .i64 c.hi, .int .i64 c.bk, .int .i64 c.rg] : List Value)[j]? = some u → w'.cell? ⟨gn, 0 + j, none⟩ = some u := fun w' ⟨t, ht⟩ j u hu => by
    rw [ht, Nat.zero_add, t.h.obj.cell]
    match j with
    | 0 | 1 | 2 | 3 | 4 | 5 => exact hu
    | j + 6 => simp at hu
  have z2 : ∀ t : Tw (OC c gn pb fm w.heap.size #[.bool ou, .slice xA xn xc, .int .i64 ti, .int .i64 po] #[.int .i64 f0, .int .u32 f1, .int .u16 f2] pv0), t.w.cell? ⟨w.heap.size + 1, 0, none⟩ = some (.int .i64 f0) := fun t => t.h.bf.cell 0
  have z3 : ∀ t : Tw (OC c gn pb fm w.heap.size #[.bool ou, .slice xA xn xc, .int .i64 ti, .int .i64 po] #[.int .i64 f0, .int .u32 f1, .int .u16 f2] pv0), t.w.cell? ⟨w.heap.size, 3, none⟩ = some (.int .i64 po) := fun t => t.h.bx.cell 3
  have zz : Nonempty (Tw (OC c gn pb fm w.heap.size #[.bool ou, .slice xA xn xc, .int .i64 ti, .int .i64 po] #[.int .i64 f0, .int .u32 f1, .int .u16 f2] pv0)) := ⟨⟨_, os.oc⟩⟩
  refine wp_region_plan (OC c gn pb fm w.heap.size #[.bool ou, .slice xA xn xc, .int .i64 ti, .int .i64 po] #[.int .i64 f0, .int .u32 f1, .int .u16 f2] pv0) [(0, true), (1, true), (2, true), (3, true), (4, true), (5, true), (6, true), (7, true), (8, false), (9, true)] (by kernel_rfl) (by kernel_rfl) (by kernel_rfl) (by kernel_rfl) os.drew.oc ?_
  replace os := os.drew
  generalize W2.drew = W3 at *
  refine wpPl_qs 8 _ _ _ (by kernel_rfl) (by kernel_rfl) (by simp) ?_
  unfold clsS
  simp only [List.take_succ_cons, List.take_zero, List.drop_succ_cons, List.drop_zero, List.filterMap_cons, List.filterMap_nil, List.getElem?_toArray, List.getElem?_cons_zero, List.getElem?_cons_succ]
  repeat (first
    | go_big_quiet_skip
    | (go_big_quiet_want; first | (refine quiet_ldAt rfl rfl z1 Tryz.underlying36 cf_size ?_; go_simp; go_big_quiet_on) | (go_big_quiet_op; go_big_quiet_on))
    | (refine id (?_ : wpQuiet _ _ _ _ (_ :: _) _); first | go_big_quiet_skip | (go_big_quiet_want; first | (refine quiet_ldAt rfl rfl z1 Tryz.underlying36 cf_size ?_; go_simp; go_big_quiet_on) | (go_big_quiet_op; go_big_quiet_on))))
  refine wpQuiet_nil ?_
  refine wpPl_e _ (by rfl) (by kernel_rfl) (fun K hK => ?_)
  go_simp
  refine (kp.out _).mono ?_
  rintro e W4 ⟨rfl, hb4⟩
  replace os := os.bel_ hb4
  refine hK _ _ os.oc ?_
  clear hK K hb4 kp
  refine wpPl_qs 1 _ _ _ (by kernel_rfl) (by kernel_rfl) (by simp) ?_
  unfold clsS
  simp only [List.take_succ_cons, List.take_zero, List.drop_succ_cons, List.drop_zero, List.filterMap_cons, List.filterMap_nil, List.getElem?_toArray, List.getElem?_cons_zero, List.getElem?_cons_succ]
  repeat (first
    | go_big_quiet_skip
    | (go_big_quiet_want; go_big_quiet_op; go_big_quiet_on)
    | (refine id (?_ : wpQuiet _ _ _ _ (_ :: _) _); first | go_big_quiet_skip | (go_big_quiet_want; go_big_quiet_op; go_big_quiet_on)))
  refine wpQuiet_nil ?_
  unfold wpPl
  refine NoPanic.normal ?_
  clear z1 z2 z3 zz
  have hlook := os.nm.pl.look hkr
  have q6 := os.nm.obj.cell 6
  rcases hat : atB c PL L with _ | ⟨⟨b0, b1, b2⟩, b3, b4, b5⟩
  · rw [hat] at hlook
    have hneg : PL < 0 := by
      rcases hbad with h | h
      · exact h
      · rw [hat] at h; simp at h
    simp only [lookB] at hlook
    clear hbad
    have bb := Blk.new W4 63 #[.int .i64 0, .int .u32 0, .int .u16 0, .int .i64 0, .int .i64 0, .int .i64 0]
    have os2 := os.bel_ (below_setRow (bel_alloc W4 (.cells #[.int .i64 0, .int .u32 0, .int .u16 0, .int .i64 0, .int .i64 0, .int .i64 0] 63)) (Nat.le_refl _) #[.int .i64 0, .int .u32 0, .int .u16 0, .int .i64 0, .int .i64 0, .int .i64 0])
    have d3 : decide (PL < 0) = true := by simpa using hneg
    go_upto_region 15 with (first
      | (refine wpList_look rfl rfl rfl rfl hlook ?_)
      | (refine wpList_stRow rfl rfl rfl rfl rfl (Blk.new W4 _ _) bd_size rfl (by simp [Value.oneCell']) ?_; generalize (W4.alloc (.cells #[.int .i64 0, .int .u32 0, .int .u16 0, .int .i64 0, .int .i64 0, .int .i64 0] 63)).setRow W4.heap.size #[.int .i64 0, .int .u32 0, .int .u16 0, .int .i64 0, .int .i64 0, .int .i64 0] = W5 at *; generalize W4.heap.size = gb at *))
    clear os hlook q6
    have os := os2
    clear os2
    have ba := os.ba
    go_wp2_with (refine wpList_stRow rfl rfl rfl rfl rfl ba an_size rfl (by simp [Value.oneCell']) ?_)
    have os2 := os.ans hlt1 hlt2 hlt3 #[.slice none 0 0, .int .i64 1]
    exact bodyPost_ret (results_row rfl _ rfl os2.ba Tryz.underlying55 an_size) rfl ⟨_, _, _, rfl, Own.nil _ _ _ _, os2.nm, Nat.le_succ _, Nat.le_succ _, os2.up⟩
  · rw [hat] at hlook
    simp only [lookB, Bd.cs] at hlook
    clear hbad
    have os2 := os.bel_ (below_setRow (bel_alloc W4 (.cells #[.int .i64 0, .int .u32 0, .int .u16 0, .int .i64 0, .int .i64 0, .int .i64 0] 63)) (Nat.le_refl _) #[.int .i64 b0, .int .u32 b1, .int .u16 b2, .int .i64 b3, .int .i64 b4, .int .i64 b5])
    rcases Int.lt_or_le PL 0 with hneg | hneg
    · have d3 : decide (PL < 0) = true := by simpa using hneg
      go_upto_region 15 with (first
        | (refine wpList_look rfl rfl rfl rfl hlook ?_)
        | (refine wpList_stRow rfl rfl rfl rfl rfl (Blk.new W4 _ _) bd_size rfl (by simp [Value.oneCell']) ?_; generalize (W4.alloc (.cells #[.int .i64 0, .int .u32 0, .int .u16 0, .int .i64 0, .int .i64 0, .int .i64 0] 63)).setRow W4.heap.size #[.int .i64 b0, .int .u32 b1, .int .u16 b2, .int .i64 b3, .int .i64 b4, .int .i64 b5] = W5 at *; generalize W4.heap.size = gb at *))
      clear os hlook q6
      have os := os2
      clear os2
      have ba := os.ba
      go_wp2_with (refine wpList_stRow rfl rfl rfl rfl rfl ba an_size rfl (by simp [Value.oneCell']) ?_)
      have os2 := os.ans hlt1 hlt2 hlt3 #[.slice none 0 0, .int .i64 1]
      exact bodyPost_ret (results_row rfl _ rfl os2.ba Tryz.underlying55 an_size) rfl ⟨_, _, _, rfl, Own.nil _ _ _ _, os2.nm, Nat.le_succ _, Nat.le_succ _, os2.up⟩
    · have d3 : decide (PL < 0) = false := by simpa using hneg
      go_upto_region 15 with (first
        | (refine wpList_look rfl rfl rfl rfl hlook ?_)
        | (refine wpList_stRow rfl rfl rfl rfl rfl (Blk.new W4 _ _) bd_size rfl (by simp [Value.oneCell']) ?_; generalize (W4.alloc (.cells #[.int .i64 0, .int .u32 0, .int .u16 0, .int .i64 0, .int .i64 0, .int .i64 0] 63)).setRow W4.heap.size #[.int .i64 b0, .int .u32 b1, .int .u16 b2, .int .i64 b3, .int .i64 b4, .int .i64 b5] = W5 at *; generalize W4.heap.size = gb at *))
      clear os hlook q6
      have os := os2
      clear os2
      have ba := os.ba
      go_wp2_with (refine wpList_stRow rfl rfl rfl rfl rfl ba an_size rfl (by simp [Value.oneCell']) ?_)
      have os2 := os.ans hlt1 hlt2 hlt3 #[.slice none 0 0, .int .i64 1]
      exact bodyPost_ret (results_row rfl _ rfl os2.ba Tryz.underlying55 an_size) rfl ⟨_, _, _, rfl, Own.nil _ _ _ _, os2.nm, Nat.le_succ _, Nat.le_succ _, os2.up⟩
end Go.Proofs.YtbckoohljkmahaaGreat
namespace Go.Proofs.YtbckoohljkmahaaGreat
set_option linter.unusedVariables false
set_option linter.unusedSimpArgs false
open Go.RowKit Go.Maps
theorem wp_updN {P : Program} {o : Oper} {a : Act} {Q : Exit → Act → World → Prop} {K : Act → World → Prop} {w w' : World} (hd : o.dst = none) {t : TypeId} {m x y : Operand} (ho : o.op = .mapUpdate t m x y) {mv xv yv : Value} (hm : a.eval m = mv) (hx : a.eval x = xv) (hy : a.eval y = yv) (hr : (Instr.mapUpdate t mv xv yv).run P w = .ok () w') (h : K a w') : o.wp P a w K Q :=
  wp_upd ho hm hx hy hr (by rw [hd]; exact h)
set_option maxRecDepth 100000 in
set_option maxHeartbeats 8000000 in
theorem out_new (c : Cf) (gn pb fm np nf : Nat) (L : List Bd) (ou : Bool) (xA : Option Addr) (xn xc : Nat) (ti po : Int) (f : Fl) (p : Pt) (l : List Int) (w : World) (hm : NatM w c gn pb fm np nf L) (hc : c.ok) (hou : 0 ≤ c.ou ∧ c.ou ≤ 4294967295) (hfr : f.rng) (hb : ofB f L = none)
    (hbg : begP true l = true) (hp1 : po ≠ -1) (hp2 : po ≠ -2) (hgood : 0 ≤ placeP c f.pr po) (hat : atB c (placeP c f.pr po) L = none) (hti : 0 ≤ ti ∧ ti ≤ 4294967295) (hn1 : np < 900000) (hn2 : nf < 900000) (hr : Rd .u8 w w.heap.size xA xn l) (hlc : xn ≤ xc) (hcm : xc ≤ 9223372036854775807) (hl : xn ≤ 60000) :
    Calls Tryz.prog 47 #[.pointer (some ⟨gn, 0, none⟩), .agg #[.bool ou, .slice xA xn xc, .int .i64 ti, .int .i64 po], .agg f.cs, p.val] w (AnsR w c gn pb fm np nf (putB c ⟨f, po, nxt f.pr 0 true (fb p.flags 4) (fb p.flags 1) (fb p.flags 2) (fb p.flags 16), ti⟩ L) (rwE l) (rwL l true c.ou po)) := by
  have hport := placeP_port hc hgood
  have hnil := rwL_nil l true c.ou po
  have kro := fun W (hr : Rd .u8 W w.heap.size xA xn l) (hB : w.heap.size ≤ W.heap.size) => RwOut_any l xA xn xc w.heap.size c.ou po W hr hB hlc hcm hl hou (by omega)
  have kn := fun W => Next_any f.pr 0 true p.flags W
  have hnb := nxt_bd f.pr 0 true (fb p.flags 4) (fb p.flags 1) (fb p.flags 2) (fb p.flags 16) (by omega)
  have hw16 : IntKind.u16.wrap po = po := by simp [IntKind.wrap, IntKind.bits, IntKind.signed]; omega
  generalize nxt f.pr 0 true (fb p.flags 4) (fb p.flags 1) (fb p.flags 2) (fb p.flags 16) = nx at *
  generalize rwE l = E at *
  generalize rwL l true c.ou po = X at *
  have hok : BdOk c ⟨f, po, nx, ti⟩ := ⟨hfr, hgood, hnb, hti⟩
  have hfn := ofB_none hb
  have hkn : ∀ y, y ∈ L → keyB c y ≠ keyB c ⟨f, po, nx, ti⟩ := atB_none hat
  have hinv := hm.inv.put_new hkn hfn hok
  have hplo := fun g => plOf_put_new hm.inv hkn hfn hok g
  clear hkn hfn hok hnb
  replace hnil := Lib.hid hnil
  replace kro := Lib.hid kro
  replace kn := Lib.hid kn
  replace hinv := Lib.hid hinv
  replace hplo := Lib.hid hplo
  replace hw16 := Lib.hid hw16
  have hpo0 : plOf c L f = none := by unfold plOf; rw [hb]; rfl
  have hlt1 := hm.obj.lt
  have hlt2 := hm.pl.lt
  have hlt3 := hm.fl.lt
  have kb := fun W (hr : Rd .u8 W W.heap.size xA xn l) => Begins2_any true l xA xn xc W hr hlc hcm hl
  obtain ⟨pv0, hpv⟩ : ∃ pv0, p.val = .agg pv0 := ⟨_, rfl⟩
  rw [hpv]
  replace hpo0 := Lib.hid hpo0
  rw [hbg] at kb
  have kp := fun W => Place_ok c f.pr po W hc
  have hkr := placeP_rng hc f.pr po
  have d1 : (po == -1) = false := by simpa using hp1
  have d2 : (po == -2) = false := by simpa using hp2
  clear hp1 hp2
  replace kb := Lib.hid kb
  have hps : (Tryz.prog.info? 107).map (·.size) = some pv0.size ∧ pv0[3]? = some (.int .i64 p.flags) := by
    obtain ⟨pr, sr, ds, fl, ki, co, er, ⟨isz, i1, i2, i3, i4, i5⟩, pat, ba⟩ := p
    simp only [Pt.val, Value.agg.injEq] at hpv
    rw [← hpv]; exact ⟨pt_size, rfl⟩
  clear hpv
  obtain ⟨f0, f1, f2⟩ := f
  simp only [Fl.cs] at *
  generalize hPL : placeP c f0 po = PL at *
  replace kp := Lib.hid kp
  replace hPL := Lib.hid hPL
  replace hps := Lib.hid hps
  go_enter Tryz.func47, Tryz.ntmps47
  go_upto_region 1 with fail
  have os : OS w ((((w.alloc (.cells #[.bool ou, .slice xA xn xc, .int .i64 ti, .int .i64 po] 57)).alloc (.cells #[.int .i64 f0, .int .u32 f1, .int .u16 f2] 32)).alloc (.cells pv0 107)).alloc (.cells #[.slice none 0 0, .int .i64 0] 55)) c gn pb fm np nf L #[.bool ou, .slice xA xn xc, .int .i64 ti, .int .i64 po] #[.int .i64 f0, .int .u32 f1, .int .u16 f2] pv0 #[.slice none 0 0, .int .i64 0] := by
    have e1 : (w.alloc (.cells #[.bool ou, .slice xA xn xc, .int .i64 ti, .int .i64 po] 57)).heap.size = w.heap.size + 1 := by simp
    have e2 : ((w.alloc (.cells #[.bool ou, .slice xA xn xc, .int .i64 ti, .int .i64 po] 57)).alloc (.cells #[.int .i64 f0, .int .u32 f1, .int .u16 f2] 32)).heap.size = w.heap.size + 1 + 1 := by simp
    have e3 : (((w.alloc (.cells #[.bool ou, .slice xA xn xc, .int .i64 ti, .int .i64 po] 57)).alloc (.cells #[.int .i64 f0, .int .u32 f1, .int .u16 f2] 32)).alloc (.cells pv0 107)).heap.size = w.heap.size + 1 + 1 + 1 := by simp
    have b1 := Blk.new w 57 #[.bool ou, .slice xA xn xc, .int .i64 ti, .int .i64 po]
    have b2 := Blk.new (w.alloc (.cells #[.bool ou, .slice xA xn xc, .int .i64 ti, .int .i64 po] 57)) 32 #[.int .i64 f0, .int .u32 f1, .int .u16 f2]
    have b3 := Blk.new ((w.alloc (.cells #[.bool ou, .slice xA xn xc, .int .i64 ti, .int .i64 po] 57)).alloc (.cells #[.int .i64 f0, .int .u32 f1, .int .u16 f2] 32)) 107 pv0
    have b4 := Blk.new (((w.alloc (.cells #[.bool ou, .slice xA xn xc, .int .i64 ti, .int .i64 po] 57)).alloc (.cells #[.int .i64 f0, .int .u32 f1, .int .u16 f2] 32)).alloc (.cells pv0 107)) 55 #[.slice none 0 0, .int .i64 0]
    rw [e1] at b2
    rw [e2] at b3
    rw [e3] at b4
    exact ⟨(((hm.alloc _).alloc _).alloc _).alloc _, ((b1.alloc _).alloc _).alloc _, (b2.alloc _).alloc _, b3.alloc _, b4, (((Upd.refl _ w).alloc _).alloc _).alloc _ |>.alloc _⟩
  generalize (((w.alloc (.cells #[.bool ou, .slice xA xn xc, .int .i64 ti, .int .i64 po] 57)).alloc (.cells #[.int .i64 f0, .int .u32 f1, .int .u16 f2] 32)).alloc (.cells pv0 107)).alloc (.cells #[.slice none 0 0, .int .i64 0] 55) = W at *
  have z2 : ∀ t : Tw (OC c gn pb fm w.heap.size #[.bool ou, .slice xA xn xc, .int .i64 ti, .int .i64 po] #[.int .i64 f0, .int .u32 f1, .int .u16 f2] pv0), t.w.cell? ⟨gn, 7, none⟩ = some (.map (some fm)) := fun t => t.h.obj.cell 7
  have z5 : ∀ w', (∃ t : Tw (OC c gn pb fm w.heap.size #[.bool ou, .slice xA xn xc, .int .i64 ti, .int .i64 po] #[.int .i64 f0, .int .u32 f1, .int .u16 f2] pv0), w' = t.w) → Blk w' (w.heap.size + 1) 32 #[.int .i64 f0, .int .u32 f1, .int .u16 f2] := fun w' ⟨t, ht⟩ => ht ▸ t.h.bf
  have zz : Nonempty (Tw (OC c gn pb fm w.heap.size #[.bool ou, .slice xA xn xc, .int .i64 ti, .int .i64 po] #[.int .i64 f0, .int .u32 f1, .int .u16 f2] pv0)) := ⟨⟨_, os.oc⟩⟩
  refine wp_region_plan (OC c gn pb fm w.heap.size #[.bool ou, .slice xA xn xc, .int .i64 ti, .int .i64 po] #[.int .i64 f0, .int .u32 f1, .int .u16 f2] pv0) [(0, true), (1, true), (2, true), (3, true), (4, true), (5, false), (6, true), (7, true), (8, true), (9, true), (10, true)] (by kernel_rfl) (by kernel_rfl) (by kernel_rfl) (by kernel_rfl) os.drew.oc ?_
  replace os := os.drew
  generalize W.drew = W1 at *
  refine wpPl_qs 5 _ _ _ (by kernel_rfl) (by kernel_rfl) (by simp) ?_
  unfold clsS
  simp only [List.take_succ_cons, List.take_zero, List.drop_succ_cons, List.drop_zero, List.filterMap_cons, List.filterMap_nil, List.getElem?_toArray, List.getElem?_cons_zero, List.getElem?_cons_succ]
  repeat (first
    | go_big_quiet_skip
    | (go_big_quiet_want; first | (refine quiet_ldRow rfl rfl z5 Tryz.underlying32 fl_size ?_; go_simp; go_big_quiet_on) | (go_big_quiet_op; go_big_quiet_on))
    | (refine id (?_ : wpQuiet _ _ _ _ (_ :: _) _); first | go_big_quiet_skip | (go_big_quiet_want; first | (refine quiet_ldRow rfl rfl z5 Tryz.underlying32 fl_size ?_; go_simp; go_big_quiet_on) | (go_big_quiet_op; go_big_quiet_on))))
  refine wpQuiet_nil ?_
  have hlook := os.nm.fl.look hfr
  rw [hpo0.out] at hlook
  refine wpPl_e _ (by rfl) (by kernel_rfl) (fun K hK => ?_)
  refine wp_look rfl rfl rfl hlook ?_
  simp only [lookF, Option.getD_some, Option.isSome_some, Option.getD_none, Option.isSome_none]
  go_simp
  refine hK _ _ os.oc ?_
  clear hK K hlook
  refine wpPl_qs 5 _ _ _ (by kernel_rfl) (by kernel_rfl) (by simp) ?_
  unfold clsS
  simp only [List.take_succ_cons, List.take_zero, List.drop_succ_cons, List.drop_zero, List.filterMap_cons, List.filterMap_nil, List.getElem?_toArray, List.getElem?_cons_zero, List.getElem?_cons_succ]
  repeat (first
    | go_big_quiet_skip
    | (go_big_quiet_want; go_big_quiet_op; go_big_quiet_on)
    | (refine id (?_ : wpQuiet _ _ _ _ (_ :: _) _); first | go_big_quiet_skip | (go_big_quiet_want; go_big_quiet_op; go_big_quiet_on)))
  refine wpQuiet_nil ?_
  clear z2 z5 zz
  unfold wpPl
  refine NoPanic.normal ?_
  have hrW := rd_step hr hm (Nat.le_refl _) os.up
  have x1 := os.bx.cell 1
  go_wp2_with fail
  refine (kb.out _ (hrW.more os.up.size)).mono ?_
  rintro e W2 ⟨rfl, hb2⟩
  replace os := os.bel_ hb2
  clear x1 hrW hb2 kb
  have x3 := os.bx.cell 3
  go_upto_region 12 with fail
  clear x3
  have z1 : ∀ w', (∃ t : Tw (OC c gn pb fm w.heap.size #[.bool ou, .slice xA xn xc, .int .i64 ti, .int .i64 po] #[.int .i64 f0, .int .u32 f1, .int .u16 f2] pv0), w' = t.w) → ∀ j u, ([.int .i64 c.wk, .int .u32 c.ou, .int .i64 c.lo, .int .i64 c.hi, .int .i64 c.bk, .int .i64 c.rg] : List Value)[j]? = some u → w'.cell? ⟨gn, 0 + j, none⟩ = some u := fun w' ⟨t, ht⟩ j u hu => by
    rw [ht, Nat.zero_add, t.h.obj.cell]
    match j with
    | 0 | 1 | 2 | 3 | 4 | 5 => exact hu
    | j + 6 => simp at hu
  have z2 : ∀ t : Tw (OC c gn pb fm w.heap.size #[.bool ou, .slice xA xn xc, .int .i64 ti, .int .i64 po] #[.int .i64 f0, .int .u32 f1, .int .u16 f2] pv0), t.w.cell? ⟨w.heap.size + 1, 0, none⟩ = some (.int .i64 f0) := fun t => t.h.bf.cell 0
  have z3 : ∀ t : Tw (OC c gn pb fm w.heap.size #[.bool ou, .slice xA xn xc, .int .i64 ti, .int .i64 po] #[.int .i64 f0, .int .u32 f1, .int .u16 f2] pv0), t.w.cell? ⟨w.heap.size, 3, none⟩ = some (.int .i64 po) := fun t => t.h.bx.cell 3
  have zz : Nonempty (Tw (OC c gn pb fm w.heap.size #[.bool ou, .slice xA xn xc, .int .i64 ti, .int .i64 po] #[.int .i64 f0, .int .u32 f1, .int .u16 f2] pv0)) := ⟨⟨_, os.oc⟩⟩
  refine wp_region_plan (OC c gn pb fm w.heap.size #[.bool ou, .slice xA xn xc, .int .i64 ti, .int .i64 po] #[.int .i64 f0, .int .u32 f1, .int .u16 f2] pv0) [(0, true), (1, true), (2, true), (3, true), (4, true), (5, true), (6, true), (7, true), (8, false), (9, true)] (by kernel_rfl) (by kernel_rfl) (by kernel_rfl) (by kernel_rfl) os.drew.oc ?_
  replace os := os.drew
  generalize W2.drew = W3 at *
  refine wpPl_qs 8 _ _ _ (by kernel_rfl) (by kernel_rfl) (by simp) ?_
  unfold clsS
  simp only [List.take_succ_cons, List.take_zero, List.drop_succ_cons, List.drop_zero, List.filterMap_cons, List.filterMap_nil, List.getElem?_toArray, List.getElem?_cons_zero, List.getElem?_cons_succ]
  repeat (first
    | go_big_quiet_skip
    | (go_big_quiet_want; first | (refine quiet_ldAt rfl rfl z1 Tryz.underlying36 cf_size ?_; go_simp; go_big_quiet_on) | (go_big_quiet_op; go_big_quiet_on))
    | (refine id (?_ : wpQuiet _ _ _ _ (_ :: _) _); first | go_big_quiet_skip | (go_big_quiet_want; first | (refine quiet_ldAt rfl rfl z1 Tryz.underlying36 cf_size ?_; go_simp; go_big_quiet_on) | (go_big_quiet_op; go_big_quiet_on))))
  refine wpQuiet_nil ?_
  refine wpPl_e _ (by rfl) (by kernel_rfl) (fun K hK => ?_)
  go_simp
  refine (kp.out _).mono ?_
  rintro e W4 ⟨rfl, hb4⟩
  replace os := os.bel_ hb4
  refine hK _ _ os.oc ?_
  clear hK K hb4 kp
  refine wpPl_qs 1 _ _ _ (by kernel_rfl) (by kernel_rfl) (by simp) ?_
  unfold clsS
  simp only [List.take_succ_cons, List.take_zero, List.drop_succ_cons, List.drop_zero, List.filterMap_cons, List.filterMap_nil, List.getElem?_toArray, List.getElem?_cons_zero, List.getElem?_cons_succ]
  repeat (first
    | go_big_quiet_skip
    | (go_big_quiet_want; go_big_quiet_op; go_big_quiet_on)
    | (refine id (?_ : wpQuiet _ _ _ _ (_ :: _) _); first | go_big_quiet_skip | (go_big_quiet_want; go_big_quiet_op; go_big_quiet_on)))
  refine wpQuiet_nil ?_
  unfold wpPl
  refine NoPanic.normal ?_
  clear z1 z2 z3 zz
  have hlook := os.nm.pl.look hkr
  have q6 := os.nm.obj.cell 6
  rw [hat] at hlook
  simp only [lookB] at hlook
  have os2 := os.bel_ (below_setRow (bel_alloc W4 (.cells #[.int .i64 0, .int .u32 0, .int .u16 0, .int .i64 0, .int .i64 0, .int .i64 0] 63)) (Nat.le_refl _) #[.int .i64 0, .int .u32 0, .int .u16 0, .int .i64 0, .int .i64 0, .int .i64 0])
  have d3 : decide (PL < 0) = false := by simpa using hgood
  go_upto_region 16 with (first
    | (refine wpList_look rfl rfl rfl rfl hlook ?_)
    | (refine wpList_stRow rfl rfl rfl rfl rfl (Blk.new W4 _ _) bd_size rfl (by simp [Value.oneCell']) ?_; generalize (W4.alloc (.cells #[.int .i64 0, .int .u32 0, .int .u16 0, .int .i64 0, .int .i64 0, .int .i64 0] 63)).setRow W4.heap.size #[.int .i64 0, .int .u32 0, .int .u16 0, .int .i64 0, .int .i64 0, .int .i64 0] = W5 at *; generalize W4.heap.size = gb at *))
  clear os hlook q6
  have os := os2
  clear os2
  have hkS : keyB c ⟨⟨f0, f1, f2⟩, po, nx, ti⟩ = PL := hPL.out
  replace hkS := Lib.hid hkS
  have z1 : ∀ t : Tw (OC c gn pb fm w.heap.size #[.bool ou, .slice xA xn xc, .int .i64 ti, .int .i64 po] #[.int .i64 f0, .int .u32 f1, .int .u16 f2] pv0), t.w.cell? ⟨gn, 6, none⟩ = some (.map (some pb)) := fun t => t.h.obj.cell 6
  have z2 : ∀ t : Tw (OC c gn pb fm w.heap.size #[.bool ou, .slice xA xn xc, .int .i64 ti, .int .i64 po] #[.int .i64 f0, .int .u32 f1, .int .u16 f2] pv0), t.w.cell? ⟨w.heap.size + 1, 0, none⟩ = some (.int .i64 f0) := fun t => t.h.bf.cell 0
  have z3 : ∀ t : Tw (OC c gn pb fm w.heap.size #[.bool ou, .slice xA xn xc, .int .i64 ti, .int .i64 po] #[.int .i64 f0, .int .u32 f1, .int .u16 f2] pv0), t.w.cell? ⟨w.heap.size, 3, none⟩ = some (.int .i64 po) := fun t => t.h.bx.cell 3
  have z4 : ∀ t : Tw (OC c gn pb fm w.heap.size #[.bool ou, .slice xA xn xc, .int .i64 ti, .int .i64 po] #[.int .i64 f0, .int .u32 f1, .int .u16 f2] pv0), t.w.cell? ⟨w.heap.size, 2, none⟩ = some (.int .i64 ti) := fun t => t.h.bx.cell 2
  have z6 : ∀ t : Tw (OC c gn pb fm w.heap.size #[.bool ou, .slice xA xn xc, .int .i64 ti, .int .i64 po] #[.int .i64 f0, .int .u32 f1, .int .u16 f2] pv0), t.w.cell? ⟨w.heap.size + 1 + 1, 3, none⟩ = some (.int .i64 p.flags) := fun t => (t.h.bp.cell 3).trans hps.out.2
  have z5 : ∀ w', (∃ t : Tw (OC c gn pb fm w.heap.size #[.bool ou, .slice xA xn xc, .int .i64 ti, .int .i64 po] #[.int .i64 f0, .int .u32 f1, .int .u16 f2] pv0), w' = t.w) → Blk w' (w.heap.size + 1) 32 #[.int .i64 f0, .int .u32 f1, .int .u16 f2] := fun w' ⟨t, ht⟩ => ht ▸ t.h.bf
  have zz : Nonempty (Tw (OC c gn pb fm w.heap.size #[.bool ou, .slice xA xn xc, .int .i64 ti, .int .i64 po] #[.int .i64 f0, .int .u32 f1, .int .u16 f2] pv0)) := ⟨⟨_, os.oc⟩⟩
  refine wp_region_plan (OC c gn pb fm w.heap.size #[.bool ou, .slice xA xn xc, .int .i64 ti, .int .i64 po] #[.int .i64 f0, .int .u32 f1, .int .u16 f2] pv0) [(0, true), (1, true), (2, true), (3, true), (4, true), (5, true), (6, true), (7, true), (8, true), (9, true), (10, true), (11, true), (13, true), (14, true), (12, false), (15, true), (16, false)] (by kernel_rfl) (by kernel_rfl) (by kernel_rfl) (by kernel_rfl) os.drew.oc ?_
  replace os := os.drew
  generalize W5.drew = W6 at *
  refine wpPl_qs 14 _ _ _ (by kernel_rfl) (by kernel_rfl) (by simp) ?_
  unfold clsS
  simp only [List.take_succ_cons, List.take_zero, List.drop_succ_cons, List.drop_zero, List.filterMap_cons, List.filterMap_nil, List.getElem?_toArray, List.getElem?_cons_zero, List.getElem?_cons_succ]
  repeat (first
    | go_big_quiet_skip
    | (go_big_quiet_want; first | (refine quiet_ldRow rfl rfl z5 Tryz.underlying32 fl_size ?_; go_simp; go_big_quiet_on) | (go_big_quiet_op; go_big_quiet_on))
    | (refine id (?_ : wpQuiet _ _ _ _ (_ :: _) _); first | go_big_quiet_skip | (go_big_quiet_want; first | (refine quiet_ldRow rfl rfl z5 Tryz.underlying32 fl_size ?_; go_simp; go_big_quiet_on) | (go_big_quiet_op; go_big_quiet_on))))
  refine wpQuiet_nil ?_
  refine wpPl_e _ (by rfl) (by kernel_rfl) (fun K hK => ?_)
  go_simp
  refine (kn.out _).mono ?_
  rintro e W7 ⟨rfl, rfl⟩
  refine hK _ _ os.oc ?_
  clear hK K kn
  refine wpPl_qs 1 _ _ _ (by kernel_rfl) (by kernel_rfl) (by simp) ?_
  unfold clsS
  simp only [List.take_succ_cons, List.take_zero, List.drop_succ_cons, List.drop_zero, List.filterMap_cons, List.filterMap_nil, List.getElem?_toArray, List.getElem?_cons_zero, List.getElem?_cons_succ]
  repeat (first
    | go_big_quiet_skip
    | (go_big_quiet_want; go_big_quiet_op; go_big_quiet_on)
    | (refine id (?_ : wpQuiet _ _ _ _ (_ :: _) _); first | go_big_quiet_skip | (go_big_quiet_want; go_big_quiet_op; go_big_quiet_on)))
  refine wpQuiet_nil ?_
  obtain ⟨W7, hrun, hpl, hup⟩ := os.nm.pl.put (by omega) ⟨⟨f0, f1, f2⟩, po, nx, ti⟩ (by rw [hkS.out]; exact hkr)
  rw [hkS.out] at hrun
  simp only [Bd.cs] at hrun
  have hne := os.nm.ne
  refine wpPl_e _ (by rfl) (by kernel_rfl) (fun K hK => ?_)
  refine wp_updN rfl rfl rfl rfl rfl hrun ?_
  have om := os.mid hpl hup
  clear os hrun hpl hup
  refine hK _ _ om.oc ?_
  clear hK K z1 z2 z3 z4 z5 z6 zz
  unfold wpPl
  refine NoPanic.normal ?_
  go_upto_region 17 with fail
  have z1 : ∀ t : Tw (OC c gn pb fm w.heap.size #[.bool ou, .slice xA xn xc, .int .i64 ti, .int .i64 po] #[.int .i64 f0, .int .u32 f1, .int .u16 f2] pv0), t.w.cell? ⟨gn, 7, none⟩ = some (.map (some fm)) := fun t => t.h.obj.cell 7
  have z5 : ∀ w', (∃ t : Tw (OC c gn pb fm w.heap.size #[.bool ou, .slice xA xn xc, .int .i64 ti, .int .i64 po] #[.int .i64 f0, .int .u32 f1, .int .u16 f2] pv0), w' = t.w) → Blk w' (w.heap.size + 1) 32 #[.int .i64 f0, .int .u32 f1, .int .u16 f2] := fun w' ⟨t, ht⟩ => ht ▸ t.h.bf
  have zz : Nonempty (Tw (OC c gn pb fm w.heap.size #[.bool ou, .slice xA xn xc, .int .i64 ti, .int .i64 po] #[.int .i64 f0, .int .u32 f1, .int .u16 f2] pv0)) := ⟨⟨_, om.oc⟩⟩
  refine wp_region_plan (OC c gn pb fm w.heap.size #[.bool ou, .slice xA xn xc, .int .i64 ti, .int .i64 po] #[.int .i64 f0, .int .u32 f1, .int .u16 f2] pv0) [(0, true), (1, true), (2, true), (3, true), (4, true), (5, true), (6, false)] (by kernel_rfl) (by kernel_rfl) (by kernel_rfl) (by kernel_rfl) om.drew.oc ?_
  replace om := om.drew
  generalize W7.drew = W8 at *
  refine wpPl_qs 6 _ _ _ (by kernel_rfl) (by kernel_rfl) (by simp) ?_
  unfold clsS
  simp only [List.take_succ_cons, List.take_zero, List.drop_succ_cons, List.drop_zero, List.filterMap_cons, List.filterMap_nil, List.getElem?_toArray, List.getElem?_cons_zero, List.getElem?_cons_succ]
  repeat (first
    | go_big_quiet_skip
    | (go_big_quiet_want; first | (refine quiet_ldRow rfl rfl z5 Tryz.underlying32 fl_size ?_; go_simp; go_big_quiet_on) | (go_big_quiet_op; go_big_quiet_on))
    | (refine id (?_ : wpQuiet _ _ _ _ (_ :: _) _); first | go_big_quiet_skip | (go_big_quiet_want; first | (refine quiet_ldRow rfl rfl z5 Tryz.underlying32 fl_size ?_; go_simp; go_big_quiet_on) | (go_big_quiet_op; go_big_quiet_on))))
  refine wpQuiet_nil ?_
  obtain ⟨W9, hrun, hfl, hup⟩ := om.fl.put (by omega) hfr hkr
  simp only [Fl.cs] at hrun
  refine wpPl_e _ (by rfl) (by kernel_rfl) (fun K hK => ?_)
  refine wp_updN rfl rfl rfl rfl rfl hrun ?_
  have os := om.fin hfl hup hne (fun g => by rw [hplo.out, hkS.out]) hinv.out
  clear om hrun hfl hup
  refine hK _ _ os.oc ?_
  clear hK K z1 z5 zz
  unfold wpPl
  refine NoPanic.normal ?_
  go_upto_region 18 with fail
  have z1 : ∀ t : Tw (OC c gn pb fm w.heap.size #[.bool ou, .slice xA xn xc, .int .i64 ti, .int .i64 po] #[.int .i64 f0, .int .u32 f1, .int .u16 f2] pv0), t.w.cell? ⟨w.heap.size, 1, none⟩ = some (.slice xA xn xc) := fun t => t.h.bx.cell 1
  have z2 : ∀ t : Tw (OC c gn pb fm w.heap.size #[.bool ou, .slice xA xn xc, .int .i64 ti, .int .i64 po] #[.int .i64 f0, .int .u32 f1, .int .u16 f2] pv0), t.w.cell? ⟨gn, 1, none⟩ = some (.int .u32 c.ou) := fun t => t.h.obj.cell 1
  have z3 : ∀ t : Tw (OC c gn pb fm w.heap.size #[.bool ou, .slice xA xn xc, .int .i64 ti, .int .i64 po] #[.int .i64 f0, .int .u32 f1, .int .u16 f2] pv0), t.w.cell? ⟨w.heap.size, 3, none⟩ = some (.int .i64 po) := fun t => t.h.bx.cell 3
  have zz : Nonempty (Tw (OC c gn pb fm w.heap.size #[.bool ou, .slice xA xn xc, .int .i64 ti, .int .i64 po] #[.int .i64 f0, .int .u32 f1, .int .u16 f2] pv0)) := ⟨⟨_, os.oc⟩⟩
  refine wp_region_plan (OC c gn pb fm w.heap.size #[.bool ou, .slice xA xn xc, .int .i64 ti, .int .i64 po] #[.int .i64 f0, .int .u32 f1, .int .u16 f2] pv0) [(0, true), (1, true), (2, true), (3, true), (4, true), (5, true), (6, true), (7, true), (8, true), (9, true), (10, false), (11, true), (12, true), (13, false), (14, false)] (by kernel_rfl) (by kernel_rfl) (by kernel_rfl) (by kernel_rfl) os.drew.oc ?_
  replace os := os.drew
  clear W3
  generalize W9.drew = W3 at *
  have hw := hw16.out
  refine wpPl_qs 10 _ _ _ (by kernel_rfl) (by kernel_rfl) (by simp) ?_
  unfold clsS
  simp only [List.take_succ_cons, List.take_zero, List.drop_succ_cons, List.drop_zero, List.filterMap_cons, List.filterMap_nil, List.getElem?_toArray, List.getElem?_cons_zero, List.getElem?_cons_succ]
  repeat (first
    | go_big_quiet_skip
    | (go_big_quiet_want; go_big_quiet_op; go_big_quiet_on)
    | (refine id (?_ : wpQuiet _ _ _ _ (_ :: _) _); first | go_big_quiet_skip | (go_big_quiet_want; go_big_quiet_op; go_big_quiet_on)))
  refine wpQuiet_nil ?_
  clear hw
  have hrW := rd_step hr hm (Nat.le_refl _) os.up
  have hs3 : w.heap.size ≤ W3.heap.size := os.up.size
  refine wpPl_e _ (by rfl) (by kernel_rfl) (fun K hK => ?_)
  go_simp
  refine (kro.out _ hrW hs3).mono ?_
  intro e W4 hch
  obtain ⟨vA, vn, vc, rfl, own, hb4⟩ := chg_own hnil.out hch
  replace os := os.bel_ hb4
  replace own := Own.lower own hs3
  refine hK _ _ os.oc ?_
  clear hK K hch hb4 hrW
  refine wpPl_qs 2 _ _ _ (by kernel_rfl) (by kernel_rfl) (by simp) ?_
  unfold clsS
  simp only [List.take_succ_cons, List.take_zero, List.drop_succ_cons, List.drop_zero, List.filterMap_cons, List.filterMap_nil, List.getElem?_toArray, List.getElem?_cons_zero, List.getElem?_cons_succ]
  repeat (first
    | go_big_quiet_skip
    | (go_big_quiet_want; go_big_quiet_op; go_big_quiet_on)
    | (refine id (?_ : wpQuiet _ _ _ _ (_ :: _) _); first | go_big_quiet_skip | (go_big_quiet_want; go_big_quiet_op; go_big_quiet_on)))
  refine wpQuiet_nil ?_
  refine wpPl_e _ (by rfl) (by kernel_rfl) (fun K hK => ?_)
  go_simp
  refine (told_any vA vn vc E W4).mono ?_
  rintro e W5 ⟨rfl, hb5⟩
  replace os := os.bel_ hb5
  replace own := Own.below own hb5
  refine hK _ _ os.oc ?_
  clear hK K hb5
  refine wpPl_e _ (by rfl) (by kernel_rfl) (fun K hK => ?_)
  refine wp_stRow rfl rfl rfl rfl os.ba an_size rfl (by simp [Value.oneCell']) ?_
  replace own := Own.updne own os.ba (by decide) (Upd.row' W5 (w.heap.size + 1 + 1 + 1) #[.slice vA vn vc, .int .i64 E])
  replace os := os.ans hlt1 hlt2 hlt3 #[.slice vA vn vc, .int .i64 E]
  refine hK _ _ os.oc ?_
  clear hK K
  unfold wpPl
  refine NoPanic.normal ?_
  go_wp2_with fail
  exact bodyPost_ret (results_row rfl _ rfl os.ba Tryz.underlying55 an_size) rfl ⟨_, _, _, rfl, own, os.nm, Nat.le_refl _, Nat.le_refl _, os.up⟩
end Go.Proofs.YtbckoohljkmahaaGreat
namespace Go.Proofs.YtbckoohljkmahaaGreat
set_option linter.unusedVariables false
set_option linter.unusedSimpArgs false
open Go.RowKit
def gotP (k : Nat) (a b f : Int) : Pt :=
  if k = 0 then { Pt.z with proto := 17, src := a, dst := b } else if k = 1 then { Pt.z with proto := 6, src := a, dst := b, flags := f % 256 } else
  { Pt.z with proto := 1, kind := if k = 2 then 8 else 0, src := a, dst := a }
section
variable {s d a b f : Int} {l : List Int} {h : Hd} (hs : 0 ≤ s ∧ s ≤ 4294967295) (hd : 0 ≤ d ∧ d ≤ 4294967295) (ha : 0 ≤ a ∧ a ≤ 65535) (hb : 0 ≤ b ∧ b ≤ 65535) (hl : Bytes8 l) (h1 : h.src = s) (h2 : h.dst = d)
include hs hd ha hb hl h1 h2
theorem udpL_got : udpR h (udpL s d a b l) = (0, gotP 0 a b f) := by
  have hf := few_len l
  have hn := nev_bd (udp_sum hs hd ha hb hl)
  have hc := udp_cl hs hd ha hb hl _ rfl
  unfold udpL
  rw [udp_got ha hb ⟨hn.1, hn.2.1⟩ (by omega) (fun _ => by rw [h1, h2]; exact hc.zero)]
  rw [decide_eq_false hn.2.2]
  rfl
theorem tcpL_got : tcpR h (tcpL s d a b f l) = (0, gotP 1 a b f) := by
  have hc := tcp_cl hs hd ha hb hl f _ rfl
  unfold tcpL
  rw [tcp_got ha hb (by rw [h1, h2]; exact hc.zero)]
  rfl
omit hs hd hb h1 h2 in
theorem echoL_got (r : Bool) : icmpR h (echoL r a l) = (0, gotP (if r then 3 else 2) a b f) := by
  have hk : 0 ≤ (if r then (0 : Int) else 8) ∧ (if r then (0 : Int) else 8) ≤ 255 := by cases r <;> decide
  have hc := echo_cl hl hk ha
  unfold echoL
  rw [echo_got ha (by cases r <;> simp) hc.zero]
  cases r <;> rfl
theorem car_got (k : Nat) (hk : k < 4) : getX (carP k) h (carL k s d a b f l) = (0, gotP k a b f) := by
  have hk' : k = 0 ∨ k = 1 ∨ k = 2 ∨ k = 3 := by omega
  rcases hk' with rfl | rfl | rfl | rfl
  · exact udpL_got hs hd ha hb hl h1 h2
  · exact tcpL_got hs hd ha hb hl h1 h2
  · exact echoL_got (b := b) (f := f) (h := h) ha hl false
  · exact echoL_got (b := b) (f := f) (h := h) ha hl true
end
end Go.Proofs.YtbckoohljkmahaaGreat
namespace Go.Proofs.YtbckoohljkmahaaGreat
set_option linter.unusedVariables false
set_option linter.unusedSimpArgs false
open Go.RowKit
theorem modk (k : Nat) (h : k < 7) : (IntKind.u64.wrap (k : Int)).tmod 7 = (k : Int) := by
  have : k = 0 ∨ k = 1 ∨ k = 2 ∨ k = 3 ∨ k = 4 ∨ k = 5 ∨ k = 6 := by omega
  rcases this with rfl | rfl | rfl | rfl | rfl | rfl | rfl <;> rfl
section
variable {k : Nat} {s d a b f : Int} {l : List Int} (hs : 0 ≤ s ∧ s ≤ 4294967295) (hd : 0 ≤ d ∧ d ≤ 4294967295) (ha : 0 ≤ a ∧ a ≤ 65535) (hb : 0 ≤ b ∧ b ≤ 65535) (hl : Bytes8 l) (hn : l.length ≤ 40)
theorem frame_len : (frameL k s d a b f l).length = 20 + (carL k s d a b f l).length := put_len
include hn in
theorem frame_bd : 28 ≤ (frameL k s d a b f l).length ∧ (frameL k s d a b f l).length ≤ 130 := by
  have := carL_len k s d a b f l hn
  rw [frame_len]; omega
include hs hd hn in
theorem frame_get : getE (frameL k s d a b f l) = 0 ∧ hdIf (frameL k s d a b f l) 0 = ⟨20, (frameL k s d a b f l).length, 64, carP k, s, d⟩ := by
  have hc := carL_len k s d a b f l hn
  have := frame_head (P := carP k) (s := s) (d := d) (l := carL k s d a b f l) (carP_bd k) hs hd (by omega)
  unfold frameL
  rw [put_len]
  push_cast
  exact this
theorem getR_frame (h : Hd) (hh : h = ⟨20, (frameL k s d a b f l).length, 64, carP k, s, d⟩) : getR h (frameL k s d a b f l) = getX (carP k) h (carL k s d a b f l) :=
  getR_put 64 (carP k) s d _ h (by rw [hh, frame_len]; push_cast; rfl)
include hs hd ha hb hl hn
omit hn in
theorem frame_got (hk : k < 4) : getR ⟨20, (frameL k s d a b f l).length, 64, carP k, s, d⟩ (frameL k s d a b f l) = (0, gotP k a b f) := by
  rw [getR_frame _ rfl]
  exact car_got hs hd ha hb hl rfl rfl k hk
end
section
variable {s d a b f : Int} {l : List Int} (hs : 0 ≤ s ∧ s ≤ 4294967295) (hd : 0 ≤ d ∧ d ≤ 4294967295) (ha : 0 ≤ a ∧ a ≤ 65535) (hb : 0 ≤ b ∧ b ≤ 65535) (hl : Bytes8 l) (hn : l.length ≤ 40)
include hs hd ha hb hl hn
end
end Go.Proofs.YtbckoohljkmahaaGreat
namespace Go.Proofs.YtbckoohljkmahaaGreat
set_option linter.unusedVariables false
set_option linter.unusedSimpArgs false
open Go.RowKit
def B16 (x : Int) : Prop := 0 ≤ x ∧ x ≤ 65535
def B32 (x : Int) : Prop := 0 ≤ x ∧ x ≤ 4294967295
def PB (p : Pt) : Prop := B16 p.src ∧ B16 p.dst ∧ B32 p.inner.src ∧ B32 p.inner.dst
theorem b16z : B16 0 := ⟨by omega, by omega⟩
theorem b32z : B32 0 := ⟨by omega, by omega⟩
theorem PB.z : PB Pt.z := ⟨b16z, b16z, b32z, b32z⟩
theorem PB.ports {p : Pt} {l : List Int} {i j : Nat} (h : PB p) (hl : ∀ x, x ∈ l → 0 ≤ x ∧ x ≤ 255) (hi : i + 2 ≤ l.length) (hj : j + 2 ≤ l.length) : PB (portsP p l i j) :=
  ⟨n2_bd hl hi, n2_bd hl hj, h.2.2.1, h.2.2.2⟩
theorem udpR_bd {h : Hd} {x : List Int} (hl : ∀ y, y ∈ x → 0 ≤ y ∧ y ≤ 255) : PB (udpR h x).2 := by
  unfold udpR
  split
  · exact PB.z
  split
  · exact PB.z
  split
  · exact PB.z
  · exact PB.ports PB.z hl (by omega) (by omega)
theorem tcpR_bd {h : Hd} {x : List Int} (hl : ∀ y, y ∈ x → 0 ≤ y ∧ y ≤ 255) : PB (tcpR h x).2 := by
  unfold tcpR
  split
  · exact PB.z
  split
  · exact PB.z
  split
  · exact PB.z
  · exact PB.ports PB.z hl (by omega) (by omega)
theorem faultR_bd {p : Pt} {at_ : Int} {b : List Int} (hp : PB p) (hl : ∀ y, y ∈ b → 0 ≤ y ∧ y ≤ 255) : PB (faultR p at_ b).2 := by
  unfold faultR
  by_cases hz : partE b = 0
  · rw [if_neg (fun h => h hz)]
    have h20 : 20 ≤ b.length := by
      rcases Nat.lt_or_ge b.length 20 with hh | hh
      · exfalso
        unfold partE shapeE at hz
        rw [if_pos hh] at hz
        simp at hz
      · exact hh
    have hd0 := hl (b.getD 0 0) (by rw [List.getD_eq_getElem?_getD, List.getElem?_eq_getElem (by omega)]; exact List.getElem_mem _)
    have hsz : (hdOf b).size = b.getD 0 0 % 16 * 4 := rfl
    have hi : B32 (hdOf b).src := n4_bd hl (by omega)
    have hj : B32 (hdOf b).dst := n4_bd hl (by omega)
    split
    · exact PB.z
    · have hdl : 8 ≤ (b.drop (hdOf b).size.toNat).length := by rw [List.length_drop]; omega
      have hdb : ∀ y, y ∈ b.drop (hdOf b).size.toNat → 0 ≤ y ∧ y ≤ 255 := fun y hy => hl y (List.mem_of_mem_drop hy)
      split
      · exact PB.ports ⟨hp.1, hp.2.1, hi, hj⟩ hdb (by omega) (by omega)
      split
      · exact PB.ports ⟨hp.1, hp.2.1, hi, hj⟩ hdb (by omega) (by omega)
      · exact PB.z
  · rw [if_pos hz]; exact PB.z
theorem icmpR_bd {h : Hd} {x : List Int} (hl : ∀ y, y ∈ x → 0 ≤ y ∧ y ≤ 255) : PB (icmpR h x).2 := by
  unfold icmpR
  split
  · exact PB.z
  split
  · exact PB.z
  split
  · split
    · exact PB.z
    · exact PB.ports PB.z hl (by omega) (by omega)
  split
  · exact faultR_bd PB.z (fun y hy => hl y (List.mem_of_mem_drop hy))
  · exact PB.z
theorem getR_bd {h : Hd} {b : List Int} (hl : ∀ y, y ∈ b → 0 ≤ y ∧ y ≤ 255) : PB (getR h b).2 := by
  unfold getR
  split
  · exact PB.z
  split
  · exact udpR_bd (fun y hy => hl y (seg_mem hy))
  split
  · exact tcpR_bd (fun y hy => hl y (seg_mem hy))
  split
  · exact icmpR_bd (fun y hy => hl y (seg_mem hy))
  · exact PB.z
theorem hd_bds {l : List Int} (hl : ∀ x, x ∈ l → 0 ≤ x ∧ x ≤ 255) (h : getE l = 0) : (0 ≤ (hdIf l 0).src ∧ (hdIf l 0).src ≤ 4294967295) ∧ (0 ≤ (hdIf l 0).dst ∧ (hdIf l 0).dst ≤ 4294967295) := by
  have h20 : 20 ≤ l.length := by
    rcases Nat.lt_or_ge l.length 20 with hh | hh
    · exfalso
      unfold getE shapeE at h
      rw [if_pos hh] at h
      simp at h
    · exact hh
  unfold hdIf
  rw [if_pos rfl]
  exact ⟨n4_bd hl (by omega), n4_bd hl (by omega)⟩
end Go.Proofs.YtbckoohljkmahaaGreat
namespace Go.Proofs.YtbckoohljkmahaaGreat
set_option linter.unusedVariables false
set_option linter.unusedSimpArgs false
open Go.RowKit Go.Maps
/-- a frame from inside, of a flow -/
def outS (c : Cf) (L : List Bd) (f : Fl) (p : Pt) (l : List Int) (ti po : Int) : List Bd × Int × List Int :=
  match ofB f L with
  | some b => (if p.err = true then L else putB c (seenB b p true ti) L, rwE l, rwL l true c.ou b.po)
  | none =>
    if begP true l = false then (L, 7, []) else if po = -1 then (L, 8, []) else if po = -2 then (L, 9, []) else
    if placeP c f.pr po < 0 ∨ (atB c (placeP c f.pr po) L).isSome = true then (L, 1, []) else
    (putB c ⟨f, po, nxt f.pr 0 true (fb p.flags 4) (fb p.flags 1) (fb p.flags 2) (fb p.flags 16), ti⟩ L, rwE l, rwL l true c.ou po)
/-- one from outside -/
def inS (c : Cf) (L : List Bd) (f : Fl) (p : Pt) (l : List Int) (ti : Int) : List Bd × Int × List Int :=
  match atB c (placeP c f.pr f.po) L with
  | some b => (if p.err = true then L else putB c (seenB b p false ti) L, rwE l, rwL l false b.fl.ad b.fl.po)
  | none => (L, 7, [])
/-- a step: the bindings behind it, the error, the frame -/
def stepP (c : Cf) (L : List Bd) (ou : Bool) (l : List Int) (ti po : Int) : List Bd × Int × List Int :=
  if ti < 0 ∨ 4294967295 < ti then (L, 1, []) else
  if (whoP c.ou ou l).2 ≠ 0 then (L, (whoP c.ou ou l).2, []) else
  if ou = true then outS c L (whoP c.ou ou l).1 (rdP l) l ti po else inS c L (whoP c.ou ou l).1 (rdP l) l ti
-- the numbers of flows
def IP (p : Pt) : Prop := 0 ≤ p.inner.proto ∧ p.inner.proto ≤ 255
theorem IP.z : IP Pt.z := ⟨by show (0:Int) ≤ 0; omega, by show (0:Int) ≤ 255; omega⟩
theorem at9 {l : List Int} (hl : ∀ y, y ∈ l → 0 ≤ y ∧ y ≤ 255) (j : Nat) : 0 ≤ l.getD j 0 ∧ l.getD j 0 ≤ 255 := by
  rw [List.getD_eq_getElem?_getD]
  rcases Nat.lt_or_ge j l.length with h | h
  · rw [List.getElem?_eq_getElem h]; exact hl _ (List.getElem_mem _)
  · rw [List.getElem?_eq_none h]; simp
theorem faultR_ip {p : Pt} {at_ : Int} {b : List Int} (hl : ∀ y, y ∈ b → 0 ≤ y ∧ y ≤ 255) : IP (faultR p at_ b).2 := by
  unfold faultR
  split
  · exact IP.z
  split
  · exact IP.z
  split
  · exact at9 hl 9
  split
  · exact at9 hl 9
  · exact IP.z
theorem getR_ip {h : Hd} {b : List Int} (hl : ∀ y, y ∈ b → 0 ≤ y ∧ y ≤ 255) : IP (getR h b).2 := by
  unfold getR
  split
  · exact IP.z
  split
  · unfold udpR; repeat' split
    all_goals exact IP.z
  split
  · unfold tcpR; repeat' split
    all_goals exact IP.z
  split
  · unfold icmpR; repeat' split
    all_goals first
      | exact IP.z
      | exact faultR_ip (fun y hy => hl y (seg_mem (List.mem_of_mem_drop hy)))
  · exact IP.z
theorem whoP_rng (o : Int) (ou : Bool) {l : List Int} (hl : ∀ y, y ∈ l → 0 ≤ y ∧ y ≤ 255) : (whoP o ou l).1.rng := by
  unfold whoP
  by_cases hE : rdE l = 0
  · have hg : getE l = 0 := by
      unfold rdE at hE
      by_cases h2 : getE l = 0
      · exact h2
      · rw [if_neg h2] at hE; exact absurd hE h2
    have hH : rdH l = hdOf l := by unfold rdH; rw [if_pos hE]
    have hP : rdP l = (getR (hdOf l) l).2 := by unfold rdP; rw [if_pos hE]
    have hd := frm_bdh hl hg
    have hpb := getR_bd (h := hdOf l) hl
    have hip := getR_ip (h := hdOf l) hl
    have h9 := at9 hl 9
    rw [if_neg (fun h => h hE), hH, hP]
    have hin : (insF (hdOf l) (getR (hdOf l) l).2).rng := by
      unfold insF
      split
      · exact ⟨i64_inr (by have := hip; unfold IP at this; show _ ≤ (getR (hdOf l) l).2.inner.proto ∧ (getR (hdOf l) l).2.inner.proto ≤ _; omega), u32_inr hpb.2.2.2, u16_inr hpb.2.1⟩
      · exact ⟨i64_inr (by show _ ≤ l.getD 9 0 ∧ l.getD 9 0 ≤ _; omega), u32_inr hd.1, u16_inr hpb.1⟩
    have hout : (outF (hdOf l) (getR (hdOf l) l).2).rng := by
      unfold outF
      split
      · exact ⟨i64_inr (by have := hip; unfold IP at this; show _ ≤ (getR (hdOf l) l).2.inner.proto ∧ (getR (hdOf l) l).2.inner.proto ≤ _; omega), u32_inr hpb.2.2.1, u16_inr hpb.1⟩
      · exact ⟨i64_inr (by show _ ≤ l.getD 9 0 ∧ l.getD 9 0 ≤ _; omega), u32_inr hd.2, u16_inr hpb.2.1⟩
    split
    · exact hin
    · split
      · exact Fl.z_rng
      · exact hout
  · rw [if_pos hE]; exact Fl.z_rng
theorem BdOk.port {c : Cf} (hc : c.ok) {b : Bd} (h : BdOk c b) : 1 ≤ b.po ∧ b.po ≤ 65535 := placeP_port hc h.key
theorem atB_seen {c : Cf} {L : List Bd} (h : LInv c L) {b : Bd} (hb : b ∈ L) (p : Pt) (o : Bool) {ti : Int} (ht : 0 ≤ ti ∧ ti ≤ 4294967295) : atB c (keyB c b) (putB c (seenB b p o ti) L) = some (seenB b p o ti) :=
  atB_of (h.put_old hb (b' := seenB b p o ti) rfl rfl (seenB_ok (h.ok b hb) p o ht)) (b := seenB b p o ti) (mem_putB.2 (.inl rfl))
/-- the contract of out -/
theorem out_any (c : Cf) (gn pb fm np nf : Nat) (L : List Bd) (ou : Bool) (xA : Option Addr) (xn xc : Nat) (ti po : Int) (f : Fl) (p : Pt) (l : List Int) (w : World) (hm : NatM w c gn pb fm np nf L) (hc : c.ok) (hou : 0 ≤ c.ou ∧ c.ou ≤ 4294967295) (hfr : f.rng)
    (hti : 0 ≤ ti ∧ ti ≤ 4294967295) (hn1 : np < 900000) (hn2 : nf < 900000) (hout : ou = true) (hr : Rd .u8 w w.heap.size xA xn l) (hlc : xn ≤ xc) (hcm : xc ≤ 9223372036854775807) (hl : xn ≤ 60000) :
    Calls Tryz.prog 47 #[.pointer (some ⟨gn, 0, none⟩), .agg #[.bool ou, .slice xA xn xc, .int .i64 ti, .int .i64 po], .agg f.cs, p.val] w (AnsR w c gn pb fm np nf (outS c L f p l ti po).1 (outS c L f p l ti po).2.1 (outS c L f p l ti po).2.2) := by
  subst hout
  unfold outS
  cases hb : ofB f L with
  | some b =>
    obtain ⟨hbm, _⟩ := ofB_some hb
    have hpo := (hm.inv.ok b hbm).port hc
    simp only
    by_cases he : p.err = true
    · rw [if_pos he]
      exact out_old c gn pb fm np nf np L L b b true xA xn xc ti po f p l w hm hc hou hfr hb (atB_of hm.inv hbm) rfl hpo (Nat.le_succ _) (fun W hM => seen_err c gn pb fm np nf L (keyB c b) true xA xn xc ti po p W hM he) hr hlc hcm hl
    · rw [if_neg he]
      exact out_old c gn pb fm np nf (np + 1) L _ b (seenB b p true ti) true xA xn xc ti po f p l w hm hc hou hfr hb (atB_seen hm.inv hbm p true hti) rfl hpo (Nat.le_refl _) (fun W hM => seen_any c gn pb fm np nf L b true xA xn xc ti po p W hM hc hbm hn1 hti (by simpa using he)) hr hlc hcm hl
  | none =>
    simp only
    cases hbg : begP true l with
    | false => exact out_none c gn pb fm np nf L true xA xn xc ti po f p l w hm hfr hb hbg hr hlc hcm hl
    | true =>
      rw [if_neg (by simp)]
      by_cases h1 : po = -1
      · have := out_port c gn pb fm np nf L true xA xn xc ti po f p l w hm hfr hb hbg (.inl h1) hr hlc hcm hl
        rw [if_pos h1] at this ⊢
        exact this
      · by_cases h2 : po = -2
        · have := out_port c gn pb fm np nf L true xA xn xc ti po f p l w hm hfr hb hbg (.inr h2) hr hlc hcm hl
          rw [if_neg h1] at this ⊢
          rw [if_pos h2]
          exact this
        · rw [if_neg h1, if_neg h2]
          by_cases hbad : placeP c f.pr po < 0 ∨ (atB c (placeP c f.pr po) L).isSome = true
          · rw [if_pos hbad]
            exact out_bad c gn pb fm np nf L true xA xn xc ti po f p l w hm hc hfr hb hbg h1 h2 hbad hr hlc hcm hl
          · rw [if_neg hbad]
            have h3 : 0 ≤ placeP c f.pr po := by omega
            have h4 : atB c (placeP c f.pr po) L = none := by
              cases h : atB c (placeP c f.pr po) L with
              | none => rfl
              | some y => exact absurd (.inr (by rw [h]; rfl)) hbad
            exact out_new c gn pb fm np nf L true xA xn xc ti po f p l w hm hc hou hfr hb hbg h1 h2 h3 h4 hti hn1 hn2 hr hlc hcm hl
end Go.Proofs.YtbckoohljkmahaaGreat
