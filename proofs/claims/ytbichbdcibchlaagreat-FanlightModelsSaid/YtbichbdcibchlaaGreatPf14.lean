/- Contracts and plain facts. -/
import Derived.Test.YtbichbdcibchlaaGreatPf11
import Derived.Test.YtbichbdcibchlaaGreatPf13
import Derived.Test.YtbichbdcibchlaaGreatPf05
namespace Go.Proofs.YtbichbdcibchlaaGreat
set_option linter.unusedVariables false
set_option linter.unusedSimpArgs false
set_option maxRecDepth 100000
set_option maxHeartbeats 16000000
open Go.RowKit
section
open Go.RowKit Go.Maps
theorem an_size : (Tryz.prog.info? 47).map (·.size) = some 2 := by kernel_rfl
theorem told_any (A : Option Addr) (n c : Nat) (E : Int) (w : World) : Calls Tryz.prog 29 (A13 A n c E) w fun e w' => e = .returned (.agg (A13 A n c E)) ∧ Below w.heap.size w w' := by
 go_enter Tryz.func29, Tryz.ntmps29
 have br := Blk.new w 47 Z3
 have bel := bel_alloc w (.cells Z3 47)
 go_upto_region 1 with fail
 generalize w.alloc (.cells Z3 47) = W at *
 go_wp2_with (refine wpList_stRow rfl rfl rfl rfl rfl br an_size rfl (by simp [Value.oneCell']) ?_)
 exact bodyPost_ret (results_row rfl _ rfl (br.setRow _) Tryz.underlying47 an_size) rfl ⟨rfl, below_setRow bel (Nat.le_refl _) _⟩
def AnsR (w : World) (c : Cf) (gn pb fm np nf : Nat) (L : List Bd) (E : Int) (X : List Int) (e : Ending) (w' : World) : Prop :=
 ∃ v np' nf', e = .returned (.agg #[v, .int .i64 E]) ∧ Own .u8 5 w' w.heap.size v X ∧ NatM w' c gn pb fm np' nf' L ∧ np' ≤ np + 1 ∧ nf' ≤ nf + 1 ∧ Upd (fun k => k = pb ∨ k = fm) w w'
structure OS (w W : World) (c : Cf) (gn pb fm np nf : Nat) (L : List Bd) (xv fv pv av : Array Value) : Prop where
 nm : NatM W c gn pb fm np nf L
 bx : Blk W w.heap.size 50 xv
 bf : Blk W (w.heap.size + 1) 87 fv
 bp : Blk W (w.heap.size + 1 + 1) 76 pv
 ba : Blk W (w.heap.size + 1 + 1 + 1) 47 av
 up : Upd (fun k => k = pb ∨ k = fm) w W
section
variable {w W W' : World} {c : Cf} {gn pb fm np nf np' nf' : Nat} {L L' : List Bd} {xv fv pv av : Array Value}
theorem OS.bel_ (h : OS w W c gn pb fm np nf L xv fv pv av) (hb : Below W.heap.size W W') : OS w W' c gn pb fm np nf L xv fv pv av :=
 ⟨h.nm.bel_ hb, h.bx.bel hb, h.bf.bel hb, h.bp.bel hb, h.ba.bel hb, h.up.trans (Upd.of_below hb _)⟩
theorem OS.drew (h : OS w W c gn pb fm np nf L xv fv pv av) : OS w W.drew c gn pb fm np nf L xv fv pv av := h.bel_ (Below.refl _ _).drew
theorem OS.step (h : OS w W c gn pb fm np nf L xv fv pv av) (hm : NatM W' c gn pb fm np' nf' L') (hu : Upd (fun k => k = pb ∨ k = fm) W W') : OS w W' c gn pb fm np' nf' L' xv fv pv av := by
 have key : ∀ {g : Nat} {t : TypeId} {cs : Array Value}, Blk W g t cs → Blk W' g t cs := fun hb => hb.upd hu (fun e => by
  rcases e with e | e
  ·exact h.nm.pl.notBlk hb e
  ·exact h.nm.fl.notBlk hb e)
 exact ⟨hm, key h.bx, key h.bf, key h.bp, key h.ba, h.up.trans hu⟩
theorem OS.ans (h : OS w W c gn pb fm np nf L xv fv pv av) (hgn : gn < w.heap.size) (hpb : pb < w.heap.size) (hfm : fm < w.heap.size) (av' : Array Value) : OS w (W.setRow (w.heap.size + 1 + 1 + 1) av') c gn pb fm np nf L xv fv pv av' := by
 have hu := Upd.row' W (w.heap.size + 1 + 1 + 1) av'
 exact ⟨⟨h.nm.obj.upd hu (by omega), h.nm.pl.upd hu (by omega), h.nm.fl.upd hu (by omega), h.nm.ne, h.nm.inv⟩, h.bx.upd hu (by omega), h.bf.upd hu (by omega), h.bp.upd hu (by omega), h.ba.setRow av',
  ⟨hu.os.trans h.up.os, hu.tape.trans h.up.tape, hu.output.trans h.up.output, Nat.le_trans h.up.size hu.size, fun k hk hS => (hu.block k (Nat.lt_of_lt_of_le hk h.up.size) (by omega)).trans (h.up.block k hk hS)⟩⟩
end
theorem rd_step {W W' : World} {c : Cf} {gn pb fm np nf B n : Nat} {L : List Bd} {A : Option Addr} {l : List Int} (h : Rd .u8 W B A n l) (hm : NatM W c gn pb fm np nf L) (hB : B ≤ W.heap.size) (hu : Upd (fun k => k = pb ∨ k = fm) W W') : Rd .u8 W' B A n l := by
 refine ⟨h.len, h.rng, fun hn => ?_⟩
 obtain ⟨b, o, e, hlt, hc⟩ := h.cel hn
 refine ⟨b, o, e, hlt, fun j hj => ?_⟩
 have hno : ∀ g, (∃ es clock, W.heap[g]? = some (.map es clock)) → b ≠ g := fun g ⟨es, clock, hg⟩ e2 => by
  have h0 := hc j hj
  rw [e2] at h0
  simp [World.cell?, hg] at h0
 refine (World.cell?_of_block (hu.block b (by omega) (fun e2 => ?_))).trans (hc j hj)
 rcases e2 with e2 | e2
 ·obtain ⟨es, clock, h1, _⟩ := hm.pl.own
  exact hno pb ⟨es, clock, h1⟩ e2
 ·obtain ⟨D, ⟨es, clock, h1, _⟩, _⟩ := hm.fl.ex
  exact hno fm ⟨es, clock, h1⟩ e2
theorem chg_own {w : World} {E : Int} {X : List Int} (hX : E ≠ 0 → X = []) {e : Ending} {w' : World} (h : ChgR w E X e w') : ∃ A n cap, e = .returned (.tuple (A13 A n cap E)) ∧ Own .u8 5 w' w.heap.size (.slice A n cap) X ∧ Below w.heap.size w w' := by
 obtain ⟨⟨v, he, h1, h2⟩, hb⟩ := h
 by_cases hE : E = 0
 ·have ho := h1 hE
  obtain ⟨A, cap, rfl, _⟩ := ho.form rfl
  exact ⟨A, _, cap, he, ho, hb⟩
 ·rw [h2 hE] at he
  refine ⟨none, 0, 0, he, ?_, hb⟩
  rw [hX hE]
  exact Own.nil _ _ _ _
theorem rwL_nil (l : List Int) (out : Bool) (a port : Int) (h : rwE l ≠ 0) : rwL l out a port = [] := by unfold rwL; rw [if_neg h]
structure OC (c : Cf) (gn pb fm g0 : Nat) (xv fv pv : Array Value) (W : World) : Prop where
 obj : Blk W gn 68 (A14 c.wk c.ou c.lo c.hi c.bk c.rg (some pb) (some fm))
 bx : Blk W g0 50 xv
 bf : Blk W (g0 + 1) 87 fv
 bp : Blk W (g0 + 1 + 1) 76 pv
theorem OS.oc {w W : World} {c : Cf} {gn pb fm np nf : Nat} {L : List Bd} {xv fv pv av : Array Value} (h : OS w W c gn pb fm np nf L xv fv pv av) : OC c gn pb fm w.heap.size xv fv pv W := ⟨h.nm.obj, h.bx, h.bf, h.bp⟩
theorem out_old (c : Cf) (gn pb fm np nf np2 : Nat) (L L2 : List Bd) (b b2 : Bd) (ou : Bool) (xA : Option Addr) (xn xc : Nat) (ti po : Int) (f : Fl) (p : Pt) (l : List Int) (w : World) (hm : NatM w c gn pb fm np nf L) (hc : c.ok) (hou : 0 ≤ c.ou ∧ c.ou ≤ 4294967295) (hfr : f.rng) (hb : ofB f L = some b)
  (hk2 : atB c (keyB c b) L2 = some b2) (hpo : b2.po = b.po) (hpb : 1 ≤ b.po ∧ b.po ≤ 65535) (hnp : np2 ≤ np + 1)
  (ks : ∀ W, NatM W c gn pb fm np nf L → Calls Tryz.prog 28 #[.pointer (some ⟨gn, 0, none⟩), .int .i64 (keyB c b), .agg (A9 ou xA xn xc ti po), p.val] W (SeenR W c gn pb fm np2 nf L2))
  (hr : Rd .u8 w w.heap.size xA xn l) (hlc : xn ≤ xc) (hcm : xc ≤ 9223372036854775807) (hl : xn ≤ 60000) :
  Calls Tryz.prog 26 #[.pointer (some ⟨gn, 0, none⟩), .agg (A9 ou xA xn xc ti po), .agg f.cs, p.val] w (AnsR w c gn pb fm np nf L2 (rwE l) (rwL l true c.ou b.po)) := by
 have hpo0 : plOf c L f = some (keyB c b) := by unfold plOf; rw [hb]; rfl
 have hkr := keyB_rng hc b
 have hlt1 := hm.obj.lt
 have hlt2 := hm.pl.lt
 have hlt3 := hm.fl.lt
 have hlz : lookZ (atB c (keyB c b) L2) = .agg b2.cs := by rw [hk2]; rfl
 have hnil := rwL_nil l true c.ou b.po
 have kro := fun W (hr : Rd .u8 W w.heap.size xA xn l) (hB : w.heap.size ≤ W.heap.size) => RwOut_any l xA xn xc w.heap.size c.ou b.po W hr hB hlc hcm hl hou (by omega)
 generalize rwE l = E at *
 generalize rwL l true c.ou b.po = X at *
 generalize keyB c b = k at *
 obtain ⟨f0, f1, f2⟩ := f
 obtain ⟨pv0, hpv⟩ : ∃ pv0, p.val = .agg pv0 := ⟨_, rfl⟩
 rw [hpv] at ks ⊢
 have hps : (Tryz.prog.info? 76).map (·.size) = some pv0.size := by
  have : pv0.size = 15 := by
   obtain ⟨pr, sr, ds, fl, ki, co, er, ⟨isz, i1, i2, i3, i4, i5⟩, pat, ba⟩ := p
   simp only [Pt.val, Value.agg.injEq] at hpv
   rw [← hpv]; rfl
  rw [this]; exact pt_size
 obtain ⟨⟨y0, y1, y2⟩, y3, y4, y5⟩ := b2
 simp only [Bd.cs] at hlz hpo
 subst hpo
 have hw16 : IntKind.u16.wrap b.po = b.po := by simp [IntKind.wrap, IntKind.bits, IntKind.signed]; omega
 generalize b.po = y3 at *
 replace hps := Lib.hid hps
 simp only [Fl.cs]
 replace hpo0 := Lib.hid hpo0
 replace hlz := Lib.hid hlz
 replace hnil := Lib.hid hnil
 replace ks := Lib.hid ks
 replace kro := Lib.hid kro
 clear hb hk2 hpv
 go_enter Tryz.func26, Tryz.ntmps26
 go_upto_region 1 with fail
 have os : OS w ((((w.alloc (.cells (A9 ou xA xn xc ti po) 50)).alloc (.cells (A6 f0 f1 f2) 87)).alloc (.cells pv0 76)).alloc (.cells Z3 47)) c gn pb fm np nf L (A9 ou xA xn xc ti po) (A6 f0 f1 f2) pv0 Z3 := by
  have e1 : (w.alloc (.cells (A9 ou xA xn xc ti po) 50)).heap.size = w.heap.size + 1 := by simp
  have e2 : ((w.alloc (.cells (A9 ou xA xn xc ti po) 50)).alloc (.cells (A6 f0 f1 f2) 87)).heap.size = w.heap.size + 1 + 1 := by simp
  have e3 : (((w.alloc (.cells (A9 ou xA xn xc ti po) 50)).alloc (.cells (A6 f0 f1 f2) 87)).alloc (.cells pv0 76)).heap.size = w.heap.size + 1 + 1 + 1 := by simp
  have b1 := Blk.new w 50 (A9 ou xA xn xc ti po)
  have b2 := Blk.new (w.alloc (.cells (A9 ou xA xn xc ti po) 50)) 87 (A6 f0 f1 f2)
  have b3 := Blk.new ((w.alloc (.cells (A9 ou xA xn xc ti po) 50)).alloc (.cells (A6 f0 f1 f2) 87)) 76 pv0
  have b4 := Blk.new (((w.alloc (.cells (A9 ou xA xn xc ti po) 50)).alloc (.cells (A6 f0 f1 f2) 87)).alloc (.cells pv0 76)) 47 Z3
  rw [e1] at b2
  rw [e2] at b3
  rw [e3] at b4
  exact ⟨(((hm.alloc _).alloc _).alloc _).alloc _, ((b1.alloc _).alloc _).alloc _, (b2.alloc _).alloc _, b3.alloc _, b4, (((Upd.refl _ w).alloc _).alloc _).alloc _ |>.alloc _⟩
 generalize (((w.alloc (.cells (A9 ou xA xn xc ti po) 50)).alloc (.cells (A6 f0 f1 f2) 87)).alloc (.cells pv0 76)).alloc (.cells Z3 47) = W at *
 have z2 : ∀ t : Tw (OC c gn pb fm w.heap.size (A9 ou xA xn xc ti po) (A6 f0 f1 f2) pv0), t.w.cell? ⟨gn, 7, none⟩ = some (.map (some fm)) := fun t => t.h.obj.cell 7
 have z5 : ∀ w', (∃ t : Tw (OC c gn pb fm w.heap.size (A9 ou xA xn xc ti po) (A6 f0 f1 f2) pv0), w' = t.w) → Blk w' (w.heap.size + 1) 87 (A6 f0 f1 f2) := fun w' ⟨t, ht⟩ => ht ▸ t.h.bf
 have zz : Nonempty (Tw (OC c gn pb fm w.heap.size (A9 ou xA xn xc ti po) (A6 f0 f1 f2) pv0)) := ⟨⟨_, os.oc⟩⟩
 refine wp_region_plan (OC c gn pb fm w.heap.size (A9 ou xA xn xc ti po) (A6 f0 f1 f2) pv0) [(0, true), (1, true), (2, true), (3, true), (4, true), (5, false), (6, true), (7, true), (8, true), (9, true), (10, true)] (by kernel_rfl) (by kernel_rfl) (by kernel_rfl) (by kernel_rfl) os.drew.oc ?_
 replace os := os.drew
 generalize W.drew = W1 at *
 refine wpPl_qs 5 _ _ _ (by kernel_rfl) (by kernel_rfl) (by simp) ?_
 unfold clsS
 simp only [qq1, qq2, qq3, qq4, List.filterMap_cons, qq6, qq7, qq8, qq9]
 repeat (first
  | go_big_quiet_skip
  | (go_big_quiet_want; first | (refine quiet_ldRow rfl rfl z5 Tryz.underlying87 fl_size ?_; go_simp; go_big_quiet_on) | (go_big_quiet_op; go_big_quiet_on))
  | (refine id (?_ : wpQuiet _ _ _ _ (_ :: _) _); first | go_big_quiet_skip | (go_big_quiet_want; first | (refine quiet_ldRow rfl rfl z5 Tryz.underlying87 fl_size ?_; go_simp; go_big_quiet_on) | (go_big_quiet_op; go_big_quiet_on))))
 refine wpQuiet_nil ?_
 have hlook := os.nm.fl.look hfr
 rw [hpo0.out] at hlook
 refine wpPl_e _ (by rfl) (by kernel_rfl) (fun K hK => ?_)
 refine wp_look rfl rfl rfl hlook ?_
 simp only [lookF, Option.getD_some, Option.isSome_some, Option.getD_none, Option.isSome_none]
 go_simp
 refine hK _ _ os.oc ?_
 clear hK K hlook
 refine wpPl_qs 5 _ _ _ (by kernel_rfl) (by kernel_rfl) (by simp) ?_
 unfold clsS
 simp only [qq1, qq2, qq3, qq4, List.filterMap_cons, qq6, qq7, qq8, qq9]
 repeat (first | go_big_quiet_skip | (go_big_quiet_want; go_big_quiet_op; go_big_quiet_on) | refine id (?_ : wpQuiet _ _ _ _ (_ :: _) _))
 refine wpQuiet_nil ?_
 clear z2 z5 zz
 unfold wpPl
 refine NoPanic.normal ?_
 have bx := os.bx
 have bp := os.bp
 go_wp2_with (first
  | (refine wpList_ldRow rfl rfl rfl bx Tryz.underlying50 ml_size ?_)
  | (refine wpList_ldRow rfl rfl rfl bp Tryz.underlying76 hps.out ?_))
 refine (ks.out _ os.nm).mono ?_
 rintro e W2 ⟨rfl, hm2, hu2⟩
 replace os := os.step hm2 (hu2.mono (fun _ _ h => .inl h))
 clear bx bp hm2 hu2 ks
 go_upto_region 4 with fail
 have z1 : ∀ t : Tw (OC c gn pb fm w.heap.size (A9 ou xA xn xc ti po) (A6 f0 f1 f2) pv0), t.w.cell? ⟨w.heap.size, 1, none⟩ = some (.slice xA xn xc) := fun t => t.h.bx.cell 1
 have z2 : ∀ t : Tw (OC c gn pb fm w.heap.size (A9 ou xA xn xc ti po) (A6 f0 f1 f2) pv0), t.w.cell? ⟨gn, 1, none⟩ = some (.int .u32 c.ou) := fun t => t.h.obj.cell 1
 have z3 : ∀ t : Tw (OC c gn pb fm w.heap.size (A9 ou xA xn xc ti po) (A6 f0 f1 f2) pv0), t.w.cell? ⟨gn, 6, none⟩ = some (.map (some pb)) := fun t => t.h.obj.cell 6
 have zz : Nonempty (Tw (OC c gn pb fm w.heap.size (A9 ou xA xn xc ti po) (A6 f0 f1 f2) pv0)) := ⟨⟨_, os.oc⟩⟩
 refine wp_region_plan (OC c gn pb fm w.heap.size (A9 ou xA xn xc ti po) (A6 f0 f1 f2) pv0) [(0, true), (1, true), (2, true), (3, true), (4, true), (5, true), (6, true), (7, true), (8, true), (9, true), (10, true), (11, true), (12, false), (13, true), (14, true), (15, false), (16, true), (17, true), (18, false), (19, false)] (by kernel_rfl) (by kernel_rfl) (by kernel_rfl) (by kernel_rfl) os.drew.oc ?_
 replace os := os.drew
 generalize W2.drew = W3 at *
 refine wpPl_qs 12 _ _ _ (by kernel_rfl) (by kernel_rfl) (by simp) ?_
 unfold clsS
 simp only [qq1, qq2, qq3, qq4, List.filterMap_cons, qq6, qq7, qq8, qq9]
 repeat (first | go_big_quiet_skip | (go_big_quiet_want; go_big_quiet_op; go_big_quiet_on) | refine id (?_ : wpQuiet _ _ _ _ (_ :: _) _))
 refine wpQuiet_nil ?_
 have hlook := os.nm.pl.look0 hkr
 rw [hlz.out] at hlook
 refine wpPl_e _ (by rfl) (by kernel_rfl) (fun K hK => ?_)
 refine wp_look rfl rfl rfl hlook ?_
 go_simp
 refine hK _ _ os.oc ?_
 clear hK K hlook
 have hfld : ∀ W, (Instr.field 95 (.agg (A12 y0 y1 y2 y3 y4 y5)) 1).run Tryz.prog W = .ok (.int .i64 y3) W := fun W => by kernel_rfl
 refine wpPl_qs 2 _ _ _ (by kernel_rfl) (by kernel_rfl) (by simp) ?_
 unfold clsS
 simp only [qq1, qq2, qq3, qq4, List.filterMap_cons, qq6, qq7, qq8, qq9]
 repeat (first | go_big_quiet_skip | (go_big_quiet_want; go_big_quiet_op; go_big_quiet_on) | refine id (?_ : wpQuiet _ _ _ _ (_ :: _) _))
 refine wpQuiet_nil ?_
 have hrW := rd_step hr hm (Nat.le_refl _) os.up
 have hs3 : w.heap.size ≤ W3.heap.size := os.up.size
 refine wpPl_e _ (by rfl) (by kernel_rfl) (fun K hK => ?_)
 go_simp
 refine (kro.out _ hrW hs3).mono ?_
 intro e W4 hch
 obtain ⟨vA, vn, vc, rfl, own, hb4⟩ := chg_own hnil.out hch
 replace os := os.bel_ hb4
 replace own := Own.lower own hs3
 refine hK _ _ os.oc ?_
 clear hK K hch hb4 hrW
 refine wpPl_qs 2 _ _ _ (by kernel_rfl) (by kernel_rfl) (by simp) ?_
 unfold clsS
 simp only [qq1, qq2, qq3, qq4, List.filterMap_cons, qq6, qq7, qq8, qq9]
 repeat (first | go_big_quiet_skip | (go_big_quiet_want; go_big_quiet_op; go_big_quiet_on) | refine id (?_ : wpQuiet _ _ _ _ (_ :: _) _))
 refine wpQuiet_nil ?_
 refine wpPl_e _ (by rfl) (by kernel_rfl) (fun K hK => ?_)
 go_simp
 refine (told_any vA vn vc E W4).mono ?_
 rintro e W5 ⟨rfl, hb5⟩
 replace os := os.bel_ hb5
 replace own := Own.below own hb5
 refine hK _ _ os.oc ?_
 clear hK K hb5
 refine wpPl_e _ (by rfl) (by kernel_rfl) (fun K hK => ?_)
 refine wp_stRow rfl rfl rfl rfl os.ba an_size rfl (by simp [Value.oneCell']) ?_
 replace own := Own.updne own os.ba (by decide) (Upd.row' W5 (w.heap.size + 1 + 1 + 1) (A13 vA vn vc E))
 replace os := os.ans hlt1 hlt2 hlt3 (A13 vA vn vc E)
 refine hK _ _ os.oc ?_
 clear hK K
 unfold wpPl
 refine NoPanic.normal ?_
 go_wp2_with fail
 exact bodyPost_ret (results_row rfl _ rfl os.ba Tryz.underlying47 an_size) rfl ⟨_, _, _, rfl, own, os.nm, hnp, by omega, os.up⟩
end
section
open Go.RowKit Go.Maps
theorem placeP_rng {c : Cf} (hc : c.ok) (p port : Int) : inr .i64 (placeP c p port) := keyB_rng hc ⟨⟨p, 0, 0⟩, port, 0, 0⟩
theorem placeP_port {c : Cf} (hc : c.ok) {p port : Int} (h : 0 ≤ placeP c p port) : 1 ≤ port ∧ port ≤ 65535 := by
 unfold placeP at h
 have h2 := hc.lo
 have h3 := hc.hi
 split at h
 ·omega
 ·omega
structure OM (w W : World) (c : Cf) (gn pb fm np nf : Nat) (L1 : List Bd) (G : Fl → Option Int) (xv fv pv av : Array Value) : Prop where
 oc : OC c gn pb fm w.heap.size xv fv pv W
 pl : PlM W c pb np L1
 fl : FlG W fm nf G
 ba : Blk W (w.heap.size + 1 + 1 + 1) 47 av
 up : Upd (fun k => k = pb ∨ k = fm) w W
section
variable {w W W' : World} {c : Cf} {gn pb fm np nf np' nf' : Nat} {L L1 : List Bd} {G G' : Fl → Option Int} {xv fv pv av : Array Value}
theorem OC.upd {S : Nat → Prop} {g0 : Nat} (h : OC c gn pb fm g0 xv fv pv W) (hu : Upd S W W') (hS : ∀ g t cs, Blk W g t cs → ¬ S g) : OC c gn pb fm g0 xv fv pv W' :=
 ⟨h.obj.upd hu (hS _ _ _ h.obj), h.bx.upd hu (hS _ _ _ h.bx), h.bf.upd hu (hS _ _ _ h.bf), h.bp.upd hu (hS _ _ _ h.bp)⟩
theorem OS.mid (h : OS w W c gn pb fm np nf L xv fv pv av) (hp : PlM W' c pb np' L1) (hu : Upd (fun k => k = pb) W W') : OM w W' c gn pb fm np' nf L1 (plOf c L) xv fv pv av :=
 ⟨h.oc.upd hu (fun g t cs hb e => h.nm.pl.notBlk hb e), hp, h.nm.fl.upd hu (fun e => h.nm.ne e.symm), h.ba.upd hu (fun e => h.nm.pl.notBlk h.ba e), h.up.trans (hu.mono (fun _ _ h => .inl h))⟩
theorem OM.drew (h : OM w W c gn pb fm np nf L1 G xv fv pv av) : OM w W.drew c gn pb fm np nf L1 G xv fv pv av :=
 ⟨⟨h.oc.obj, h.oc.bx, h.oc.bf, h.oc.bp⟩, ⟨h.pl.own⟩, ⟨h.fl.ex⟩, h.ba, h.up.drew⟩
theorem OM.fin (h : OM w W c gn pb fm np nf L1 G xv fv pv av) (hf : FlG W' fm nf' G') (hu : Upd (fun k => k = fm) W W') (hne : pb ≠ fm) (hG : ∀ f, G' f = plOf c L1 f) (hi : LInv c L1) : OS w W' c gn pb fm np nf' L1 xv fv pv av := by
 have oc := h.oc.upd hu (fun g t cs hb e => h.fl.notBlk hb e)
 exact ⟨⟨oc.obj, h.pl.upd hu hne, hf.congr hG, hne, hi⟩, oc.bx, oc.bf, oc.bp, h.ba.upd hu (fun e => h.fl.notBlk h.ba e), h.up.trans (hu.mono (fun _ _ h => .inr h))⟩
end
theorem out_none (c : Cf) (gn pb fm np nf : Nat) (L : List Bd) (ou : Bool) (xA : Option Addr) (xn xc : Nat) (ti po : Int) (f : Fl) (p : Pt) (l : List Int) (w : World) (hm : NatM w c gn pb fm np nf L) (hfr : f.rng) (hb : ofB f L = none)
  (hbg : begP true l = false) (hr : Rd .u8 w w.heap.size xA xn l) (hlc : xn ≤ xc) (hcm : xc ≤ 9223372036854775807) (hl : xn ≤ 60000) :
  Calls Tryz.prog 26 #[.pointer (some ⟨gn, 0, none⟩), .agg (A9 ou xA xn xc ti po), .agg f.cs, p.val] w (AnsR w c gn pb fm np nf L 7 []) := by
 have hpo0 : plOf c L f = none := by unfold plOf; rw [hb]; rfl
 have hlt1 := hm.obj.lt
 have hlt2 := hm.pl.lt
 have hlt3 := hm.fl.lt
 have kb := fun W (hr : Rd .u8 W W.heap.size xA xn l) => Begins2_any true l xA xn xc W hr hlc hcm hl
 obtain ⟨pv0, hpv⟩ : ∃ pv0, p.val = .agg pv0 := ⟨_, rfl⟩
 rw [hpv]
 replace hpo0 := Lib.hid hpo0
 rw [hbg] at kb
 replace kb := Lib.hid kb
 obtain ⟨f0, f1, f2⟩ := f
 simp only [Fl.cs]
 go_enter Tryz.func26, Tryz.ntmps26
 go_upto_region 1 with fail
 have os : OS w ((((w.alloc (.cells (A9 ou xA xn xc ti po) 50)).alloc (.cells (A6 f0 f1 f2) 87)).alloc (.cells pv0 76)).alloc (.cells Z3 47)) c gn pb fm np nf L (A9 ou xA xn xc ti po) (A6 f0 f1 f2) pv0 Z3 := by
  have e1 : (w.alloc (.cells (A9 ou xA xn xc ti po) 50)).heap.size = w.heap.size + 1 := by simp
  have e2 : ((w.alloc (.cells (A9 ou xA xn xc ti po) 50)).alloc (.cells (A6 f0 f1 f2) 87)).heap.size = w.heap.size + 1 + 1 := by simp
  have e3 : (((w.alloc (.cells (A9 ou xA xn xc ti po) 50)).alloc (.cells (A6 f0 f1 f2) 87)).alloc (.cells pv0 76)).heap.size = w.heap.size + 1 + 1 + 1 := by simp
  have b1 := Blk.new w 50 (A9 ou xA xn xc ti po)
  have b2 := Blk.new (w.alloc (.cells (A9 ou xA xn xc ti po) 50)) 87 (A6 f0 f1 f2)
  have b3 := Blk.new ((w.alloc (.cells (A9 ou xA xn xc ti po) 50)).alloc (.cells (A6 f0 f1 f2) 87)) 76 pv0
  have b4 := Blk.new (((w.alloc (.cells (A9 ou xA xn xc ti po) 50)).alloc (.cells (A6 f0 f1 f2) 87)).alloc (.cells pv0 76)) 47 Z3
  rw [e1] at b2
  rw [e2] at b3
  rw [e3] at b4
  exact ⟨(((hm.alloc _).alloc _).alloc _).alloc _, ((b1.alloc _).alloc _).alloc _, (b2.alloc _).alloc _, b3.alloc _, b4, (((Upd.refl _ w).alloc _).alloc _).alloc _ |>.alloc _⟩
 generalize (((w.alloc (.cells (A9 ou xA xn xc ti po) 50)).alloc (.cells (A6 f0 f1 f2) 87)).alloc (.cells pv0 76)).alloc (.cells Z3 47) = W at *
 have z2 : ∀ t : Tw (OC c gn pb fm w.heap.size (A9 ou xA xn xc ti po) (A6 f0 f1 f2) pv0), t.w.cell? ⟨gn, 7, none⟩ = some (.map (some fm)) := fun t => t.h.obj.cell 7
 have z5 : ∀ w', (∃ t : Tw (OC c gn pb fm w.heap.size (A9 ou xA xn xc ti po) (A6 f0 f1 f2) pv0), w' = t.w) → Blk w' (w.heap.size + 1) 87 (A6 f0 f1 f2) := fun w' ⟨t, ht⟩ => ht ▸ t.h.bf
 have zz : Nonempty (Tw (OC c gn pb fm w.heap.size (A9 ou xA xn xc ti po) (A6 f0 f1 f2) pv0)) := ⟨⟨_, os.oc⟩⟩
 refine wp_region_plan (OC c gn pb fm w.heap.size (A9 ou xA xn xc ti po) (A6 f0 f1 f2) pv0) [(0, true), (1, true), (2, true), (3, true), (4, true), (5, false), (6, true), (7, true), (8, true), (9, true), (10, true)] (by kernel_rfl) (by kernel_rfl) (by kernel_rfl) (by kernel_rfl) os.drew.oc ?_
 replace os := os.drew
 generalize W.drew = W1 at *
 refine wpPl_qs 5 _ _ _ (by kernel_rfl) (by kernel_rfl) (by simp) ?_
 unfold clsS
 simp only [qq1, qq2, qq3, qq4, List.filterMap_cons, qq6, qq7, qq8, qq9]
 repeat (first
  | go_big_quiet_skip
  | (go_big_quiet_want; first | (refine quiet_ldRow rfl rfl z5 Tryz.underlying87 fl_size ?_; go_simp; go_big_quiet_on) | (go_big_quiet_op; go_big_quiet_on))
  | (refine id (?_ : wpQuiet _ _ _ _ (_ :: _) _); first | go_big_quiet_skip | (go_big_quiet_want; first | (refine quiet_ldRow rfl rfl z5 Tryz.underlying87 fl_size ?_; go_simp; go_big_quiet_on) | (go_big_quiet_op; go_big_quiet_on))))
 refine wpQuiet_nil ?_
 have hlook := os.nm.fl.look hfr
 rw [hpo0.out] at hlook
 refine wpPl_e _ (by rfl) (by kernel_rfl) (fun K hK => ?_)
 refine wp_look rfl rfl rfl hlook ?_
 simp only [lookF, Option.getD_some, Option.isSome_some, Option.getD_none, Option.isSome_none]
 go_simp
 refine hK _ _ os.oc ?_
 clear hK K hlook
 refine wpPl_qs 5 _ _ _ (by kernel_rfl) (by kernel_rfl) (by simp) ?_
 unfold clsS
 simp only [qq1, qq2, qq3, qq4, List.filterMap_cons, qq6, qq7, qq8, qq9]
 repeat (first | go_big_quiet_skip | (go_big_quiet_want; go_big_quiet_op; go_big_quiet_on) | refine id (?_ : wpQuiet _ _ _ _ (_ :: _) _))
 refine wpQuiet_nil ?_
 clear z2 z5 zz
 unfold wpPl
 refine NoPanic.normal ?_
 have hrW := rd_step hr hm (Nat.le_refl _) os.up
 have x1 := os.bx.cell 1
 go_wp2_with fail
 refine (kb.out _ (hrW.more os.up.size)).mono ?_
 rintro e W2 ⟨rfl, hb2⟩
 replace os := os.bel_ hb2
 clear x1
 have ba := os.ba
 go_wp2_with (refine wpList_stRow rfl rfl rfl rfl rfl ba an_size rfl (by simp [Value.oneCell']) ?_)
 have os2 := os.ans hlt1 hlt2 hlt3 (A13 none 0 0 7)
 exact bodyPost_ret (results_row rfl _ rfl os2.ba Tryz.underlying47 an_size) rfl ⟨_, _, _, rfl, Own.nil _ _ _ _, os2.nm, Nat.le_succ _, Nat.le_succ _, os2.up⟩
theorem out_port (c : Cf) (gn pb fm np nf : Nat) (L : List Bd) (ou : Bool) (xA : Option Addr) (xn xc : Nat) (ti po : Int) (f : Fl) (p : Pt) (l : List Int) (w : World) (hm : NatM w c gn pb fm np nf L) (hfr : f.rng) (hb : ofB f L = none)
  (hbg : begP true l = true) (hpo : po = -1 ∨ po = -2) (hr : Rd .u8 w w.heap.size xA xn l) (hlc : xn ≤ xc) (hcm : xc ≤ 9223372036854775807) (hl : xn ≤ 60000) :
  Calls Tryz.prog 26 #[.pointer (some ⟨gn, 0, none⟩), .agg (A9 ou xA xn xc ti po), .agg f.cs, p.val] w (AnsR w c gn pb fm np nf L (if po = -1 then 8 else 9) []) := by
 have hpo0 : plOf c L f = none := by unfold plOf; rw [hb]; rfl
 have hlt1 := hm.obj.lt
 have hlt2 := hm.pl.lt
 have hlt3 := hm.fl.lt
 have kb := fun W (hr : Rd .u8 W W.heap.size xA xn l) => Begins2_any true l xA xn xc W hr hlc hcm hl
 obtain ⟨pv0, hpv⟩ : ∃ pv0, p.val = .agg pv0 := ⟨_, rfl⟩
 rw [hpv]
 replace hpo0 := Lib.hid hpo0
 rw [hbg] at kb
 replace kb := Lib.hid kb
 obtain ⟨f0, f1, f2⟩ := f
 simp only [Fl.cs]
 rcases hpo with rfl | rfl
 ·rw [if_pos rfl]
  go_enter Tryz.func26, Tryz.ntmps26
  go_upto_region 1 with fail
  have os : OS w ((((w.alloc (.cells (A9 ou xA xn xc ti (-1)) 50)).alloc (.cells (A6 f0 f1 f2) 87)).alloc (.cells pv0 76)).alloc (.cells Z3 47)) c gn pb fm np nf L (A9 ou xA xn xc ti (-1)) (A6 f0 f1 f2) pv0 Z3 := by
   have e1 : (w.alloc (.cells (A9 ou xA xn xc ti (-1)) 50)).heap.size = w.heap.size + 1 := by simp
   have e2 : ((w.alloc (.cells (A9 ou xA xn xc ti (-1)) 50)).alloc (.cells (A6 f0 f1 f2) 87)).heap.size = w.heap.size + 1 + 1 := by simp
   have e3 : (((w.alloc (.cells (A9 ou xA xn xc ti (-1)) 50)).alloc (.cells (A6 f0 f1 f2) 87)).alloc (.cells pv0 76)).heap.size = w.heap.size + 1 + 1 + 1 := by simp
   have b1 := Blk.new w 50 (A9 ou xA xn xc ti (-1))
   have b2 := Blk.new (w.alloc (.cells (A9 ou xA xn xc ti (-1)) 50)) 87 (A6 f0 f1 f2)
   have b3 := Blk.new ((w.alloc (.cells (A9 ou xA xn xc ti (-1)) 50)).alloc (.cells (A6 f0 f1 f2) 87)) 76 pv0
   have b4 := Blk.new (((w.alloc (.cells (A9 ou xA xn xc ti (-1)) 50)).alloc (.cells (A6 f0 f1 f2) 87)).alloc (.cells pv0 76)) 47 Z3
   rw [e1] at b2
   rw [e2] at b3
   rw [e3] at b4
   exact ⟨(((hm.alloc _).alloc _).alloc _).alloc _, ((b1.alloc _).alloc _).alloc _, (b2.alloc _).alloc _, b3.alloc _, b4, (((Upd.refl _ w).alloc _).alloc _).alloc _ |>.alloc _⟩
  generalize (((w.alloc (.cells (A9 ou xA xn xc ti (-1)) 50)).alloc (.cells (A6 f0 f1 f2) 87)).alloc (.cells pv0 76)).alloc (.cells Z3 47) = W at *
  have z2 : ∀ t : Tw (OC c gn pb fm w.heap.size (A9 ou xA xn xc ti (-1)) (A6 f0 f1 f2) pv0), t.w.cell? ⟨gn, 7, none⟩ = some (.map (some fm)) := fun t => t.h.obj.cell 7
  have z5 : ∀ w', (∃ t : Tw (OC c gn pb fm w.heap.size (A9 ou xA xn xc ti (-1)) (A6 f0 f1 f2) pv0), w' = t.w) → Blk w' (w.heap.size + 1) 87 (A6 f0 f1 f2) := fun w' ⟨t, ht⟩ => ht ▸ t.h.bf
  have zz : Nonempty (Tw (OC c gn pb fm w.heap.size (A9 ou xA xn xc ti (-1)) (A6 f0 f1 f2) pv0)) := ⟨⟨_, os.oc⟩⟩
  refine wp_region_plan (OC c gn pb fm w.heap.size (A9 ou xA xn xc ti (-1)) (A6 f0 f1 f2) pv0) [(0, true), (1, true), (2, true), (3, true), (4, true), (5, false), (6, true), (7, true), (8, true), (9, true), (10, true)] (by kernel_rfl) (by kernel_rfl) (by kernel_rfl) (by kernel_rfl) os.drew.oc ?_
  replace os := os.drew
  generalize W.drew = W1 at *
  refine wpPl_qs 5 _ _ _ (by kernel_rfl) (by kernel_rfl) (by simp) ?_
  unfold clsS
  simp only [qq1, qq2, qq3, qq4, List.filterMap_cons, qq6, qq7, qq8, qq9]
  repeat (first
   | go_big_quiet_skip
   | (go_big_quiet_want; first | (refine quiet_ldRow rfl rfl z5 Tryz.underlying87 fl_size ?_; go_simp; go_big_quiet_on) | (go_big_quiet_op; go_big_quiet_on))
   | (refine id (?_ : wpQuiet _ _ _ _ (_ :: _) _); first | go_big_quiet_skip | (go_big_quiet_want; first | (refine quiet_ldRow rfl rfl z5 Tryz.underlying87 fl_size ?_; go_simp; go_big_quiet_on) | (go_big_quiet_op; go_big_quiet_on))))
  refine wpQuiet_nil ?_
  have hlook := os.nm.fl.look hfr
  rw [hpo0.out] at hlook
  refine wpPl_e _ (by rfl) (by kernel_rfl) (fun K hK => ?_)
  refine wp_look rfl rfl rfl hlook ?_
  simp only [lookF, Option.getD_some, Option.isSome_some, Option.getD_none, Option.isSome_none]
  go_simp
  refine hK _ _ os.oc ?_
  clear hK K hlook
  refine wpPl_qs 5 _ _ _ (by kernel_rfl) (by kernel_rfl) (by simp) ?_
  unfold clsS
  simp only [qq1, qq2, qq3, qq4, List.filterMap_cons, qq6, qq7, qq8, qq9]
  repeat (first | go_big_quiet_skip | (go_big_quiet_want; go_big_quiet_op; go_big_quiet_on) | refine id (?_ : wpQuiet _ _ _ _ (_ :: _) _))
  refine wpQuiet_nil ?_
  clear z2 z5 zz
  unfold wpPl
  refine NoPanic.normal ?_
  have hrW := rd_step hr hm (Nat.le_refl _) os.up
  have x1 := os.bx.cell 1
  go_wp2_with fail
  refine (kb.out _ (hrW.more os.up.size)).mono ?_
  rintro e W2 ⟨rfl, hb2⟩
  replace os := os.bel_ hb2
  clear x1
  have x3 := os.bx.cell 3
  have ba := os.ba
  go_wp2_with (refine wpList_stRow rfl rfl rfl rfl rfl ba an_size rfl (by simp [Value.oneCell']) ?_)
  have os2 := os.ans hlt1 hlt2 hlt3 (A13 none 0 0 8)
  exact bodyPost_ret (results_row rfl _ rfl os2.ba Tryz.underlying47 an_size) rfl ⟨_, _, _, rfl, Own.nil _ _ _ _, os2.nm, Nat.le_succ _, Nat.le_succ _, os2.up⟩
 ·rw [if_neg (by decide)]
  go_enter Tryz.func26, Tryz.ntmps26
  go_upto_region 1 with fail
  have os : OS w ((((w.alloc (.cells (A9 ou xA xn xc ti (-2)) 50)).alloc (.cells (A6 f0 f1 f2) 87)).alloc (.cells pv0 76)).alloc (.cells Z3 47)) c gn pb fm np nf L (A9 ou xA xn xc ti (-2)) (A6 f0 f1 f2) pv0 Z3 := by
   have e1 : (w.alloc (.cells (A9 ou xA xn xc ti (-2)) 50)).heap.size = w.heap.size + 1 := by simp
   have e2 : ((w.alloc (.cells (A9 ou xA xn xc ti (-2)) 50)).alloc (.cells (A6 f0 f1 f2) 87)).heap.size = w.heap.size + 1 + 1 := by simp
   have e3 : (((w.alloc (.cells (A9 ou xA xn xc ti (-2)) 50)).alloc (.cells (A6 f0 f1 f2) 87)).alloc (.cells pv0 76)).heap.size = w.heap.size + 1 + 1 + 1 := by simp
   have b1 := Blk.new w 50 (A9 ou xA xn xc ti (-2))
   have b2 := Blk.new (w.alloc (.cells (A9 ou xA xn xc ti (-2)) 50)) 87 (A6 f0 f1 f2)
   have b3 := Blk.new ((w.alloc (.cells (A9 ou xA xn xc ti (-2)) 50)).alloc (.cells (A6 f0 f1 f2) 87)) 76 pv0
   have b4 := Blk.new (((w.alloc (.cells (A9 ou xA xn xc ti (-2)) 50)).alloc (.cells (A6 f0 f1 f2) 87)).alloc (.cells pv0 76)) 47 Z3
   rw [e1] at b2
   rw [e2] at b3
   rw [e3] at b4
   exact ⟨(((hm.alloc _).alloc _).alloc _).alloc _, ((b1.alloc _).alloc _).alloc _, (b2.alloc _).alloc _, b3.alloc _, b4, (((Upd.refl _ w).alloc _).alloc _).alloc _ |>.alloc _⟩
  generalize (((w.alloc (.cells (A9 ou xA xn xc ti (-2)) 50)).alloc (.cells (A6 f0 f1 f2) 87)).alloc (.cells pv0 76)).alloc (.cells Z3 47) = W at *
  have z2 : ∀ t : Tw (OC c gn pb fm w.heap.size (A9 ou xA xn xc ti (-2)) (A6 f0 f1 f2) pv0), t.w.cell? ⟨gn, 7, none⟩ = some (.map (some fm)) := fun t => t.h.obj.cell 7
  have z5 : ∀ w', (∃ t : Tw (OC c gn pb fm w.heap.size (A9 ou xA xn xc ti (-2)) (A6 f0 f1 f2) pv0), w' = t.w) → Blk w' (w.heap.size + 1) 87 (A6 f0 f1 f2) := fun w' ⟨t, ht⟩ => ht ▸ t.h.bf
  have zz : Nonempty (Tw (OC c gn pb fm w.heap.size (A9 ou xA xn xc ti (-2)) (A6 f0 f1 f2) pv0)) := ⟨⟨_, os.oc⟩⟩
  refine wp_region_plan (OC c gn pb fm w.heap.size (A9 ou xA xn xc ti (-2)) (A6 f0 f1 f2) pv0) [(0, true), (1, true), (2, true), (3, true), (4, true), (5, false), (6, true), (7, true), (8, true), (9, true), (10, true)] (by kernel_rfl) (by kernel_rfl) (by kernel_rfl) (by kernel_rfl) os.drew.oc ?_
  replace os := os.drew
  generalize W.drew = W1 at *
  refine wpPl_qs 5 _ _ _ (by kernel_rfl) (by kernel_rfl) (by simp) ?_
  unfold clsS
  simp only [qq1, qq2, qq3, qq4, List.filterMap_cons, qq6, qq7, qq8, qq9]
  repeat (first
   | go_big_quiet_skip
   | (go_big_quiet_want; first | (refine quiet_ldRow rfl rfl z5 Tryz.underlying87 fl_size ?_; go_simp; go_big_quiet_on) | (go_big_quiet_op; go_big_quiet_on))
   | (refine id (?_ : wpQuiet _ _ _ _ (_ :: _) _); first | go_big_quiet_skip | (go_big_quiet_want; first | (refine quiet_ldRow rfl rfl z5 Tryz.underlying87 fl_size ?_; go_simp; go_big_quiet_on) | (go_big_quiet_op; go_big_quiet_on))))
  refine wpQuiet_nil ?_
  have hlook := os.nm.fl.look hfr
  rw [hpo0.out] at hlook
  refine wpPl_e _ (by rfl) (by kernel_rfl) (fun K hK => ?_)
  refine wp_look rfl rfl rfl hlook ?_
  simp only [lookF, Option.getD_some, Option.isSome_some, Option.getD_none, Option.isSome_none]
  go_simp
  refine hK _ _ os.oc ?_
  clear hK K hlook
  refine wpPl_qs 5 _ _ _ (by kernel_rfl) (by kernel_rfl) (by simp) ?_
  unfold clsS
  simp only [qq1, qq2, qq3, qq4, List.filterMap_cons, qq6, qq7, qq8, qq9]
  repeat (first | go_big_quiet_skip | (go_big_quiet_want; go_big_quiet_op; go_big_quiet_on) | refine id (?_ : wpQuiet _ _ _ _ (_ :: _) _))
  refine wpQuiet_nil ?_
  clear z2 z5 zz
  unfold wpPl
  refine NoPanic.normal ?_
  have hrW := rd_step hr hm (Nat.le_refl _) os.up
  have x1 := os.bx.cell 1
  go_wp2_with fail
  refine (kb.out _ (hrW.more os.up.size)).mono ?_
  rintro e W2 ⟨rfl, hb2⟩
  replace os := os.bel_ hb2
  clear x1
  have x3 := os.bx.cell 3
  have ba := os.ba
  go_wp2_with (refine wpList_stRow rfl rfl rfl rfl rfl ba an_size rfl (by simp [Value.oneCell']) ?_)
  have os2 := os.ans hlt1 hlt2 hlt3 (A13 none 0 0 9)
  exact bodyPost_ret (results_row rfl _ rfl os2.ba Tryz.underlying47 an_size) rfl ⟨_, _, _, rfl, Own.nil _ _ _ _, os2.nm, Nat.le_succ _, Nat.le_succ _, os2.up⟩
end
section
open Go.RowKit Go.Maps
theorem out_bad (c : Cf) (gn pb fm np nf : Nat) (L : List Bd) (ou : Bool) (xA : Option Addr) (xn xc : Nat) (ti po : Int) (f : Fl) (p : Pt) (l : List Int) (w : World) (hm : NatM w c gn pb fm np nf L) (hc : c.ok) (hfr : f.rng) (hb : ofB f L = none)
  (hbg : begP true l = true) (hp1 : po ≠ -1) (hp2 : po ≠ -2) (hbad : placeP c f.pr po < 0 ∨ (atB c (placeP c f.pr po) L).isSome = true) (hr : Rd .u8 w w.heap.size xA xn l) (hlc : xn ≤ xc) (hcm : xc ≤ 9223372036854775807) (hl : xn ≤ 60000) :
  Calls Tryz.prog 26 #[.pointer (some ⟨gn, 0, none⟩), .agg (A9 ou xA xn xc ti po), .agg f.cs, p.val] w (AnsR w c gn pb fm np nf L 1 []) := by
 have hpo0 : plOf c L f = none := by unfold plOf; rw [hb]; rfl
 have hlt1 := hm.obj.lt
 have hlt2 := hm.pl.lt
 have hlt3 := hm.fl.lt
 have kb := fun W (hr : Rd .u8 W W.heap.size xA xn l) => Begins2_any true l xA xn xc W hr hlc hcm hl
 obtain ⟨pv0, hpv⟩ : ∃ pv0, p.val = .agg pv0 := ⟨_, rfl⟩
 rw [hpv]
 replace hpo0 := Lib.hid hpo0
 rw [hbg] at kb
 have kp := fun W => Place_ok c f.pr po W hc
 have hkr := placeP_rng hc f.pr po
 have d1 : (po == -1) = false := by simpa using hp1
 have d2 : (po == -2) = false := by simpa using hp2
 clear hp1 hp2
 replace kb := Lib.hid kb
 have hps : (Tryz.prog.info? 76).map (·.size) = some pv0.size ∧ pv0[3]? = some (.int .i64 p.flags) := by
  obtain ⟨pr, sr, ds, fl, ki, co, er, ⟨isz, i1, i2, i3, i4, i5⟩, pat, ba⟩ := p
  simp only [Pt.val, Value.agg.injEq] at hpv
  rw [← hpv]; exact ⟨pt_size, rfl⟩
 clear hpv
 obtain ⟨f0, f1, f2⟩ := f
 simp only [Fl.cs] at *
 generalize hPL : placeP c f0 po = PL at *
 replace kp := Lib.hid kp
 replace hPL := Lib.hid hPL
 replace hps := Lib.hid hps
 go_enter Tryz.func26, Tryz.ntmps26
 go_upto_region 1 with fail
 have os : OS w ((((w.alloc (.cells (A9 ou xA xn xc ti po) 50)).alloc (.cells (A6 f0 f1 f2) 87)).alloc (.cells pv0 76)).alloc (.cells Z3 47)) c gn pb fm np nf L (A9 ou xA xn xc ti po) (A6 f0 f1 f2) pv0 Z3 := by
  have e1 : (w.alloc (.cells (A9 ou xA xn xc ti po) 50)).heap.size = w.heap.size + 1 := by simp
  have e2 : ((w.alloc (.cells (A9 ou xA xn xc ti po) 50)).alloc (.cells (A6 f0 f1 f2) 87)).heap.size = w.heap.size + 1 + 1 := by simp
  have e3 : (((w.alloc (.cells (A9 ou xA xn xc ti po) 50)).alloc (.cells (A6 f0 f1 f2) 87)).alloc (.cells pv0 76)).heap.size = w.heap.size + 1 + 1 + 1 := by simp
  have b1 := Blk.new w 50 (A9 ou xA xn xc ti po)
  have b2 := Blk.new (w.alloc (.cells (A9 ou xA xn xc ti po) 50)) 87 (A6 f0 f1 f2)
  have b3 := Blk.new ((w.alloc (.cells (A9 ou xA xn xc ti po) 50)).alloc (.cells (A6 f0 f1 f2) 87)) 76 pv0
  have b4 := Blk.new (((w.alloc (.cells (A9 ou xA xn xc ti po) 50)).alloc (.cells (A6 f0 f1 f2) 87)).alloc (.cells pv0 76)) 47 Z3
  rw [e1] at b2
  rw [e2] at b3
  rw [e3] at b4
  exact ⟨(((hm.alloc _).alloc _).alloc _).alloc _, ((b1.alloc _).alloc _).alloc _, (b2.alloc _).alloc _, b3.alloc _, b4, (((Upd.refl _ w).alloc _).alloc _).alloc _ |>.alloc _⟩
 generalize (((w.alloc (.cells (A9 ou xA xn xc ti po) 50)).alloc (.cells (A6 f0 f1 f2) 87)).alloc (.cells pv0 76)).alloc (.cells Z3 47) = W at *
 have z2 : ∀ t : Tw (OC c gn pb fm w.heap.size (A9 ou xA xn xc ti po) (A6 f0 f1 f2) pv0), t.w.cell? ⟨gn, 7, none⟩ = some (.map (some fm)) := fun t => t.h.obj.cell 7
 have z5 : ∀ w', (∃ t : Tw (OC c gn pb fm w.heap.size (A9 ou xA xn xc ti po) (A6 f0 f1 f2) pv0), w' = t.w) → Blk w' (w.heap.size + 1) 87 (A6 f0 f1 f2) := fun w' ⟨t, ht⟩ => ht ▸ t.h.bf
 have zz : Nonempty (Tw (OC c gn pb fm w.heap.size (A9 ou xA xn xc ti po) (A6 f0 f1 f2) pv0)) := ⟨⟨_, os.oc⟩⟩
 refine wp_region_plan (OC c gn pb fm w.heap.size (A9 ou xA xn xc ti po) (A6 f0 f1 f2) pv0) [(0, true), (1, true), (2, true), (3, true), (4, true), (5, false), (6, true), (7, true), (8, true), (9, true), (10, true)] (by kernel_rfl) (by kernel_rfl) (by kernel_rfl) (by kernel_rfl) os.drew.oc ?_
 replace os := os.drew
 generalize W.drew = W1 at *
 refine wpPl_qs 5 _ _ _ (by kernel_rfl) (by kernel_rfl) (by simp) ?_
 unfold clsS
 simp only [qq1, qq2, qq3, qq4, List.filterMap_cons, qq6, qq7, qq8, qq9]
 repeat (first
  | go_big_quiet_skip
  | (go_big_quiet_want; first | (refine quiet_ldRow rfl rfl z5 Tryz.underlying87 fl_size ?_; go_simp; go_big_quiet_on) | (go_big_quiet_op; go_big_quiet_on))
  | (refine id (?_ : wpQuiet _ _ _ _ (_ :: _) _); first | go_big_quiet_skip | (go_big_quiet_want; first | (refine quiet_ldRow rfl rfl z5 Tryz.underlying87 fl_size ?_; go_simp; go_big_quiet_on) | (go_big_quiet_op; go_big_quiet_on))))
 refine wpQuiet_nil ?_
 have hlook := os.nm.fl.look hfr
 rw [hpo0.out] at hlook
 refine wpPl_e _ (by rfl) (by kernel_rfl) (fun K hK => ?_)
 refine wp_look rfl rfl rfl hlook ?_
 simp only [lookF, Option.getD_some, Option.isSome_some, Option.getD_none, Option.isSome_none]
 go_simp
 refine hK _ _ os.oc ?_
 clear hK K hlook
 refine wpPl_qs 5 _ _ _ (by kernel_rfl) (by kernel_rfl) (by simp) ?_
 unfold clsS
 simp only [qq1, qq2, qq3, qq4, List.filterMap_cons, qq6, qq7, qq8, qq9]
 repeat (first | go_big_quiet_skip | (go_big_quiet_want; go_big_quiet_op; go_big_quiet_on) | refine id (?_ : wpQuiet _ _ _ _ (_ :: _) _))
 refine wpQuiet_nil ?_
 clear z2 z5 zz
 unfold wpPl
 refine NoPanic.normal ?_
 have hrW := rd_step hr hm (Nat.le_refl _) os.up
 have x1 := os.bx.cell 1
 go_wp2_with fail
 refine (kb.out _ (hrW.more os.up.size)).mono ?_
 rintro e W2 ⟨rfl, hb2⟩
 replace os := os.bel_ hb2
 clear x1 hrW hb2 kb
 have x3 := os.bx.cell 3
 go_upto_region 12 with fail
 clear x3
 have z1 : ∀ w', (∃ t : Tw (OC c gn pb fm w.heap.size (A9 ou xA xn xc ti po) (A6 f0 f1 f2) pv0), w' = t.w) → ∀ j u, ([.int .i64 c.wk, .int .u32 c.ou, .int .i64 c.lo, .int .i64 c.hi, .int .i64 c.bk, .int .i64 c.rg] : List Value)[j]? = some u → w'.cell? ⟨gn, 0 + j, none⟩ = some u := fun w' ⟨t, ht⟩ j u hu => by
  rw [ht, Nat.zero_add, t.h.obj.cell]
  match j with
  | 0 | 1 | 2 | 3 | 4 | 5 => exact hu
  | j + 6 => simp at hu
 have z2 : ∀ t : Tw (OC c gn pb fm w.heap.size (A9 ou xA xn xc ti po) (A6 f0 f1 f2) pv0), t.w.cell? ⟨w.heap.size + 1, 0, none⟩ = some (.int .i64 f0) := fun t => t.h.bf.cell 0
 have z3 : ∀ t : Tw (OC c gn pb fm w.heap.size (A9 ou xA xn xc ti po) (A6 f0 f1 f2) pv0), t.w.cell? ⟨w.heap.size, 3, none⟩ = some (.int .i64 po) := fun t => t.h.bx.cell 3
 have zz : Nonempty (Tw (OC c gn pb fm w.heap.size (A9 ou xA xn xc ti po) (A6 f0 f1 f2) pv0)) := ⟨⟨_, os.oc⟩⟩
 refine wp_region_plan (OC c gn pb fm w.heap.size (A9 ou xA xn xc ti po) (A6 f0 f1 f2) pv0) [(0, true), (1, true), (2, true), (3, true), (4, true), (5, true), (6, true), (7, true), (8, false), (9, true)] (by kernel_rfl) (by kernel_rfl) (by kernel_rfl) (by kernel_rfl) os.drew.oc ?_
 replace os := os.drew
 generalize W2.drew = W3 at *
 refine wpPl_qs 8 _ _ _ (by kernel_rfl) (by kernel_rfl) (by simp) ?_
 unfold clsS
 simp only [qq1, qq2, qq3, qq4, List.filterMap_cons, qq6, qq7, qq8, qq9]
 repeat (first
  | go_big_quiet_skip
  | (go_big_quiet_want; first | (refine quiet_ldAt rfl rfl z1 Tryz.underlying31 cf_size ?_; go_simp; go_big_quiet_on) | (go_big_quiet_op; go_big_quiet_on))
  | (refine id (?_ : wpQuiet _ _ _ _ (_ :: _) _); first | go_big_quiet_skip | (go_big_quiet_want; first | (refine quiet_ldAt rfl rfl z1 Tryz.underlying31 cf_size ?_; go_simp; go_big_quiet_on) | (go_big_quiet_op; go_big_quiet_on))))
 refine wpQuiet_nil ?_
 refine wpPl_e _ (by rfl) (by kernel_rfl) (fun K hK => ?_)
 go_simp
 refine (kp.out _).mono ?_
 rintro e W4 ⟨rfl, hb4⟩
 replace os := os.bel_ hb4
 refine hK _ _ os.oc ?_
 clear hK K hb4 kp
 refine wpPl_qs 1 _ _ _ (by kernel_rfl) (by kernel_rfl) (by simp) ?_
 unfold clsS
 simp only [qq1, qq2, qq3, qq4, List.filterMap_cons, qq6, qq7, qq8, qq9]
 repeat (first | go_big_quiet_skip | (go_big_quiet_want; go_big_quiet_op; go_big_quiet_on) | refine id (?_ : wpQuiet _ _ _ _ (_ :: _) _))
 refine wpQuiet_nil ?_
 unfold wpPl
 refine NoPanic.normal ?_
 clear z1 z2 z3 zz
 have hlook := os.nm.pl.look hkr
 have q6 := os.nm.obj.cell 6
 rcases hat : atB c PL L with _ | ⟨⟨b0, b1, b2⟩, b3, b4, b5⟩
 ·rw [hat] at hlook
  have hneg : PL < 0 := by
   rcases hbad with h | h
   ·exact h
   ·rw [hat] at h; simp at h
  simp only [lookB] at hlook
  clear hbad
  have bb := Blk.new W4 95 Z6
  have os2 := os.bel_ (below_setRow (bel_alloc W4 (.cells Z6 95)) (Nat.le_refl _) Z6)
  have d3 : decide (PL < 0) = true := by simpa using hneg
  go_upto_region 15 with (first
   | (refine wpList_look rfl rfl rfl rfl hlook ?_)
   | (refine wpList_stRow rfl rfl rfl rfl rfl (Blk.new W4 _ _) bd_size rfl (by simp [Value.oneCell']) ?_; generalize (W4.alloc (.cells Z6 95)).setRow W4.heap.size Z6 = W5 at *; generalize W4.heap.size = gb at *))
  clear os hlook q6
  have os := os2
  clear os2
  have ba := os.ba
  go_wp2_with (refine wpList_stRow rfl rfl rfl rfl rfl ba an_size rfl (by simp [Value.oneCell']) ?_)
  have os2 := os.ans hlt1 hlt2 hlt3 (A13 none 0 0 1)
  exact bodyPost_ret (results_row rfl _ rfl os2.ba Tryz.underlying47 an_size) rfl ⟨_, _, _, rfl, Own.nil _ _ _ _, os2.nm, Nat.le_succ _, Nat.le_succ _, os2.up⟩
 ·rw [hat] at hlook
  simp only [lookB, Bd.cs] at hlook
  clear hbad
  have os2 := os.bel_ (below_setRow (bel_alloc W4 (.cells Z6 95)) (Nat.le_refl _) (A12 b0 b1 b2 b3 b4 b5))
  rcases Int.lt_or_le PL 0 with hneg | hneg
  ·have d3 : decide (PL < 0) = true := by simpa using hneg
   go_upto_region 15 with (first
    | (refine wpList_look rfl rfl rfl rfl hlook ?_)
    | (refine wpList_stRow rfl rfl rfl rfl rfl (Blk.new W4 _ _) bd_size rfl (by simp [Value.oneCell']) ?_; generalize (W4.alloc (.cells Z6 95)).setRow W4.heap.size (A12 b0 b1 b2 b3 b4 b5) = W5 at *; generalize W4.heap.size = gb at *))
   clear os hlook q6
   have os := os2
   clear os2
   have ba := os.ba
   go_wp2_with (refine wpList_stRow rfl rfl rfl rfl rfl ba an_size rfl (by simp [Value.oneCell']) ?_)
   have os2 := os.ans hlt1 hlt2 hlt3 (A13 none 0 0 1)
   exact bodyPost_ret (results_row rfl _ rfl os2.ba Tryz.underlying47 an_size) rfl ⟨_, _, _, rfl, Own.nil _ _ _ _, os2.nm, Nat.le_succ _, Nat.le_succ _, os2.up⟩
  ·have d3 : decide (PL < 0) = false := by simpa using hneg
   go_upto_region 15 with (first
    | (refine wpList_look rfl rfl rfl rfl hlook ?_)
    | (refine wpList_stRow rfl rfl rfl rfl rfl (Blk.new W4 _ _) bd_size rfl (by simp [Value.oneCell']) ?_; generalize (W4.alloc (.cells Z6 95)).setRow W4.heap.size (A12 b0 b1 b2 b3 b4 b5) = W5 at *; generalize W4.heap.size = gb at *))
   clear os hlook q6
   have os := os2
   clear os2
   have ba := os.ba
   go_wp2_with (refine wpList_stRow rfl rfl rfl rfl rfl ba an_size rfl (by simp [Value.oneCell']) ?_)
   have os2 := os.ans hlt1 hlt2 hlt3 (A13 none 0 0 1)
   exact bodyPost_ret (results_row rfl _ rfl os2.ba Tryz.underlying47 an_size) rfl ⟨_, _, _, rfl, Own.nil _ _ _ _, os2.nm, Nat.le_succ _, Nat.le_succ _, os2.up⟩
end
section
open Go.RowKit Go.Maps
theorem wp_updN {P : Program} {o : Oper} {a : Act} {Q : Exit → Act → World → Prop} {K : Act → World → Prop} {w w' : World} (hd : o.dst = none) {t : TypeId} {m x y : Operand} (ho : o.op = .mapUpdate t m x y) {mv xv yv : Value} (hm : a.eval m = mv) (hx : a.eval x = xv) (hy : a.eval y = yv) (hr : (Instr.mapUpdate t mv xv yv).run P w = .ok () w') (h : K a w') : o.wp P a w K Q :=
 wp_upd ho hm hx hy hr (by rw [hd]; exact h)
theorem out_new (c : Cf) (gn pb fm np nf : Nat) (L : List Bd) (ou : Bool) (xA : Option Addr) (xn xc : Nat) (ti po : Int) (f : Fl) (p : Pt) (l : List Int) (w : World) (hm : NatM w c gn pb fm np nf L) (hc : c.ok) (hou : 0 ≤ c.ou ∧ c.ou ≤ 4294967295) (hfr : f.rng) (hb : ofB f L = none)
  (hbg : begP true l = true) (hp1 : po ≠ -1) (hp2 : po ≠ -2) (hgood : 0 ≤ placeP c f.pr po) (hat : atB c (placeP c f.pr po) L = none) (hti : 0 ≤ ti ∧ ti ≤ 4294967295) (hn1 : np < 900000) (hn2 : nf < 900000) (hr : Rd .u8 w w.heap.size xA xn l) (hlc : xn ≤ xc) (hcm : xc ≤ 9223372036854775807) (hl : xn ≤ 60000) :
  Calls Tryz.prog 26 #[.pointer (some ⟨gn, 0, none⟩), .agg (A9 ou xA xn xc ti po), .agg f.cs, p.val] w (AnsR w c gn pb fm np nf (putB c ⟨f, po, nxt f.pr 0 true (fb p.flags 4) (fb p.flags 1) (fb p.flags 2) (fb p.flags 16), ti⟩ L) (rwE l) (rwL l true c.ou po)) := by
 have hport := placeP_port hc hgood
 have hnil := rwL_nil l true c.ou po
 have kro := fun W (hr : Rd .u8 W w.heap.size xA xn l) (hB : w.heap.size ≤ W.heap.size) => RwOut_any l xA xn xc w.heap.size c.ou po W hr hB hlc hcm hl hou (by omega)
 have kn := fun W => Next_any f.pr 0 true p.flags W
 have hnb := nxt_bd f.pr 0 true (fb p.flags 4) (fb p.flags 1) (fb p.flags 2) (fb p.flags 16) (by omega)
 have hw16 : IntKind.u16.wrap po = po := by simp [IntKind.wrap, IntKind.bits, IntKind.signed]; omega
 generalize nxt f.pr 0 true (fb p.flags 4) (fb p.flags 1) (fb p.flags 2) (fb p.flags 16) = nx at *
 generalize rwE l = E at *
 generalize rwL l true c.ou po = X at *
 have hok : BdOk c ⟨f, po, nx, ti⟩ := ⟨hfr, hgood, hnb, hti⟩
 have hfn := ofB_none hb
 have hkn : ∀ y, y ∈ L → keyB c y ≠ keyB c ⟨f, po, nx, ti⟩ := atB_none hat
 have hinv := hm.inv.put_new hkn hfn hok
 have hplo := fun g => plOf_put_new hm.inv hkn hfn hok g
 clear hkn hfn hok hnb
 replace hnil := Lib.hid hnil
 replace kro := Lib.hid kro
 replace kn := Lib.hid kn
 replace hinv := Lib.hid hinv
 replace hplo := Lib.hid hplo
 replace hw16 := Lib.hid hw16
 have hpo0 : plOf c L f = none := by unfold plOf; rw [hb]; rfl
 have hlt1 := hm.obj.lt
 have hlt2 := hm.pl.lt
 have hlt3 := hm.fl.lt
 have kb := fun W (hr : Rd .u8 W W.heap.size xA xn l) => Begins2_any true l xA xn xc W hr hlc hcm hl
 obtain ⟨pv0, hpv⟩ : ∃ pv0, p.val = .agg pv0 := ⟨_, rfl⟩
 rw [hpv]
 replace hpo0 := Lib.hid hpo0
 rw [hbg] at kb
 have kp := fun W => Place_ok c f.pr po W hc
 have hkr := placeP_rng hc f.pr po
 have d1 : (po == -1) = false := by simpa using hp1
 have d2 : (po == -2) = false := by simpa using hp2
 clear hp1 hp2
 replace kb := Lib.hid kb
 have hps : (Tryz.prog.info? 76).map (·.size) = some pv0.size ∧ pv0[3]? = some (.int .i64 p.flags) := by
  obtain ⟨pr, sr, ds, fl, ki, co, er, ⟨isz, i1, i2, i3, i4, i5⟩, pat, ba⟩ := p
  simp only [Pt.val, Value.agg.injEq] at hpv
  rw [← hpv]; exact ⟨pt_size, rfl⟩
 clear hpv
 obtain ⟨f0, f1, f2⟩ := f
 simp only [Fl.cs] at *
 generalize hPL : placeP c f0 po = PL at *
 replace kp := Lib.hid kp
 replace hPL := Lib.hid hPL
 replace hps := Lib.hid hps
 go_enter Tryz.func26, Tryz.ntmps26
 go_upto_region 1 with fail
 have os : OS w ((((w.alloc (.cells (A9 ou xA xn xc ti po) 50)).alloc (.cells (A6 f0 f1 f2) 87)).alloc (.cells pv0 76)).alloc (.cells Z3 47)) c gn pb fm np nf L (A9 ou xA xn xc ti po) (A6 f0 f1 f2) pv0 Z3 := by
  have e1 : (w.alloc (.cells (A9 ou xA xn xc ti po) 50)).heap.size = w.heap.size + 1 := by simp
  have e2 : ((w.alloc (.cells (A9 ou xA xn xc ti po) 50)).alloc (.cells (A6 f0 f1 f2) 87)).heap.size = w.heap.size + 1 + 1 := by simp
  have e3 : (((w.alloc (.cells (A9 ou xA xn xc ti po) 50)).alloc (.cells (A6 f0 f1 f2) 87)).alloc (.cells pv0 76)).heap.size = w.heap.size + 1 + 1 + 1 := by simp
  have b1 := Blk.new w 50 (A9 ou xA xn xc ti po)
  have b2 := Blk.new (w.alloc (.cells (A9 ou xA xn xc ti po) 50)) 87 (A6 f0 f1 f2)
  have b3 := Blk.new ((w.alloc (.cells (A9 ou xA xn xc ti po) 50)).alloc (.cells (A6 f0 f1 f2) 87)) 76 pv0
  have b4 := Blk.new (((w.alloc (.cells (A9 ou xA xn xc ti po) 50)).alloc (.cells (A6 f0 f1 f2) 87)).alloc (.cells pv0 76)) 47 Z3
  rw [e1] at b2
  rw [e2] at b3
  rw [e3] at b4
  exact ⟨(((hm.alloc _).alloc _).alloc _).alloc _, ((b1.alloc _).alloc _).alloc _, (b2.alloc _).alloc _, b3.alloc _, b4, (((Upd.refl _ w).alloc _).alloc _).alloc _ |>.alloc _⟩
 generalize (((w.alloc (.cells (A9 ou xA xn xc ti po) 50)).alloc (.cells (A6 f0 f1 f2) 87)).alloc (.cells pv0 76)).alloc (.cells Z3 47) = W at *
 have z2 : ∀ t : Tw (OC c gn pb fm w.heap.size (A9 ou xA xn xc ti po) (A6 f0 f1 f2) pv0), t.w.cell? ⟨gn, 7, none⟩ = some (.map (some fm)) := fun t => t.h.obj.cell 7
 have z5 : ∀ w', (∃ t : Tw (OC c gn pb fm w.heap.size (A9 ou xA xn xc ti po) (A6 f0 f1 f2) pv0), w' = t.w) → Blk w' (w.heap.size + 1) 87 (A6 f0 f1 f2) := fun w' ⟨t, ht⟩ => ht ▸ t.h.bf
 have zz : Nonempty (Tw (OC c gn pb fm w.heap.size (A9 ou xA xn xc ti po) (A6 f0 f1 f2) pv0)) := ⟨⟨_, os.oc⟩⟩
 refine wp_region_plan (OC c gn pb fm w.heap.size (A9 ou xA xn xc ti po) (A6 f0 f1 f2) pv0) [(0, true), (1, true), (2, true), (3, true), (4, true), (5, false), (6, true), (7, true), (8, true), (9, true), (10, true)] (by kernel_rfl) (by kernel_rfl) (by kernel_rfl) (by kernel_rfl) os.drew.oc ?_
 replace os := os.drew
 generalize W.drew = W1 at *
 refine wpPl_qs 5 _ _ _ (by kernel_rfl) (by kernel_rfl) (by simp) ?_
 unfold clsS
 simp only [qq1, qq2, qq3, qq4, List.filterMap_cons, qq6, qq7, qq8, qq9]
 repeat (first
  | go_big_quiet_skip
  | (go_big_quiet_want; first | (refine quiet_ldRow rfl rfl z5 Tryz.underlying87 fl_size ?_; go_simp; go_big_quiet_on) | (go_big_quiet_op; go_big_quiet_on))
  | (refine id (?_ : wpQuiet _ _ _ _ (_ :: _) _); first | go_big_quiet_skip | (go_big_quiet_want; first | (refine quiet_ldRow rfl rfl z5 Tryz.underlying87 fl_size ?_; go_simp; go_big_quiet_on) | (go_big_quiet_op; go_big_quiet_on))))
 refine wpQuiet_nil ?_
 have hlook := os.nm.fl.look hfr
 rw [hpo0.out] at hlook
 refine wpPl_e _ (by rfl) (by kernel_rfl) (fun K hK => ?_)
 refine wp_look rfl rfl rfl hlook ?_
 simp only [lookF, Option.getD_some, Option.isSome_some, Option.getD_none, Option.isSome_none]
 go_simp
 refine hK _ _ os.oc ?_
 clear hK K hlook
 refine wpPl_qs 5 _ _ _ (by kernel_rfl) (by kernel_rfl) (by simp) ?_
 unfold clsS
 simp only [qq1, qq2, qq3, qq4, List.filterMap_cons, qq6, qq7, qq8, qq9]
 repeat (first | go_big_quiet_skip | (go_big_quiet_want; go_big_quiet_op; go_big_quiet_on) | refine id (?_ : wpQuiet _ _ _ _ (_ :: _) _))
 refine wpQuiet_nil ?_
 clear z2 z5 zz
 unfold wpPl
 refine NoPanic.normal ?_
 have hrW := rd_step hr hm (Nat.le_refl _) os.up
 have x1 := os.bx.cell 1
 go_wp2_with fail
 refine (kb.out _ (hrW.more os.up.size)).mono ?_
 rintro e W2 ⟨rfl, hb2⟩
 replace os := os.bel_ hb2
 clear x1 hrW hb2 kb
 have x3 := os.bx.cell 3
 go_upto_region 12 with fail
 clear x3
 have z1 : ∀ w', (∃ t : Tw (OC c gn pb fm w.heap.size (A9 ou xA xn xc ti po) (A6 f0 f1 f2) pv0), w' = t.w) → ∀ j u, ([.int .i64 c.wk, .int .u32 c.ou, .int .i64 c.lo, .int .i64 c.hi, .int .i64 c.bk, .int .i64 c.rg] : List Value)[j]? = some u → w'.cell? ⟨gn, 0 + j, none⟩ = some u := fun w' ⟨t, ht⟩ j u hu => by
  rw [ht, Nat.zero_add, t.h.obj.cell]
  match j with
  | 0 | 1 | 2 | 3 | 4 | 5 => exact hu
  | j + 6 => simp at hu
 have z2 : ∀ t : Tw (OC c gn pb fm w.heap.size (A9 ou xA xn xc ti po) (A6 f0 f1 f2) pv0), t.w.cell? ⟨w.heap.size + 1, 0, none⟩ = some (.int .i64 f0) := fun t => t.h.bf.cell 0
 have z3 : ∀ t : Tw (OC c gn pb fm w.heap.size (A9 ou xA xn xc ti po) (A6 f0 f1 f2) pv0), t.w.cell? ⟨w.heap.size, 3, none⟩ = some (.int .i64 po) := fun t => t.h.bx.cell 3
 have zz : Nonempty (Tw (OC c gn pb fm w.heap.size (A9 ou xA xn xc ti po) (A6 f0 f1 f2) pv0)) := ⟨⟨_, os.oc⟩⟩
 refine wp_region_plan (OC c gn pb fm w.heap.size (A9 ou xA xn xc ti po) (A6 f0 f1 f2) pv0) [(0, true), (1, true), (2, true), (3, true), (4, true), (5, true), (6, true), (7, true), (8, false), (9, true)] (by kernel_rfl) (by kernel_rfl) (by kernel_rfl) (by kernel_rfl) os.drew.oc ?_
 replace os := os.drew
 generalize W2.drew = W3 at *
 refine wpPl_qs 8 _ _ _ (by kernel_rfl) (by kernel_rfl) (by simp) ?_
 unfold clsS
 simp only [qq1, qq2, qq3, qq4, List.filterMap_cons, qq6, qq7, qq8, qq9]
 repeat (first
  | go_big_quiet_skip
  | (go_big_quiet_want; first | (refine quiet_ldAt rfl rfl z1 Tryz.underlying31 cf_size ?_; go_simp; go_big_quiet_on) | (go_big_quiet_op; go_big_quiet_on))
  | (refine id (?_ : wpQuiet _ _ _ _ (_ :: _) _); first | go_big_quiet_skip | (go_big_quiet_want; first | (refine quiet_ldAt rfl rfl z1 Tryz.underlying31 cf_size ?_; go_simp; go_big_quiet_on) | (go_big_quiet_op; go_big_quiet_on))))
 refine wpQuiet_nil ?_
 refine wpPl_e _ (by rfl) (by kernel_rfl) (fun K hK => ?_)
 go_simp
 refine (kp.out _).mono ?_
 rintro e W4 ⟨rfl, hb4⟩
 replace os := os.bel_ hb4
 refine hK _ _ os.oc ?_
 clear hK K hb4 kp
 refine wpPl_qs 1 _ _ _ (by kernel_rfl) (by kernel_rfl) (by simp) ?_
 unfold clsS
 simp only [qq1, qq2, qq3, qq4, List.filterMap_cons, qq6, qq7, qq8, qq9]
 repeat (first | go_big_quiet_skip | (go_big_quiet_want; go_big_quiet_op; go_big_quiet_on) | refine id (?_ : wpQuiet _ _ _ _ (_ :: _) _))
 refine wpQuiet_nil ?_
 unfold wpPl
 refine NoPanic.normal ?_
 clear z1 z2 z3 zz
 have hlook := os.nm.pl.look hkr
 have q6 := os.nm.obj.cell 6
 rw [hat] at hlook
 simp only [lookB] at hlook
 have os2 := os.bel_ (below_setRow (bel_alloc W4 (.cells Z6 95)) (Nat.le_refl _) Z6)
 have d3 : decide (PL < 0) = false := by simpa using hgood
 go_upto_region 16 with (first
  | (refine wpList_look rfl rfl rfl rfl hlook ?_)
  | (refine wpList_stRow rfl rfl rfl rfl rfl (Blk.new W4 _ _) bd_size rfl (by simp [Value.oneCell']) ?_; generalize (W4.alloc (.cells Z6 95)).setRow W4.heap.size Z6 = W5 at *; generalize W4.heap.size = gb at *))
 clear os hlook q6
 have os := os2
 clear os2
 have hkS : keyB c ⟨⟨f0, f1, f2⟩, po, nx, ti⟩ = PL := hPL.out
 replace hkS := Lib.hid hkS
 have z1 : ∀ t : Tw (OC c gn pb fm w.heap.size (A9 ou xA xn xc ti po) (A6 f0 f1 f2) pv0), t.w.cell? ⟨gn, 6, none⟩ = some (.map (some pb)) := fun t => t.h.obj.cell 6
 have z2 : ∀ t : Tw (OC c gn pb fm w.heap.size (A9 ou xA xn xc ti po) (A6 f0 f1 f2) pv0), t.w.cell? ⟨w.heap.size + 1, 0, none⟩ = some (.int .i64 f0) := fun t => t.h.bf.cell 0
 have z3 : ∀ t : Tw (OC c gn pb fm w.heap.size (A9 ou xA xn xc ti po) (A6 f0 f1 f2) pv0), t.w.cell? ⟨w.heap.size, 3, none⟩ = some (.int .i64 po) := fun t => t.h.bx.cell 3
 have z4 : ∀ t : Tw (OC c gn pb fm w.heap.size (A9 ou xA xn xc ti po) (A6 f0 f1 f2) pv0), t.w.cell? ⟨w.heap.size, 2, none⟩ = some (.int .i64 ti) := fun t => t.h.bx.cell 2
 have z6 : ∀ t : Tw (OC c gn pb fm w.heap.size (A9 ou xA xn xc ti po) (A6 f0 f1 f2) pv0), t.w.cell? ⟨w.heap.size + 1 + 1, 3, none⟩ = some (.int .i64 p.flags) := fun t => (t.h.bp.cell 3).trans hps.out.2
 have z5 : ∀ w', (∃ t : Tw (OC c gn pb fm w.heap.size (A9 ou xA xn xc ti po) (A6 f0 f1 f2) pv0), w' = t.w) → Blk w' (w.heap.size + 1) 87 (A6 f0 f1 f2) := fun w' ⟨t, ht⟩ => ht ▸ t.h.bf
 have zz : Nonempty (Tw (OC c gn pb fm w.heap.size (A9 ou xA xn xc ti po) (A6 f0 f1 f2) pv0)) := ⟨⟨_, os.oc⟩⟩
 refine wp_region_plan (OC c gn pb fm w.heap.size (A9 ou xA xn xc ti po) (A6 f0 f1 f2) pv0) [(0, true), (1, true), (2, true), (3, true), (4, true), (5, true), (6, true), (7, true), (8, true), (9, true), (10, true), (11, true), (13, true), (14, true), (12, false), (15, true), (16, false)] (by kernel_rfl) (by kernel_rfl) (by kernel_rfl) (by kernel_rfl) os.drew.oc ?_
 replace os := os.drew
 generalize W5.drew = W6 at *
 refine wpPl_qs 14 _ _ _ (by kernel_rfl) (by kernel_rfl) (by simp) ?_
 unfold clsS
 simp only [qq1, qq2, qq3, qq4, List.filterMap_cons, qq6, qq7, qq8, qq9]
 repeat (first
  | go_big_quiet_skip
  | (go_big_quiet_want; first | (refine quiet_ldRow rfl rfl z5 Tryz.underlying87 fl_size ?_; go_simp; go_big_quiet_on) | (go_big_quiet_op; go_big_quiet_on))
  | (refine id (?_ : wpQuiet _ _ _ _ (_ :: _) _); first | go_big_quiet_skip | (go_big_quiet_want; first | (refine quiet_ldRow rfl rfl z5 Tryz.underlying87 fl_size ?_; go_simp; go_big_quiet_on) | (go_big_quiet_op; go_big_quiet_on))))
 refine wpQuiet_nil ?_
 refine wpPl_e _ (by rfl) (by kernel_rfl) (fun K hK => ?_)
 go_simp
 refine (kn.out _).mono ?_
 rintro e W7 ⟨rfl, rfl⟩
 refine hK _ _ os.oc ?_
 clear hK K kn
 refine wpPl_qs 1 _ _ _ (by kernel_rfl) (by kernel_rfl) (by simp) ?_
 unfold clsS
 simp only [qq1, qq2, qq3, qq4, List.filterMap_cons, qq6, qq7, qq8, qq9]
 repeat (first | go_big_quiet_skip | (go_big_quiet_want; go_big_quiet_op; go_big_quiet_on) | refine id (?_ : wpQuiet _ _ _ _ (_ :: _) _))
 refine wpQuiet_nil ?_
 obtain ⟨W7, hrun, hpl, hup⟩ := os.nm.pl.put (by omega) ⟨⟨f0, f1, f2⟩, po, nx, ti⟩ (by rw [hkS.out]; exact hkr)
 rw [hkS.out] at hrun
 simp only [Bd.cs] at hrun
 have hne := os.nm.ne
 refine wpPl_e _ (by rfl) (by kernel_rfl) (fun K hK => ?_)
 refine wp_updN rfl rfl rfl rfl rfl hrun ?_
 have om := os.mid hpl hup
 clear os hrun hpl hup
 refine hK _ _ om.oc ?_
 clear hK K z1 z2 z3 z4 z5 z6 zz
 unfold wpPl
 refine NoPanic.normal ?_
 go_upto_region 17 with fail
 have z1 : ∀ t : Tw (OC c gn pb fm w.heap.size (A9 ou xA xn xc ti po) (A6 f0 f1 f2) pv0), t.w.cell? ⟨gn, 7, none⟩ = some (.map (some fm)) := fun t => t.h.obj.cell 7
 have z5 : ∀ w', (∃ t : Tw (OC c gn pb fm w.heap.size (A9 ou xA xn xc ti po) (A6 f0 f1 f2) pv0), w' = t.w) → Blk w' (w.heap.size + 1) 87 (A6 f0 f1 f2) := fun w' ⟨t, ht⟩ => ht ▸ t.h.bf
 have zz : Nonempty (Tw (OC c gn pb fm w.heap.size (A9 ou xA xn xc ti po) (A6 f0 f1 f2) pv0)) := ⟨⟨_, om.oc⟩⟩
 refine wp_region_plan (OC c gn pb fm w.heap.size (A9 ou xA xn xc ti po) (A6 f0 f1 f2) pv0) [(0, true), (1, true), (2, true), (3, true), (4, true), (5, true), (6, false)] (by kernel_rfl) (by kernel_rfl) (by kernel_rfl) (by kernel_rfl) om.drew.oc ?_
 replace om := om.drew
 generalize W7.drew = W8 at *
 refine wpPl_qs 6 _ _ _ (by kernel_rfl) (by kernel_rfl) (by simp) ?_
 unfold clsS
 simp only [qq1, qq2, qq3, qq4, List.filterMap_cons, qq6, qq7, qq8, qq9]
 repeat (first
  | go_big_quiet_skip
  | (go_big_quiet_want; first | (refine quiet_ldRow rfl rfl z5 Tryz.underlying87 fl_size ?_; go_simp; go_big_quiet_on) | (go_big_quiet_op; go_big_quiet_on))
  | (refine id (?_ : wpQuiet _ _ _ _ (_ :: _) _); first | go_big_quiet_skip | (go_big_quiet_want; first | (refine quiet_ldRow rfl rfl z5 Tryz.underlying87 fl_size ?_; go_simp; go_big_quiet_on) | (go_big_quiet_op; go_big_quiet_on))))
 refine wpQuiet_nil ?_
 obtain ⟨W9, hrun, hfl, hup⟩ := om.fl.put (by omega) hfr hkr
 simp only [Fl.cs] at hrun
 refine wpPl_e _ (by rfl) (by kernel_rfl) (fun K hK => ?_)
 refine wp_updN rfl rfl rfl rfl rfl hrun ?_
 have os := om.fin hfl hup hne (fun g => by rw [hplo.out, hkS.out]) hinv.out
 clear om hrun hfl hup
 refine hK _ _ os.oc ?_
 clear hK K z1 z5 zz
 unfold wpPl
 refine NoPanic.normal ?_
 go_upto_region 18 with fail
 have z1 : ∀ t : Tw (OC c gn pb fm w.heap.size (A9 ou xA xn xc ti po) (A6 f0 f1 f2) pv0), t.w.cell? ⟨w.heap.size, 1, none⟩ = some (.slice xA xn xc) := fun t => t.h.bx.cell 1
 have z2 : ∀ t : Tw (OC c gn pb fm w.heap.size (A9 ou xA xn xc ti po) (A6 f0 f1 f2) pv0), t.w.cell? ⟨gn, 1, none⟩ = some (.int .u32 c.ou) := fun t => t.h.obj.cell 1
 have z3 : ∀ t : Tw (OC c gn pb fm w.heap.size (A9 ou xA xn xc ti po) (A6 f0 f1 f2) pv0), t.w.cell? ⟨w.heap.size, 3, none⟩ = some (.int .i64 po) := fun t => t.h.bx.cell 3
 have zz : Nonempty (Tw (OC c gn pb fm w.heap.size (A9 ou xA xn xc ti po) (A6 f0 f1 f2) pv0)) := ⟨⟨_, os.oc⟩⟩
 refine wp_region_plan (OC c gn pb fm w.heap.size (A9 ou xA xn xc ti po) (A6 f0 f1 f2) pv0) [(0, true), (1, true), (2, true), (3, true), (4, true), (5, true), (6, true), (7, true), (8, true), (9, true), (10, false), (11, true), (12, true), (13, false), (14, false)] (by kernel_rfl) (by kernel_rfl) (by kernel_rfl) (by kernel_rfl) os.drew.oc ?_
 replace os := os.drew
 clear W3
 generalize W9.drew = W3 at *
 have hw := hw16.out
 refine wpPl_qs 10 _ _ _ (by kernel_rfl) (by kernel_rfl) (by simp) ?_
 unfold clsS
 simp only [qq1, qq2, qq3, qq4, List.filterMap_cons, qq6, qq7, qq8, qq9]
 repeat (first | go_big_quiet_skip | (go_big_quiet_want; go_big_quiet_op; go_big_quiet_on) | refine id (?_ : wpQuiet _ _ _ _ (_ :: _) _))
 refine wpQuiet_nil ?_
 clear hw
 have hrW := rd_step hr hm (Nat.le_refl _) os.up
 have hs3 : w.heap.size ≤ W3.heap.size := os.up.size
 refine wpPl_e _ (by rfl) (by kernel_rfl) (fun K hK => ?_)
 go_simp
 refine (kro.out _ hrW hs3).mono ?_
 intro e W4 hch
 obtain ⟨vA, vn, vc, rfl, own, hb4⟩ := chg_own hnil.out hch
 replace os := os.bel_ hb4
 replace own := Own.lower own hs3
 refine hK _ _ os.oc ?_
 clear hK K hch hb4 hrW
 refine wpPl_qs 2 _ _ _ (by kernel_rfl) (by kernel_rfl) (by simp) ?_
 unfold clsS
 simp only [qq1, qq2, qq3, qq4, List.filterMap_cons, qq6, qq7, qq8, qq9]
 repeat (first | go_big_quiet_skip | (go_big_quiet_want; go_big_quiet_op; go_big_quiet_on) | refine id (?_ : wpQuiet _ _ _ _ (_ :: _) _))
 refine wpQuiet_nil ?_
 refine wpPl_e _ (by rfl) (by kernel_rfl) (fun K hK => ?_)
 go_simp
 refine (told_any vA vn vc E W4).mono ?_
 rintro e W5 ⟨rfl, hb5⟩
 replace os := os.bel_ hb5
 replace own := Own.below own hb5
 refine hK _ _ os.oc ?_
 clear hK K hb5
 refine wpPl_e _ (by rfl) (by kernel_rfl) (fun K hK => ?_)
 refine wp_stRow rfl rfl rfl rfl os.ba an_size rfl (by simp [Value.oneCell']) ?_
 replace own := Own.updne own os.ba (by decide) (Upd.row' W5 (w.heap.size + 1 + 1 + 1) (A13 vA vn vc E))
 replace os := os.ans hlt1 hlt2 hlt3 (A13 vA vn vc E)
 refine hK _ _ os.oc ?_
 clear hK K
 unfold wpPl
 refine NoPanic.normal ?_
 go_wp2_with fail
 exact bodyPost_ret (results_row rfl _ rfl os.ba Tryz.underlying47 an_size) rfl ⟨_, _, _, rfl, own, os.nm, Nat.le_refl _, Nat.le_refl _, os.up⟩
end
end Go.Proofs.YtbichbdcibchlaaGreat
