/- Contracts and plain facts. -/
import Derived.Test.YtbichbdcibchlaaGreatPf14
import Derived.Test.YtbichbdcibchlaaGreatPf15
import Derived.Test.YtbichbdcibchlaaGreatPf04
import Derived.Test.YtbichbdcibchlaaGreatPf05
import Derived.Shelf.SlMaps.Clone
namespace Go.Proofs.YtbichbdcibchlaaGreat
set_option linter.unusedVariables false
set_option linter.unusedSimpArgs false
set_option maxRecDepth 100000
set_option maxHeartbeats 16000000
open Go.RowKit
section
open Go.RowKit Go.Maps
def outS (c : Cf) (L : List Bd) (f : Fl) (p : Pt) (l : List Int) (ti po : Int) : List Bd × Int × List Int :=
 match ofB f L with
 | some b => (if p.err = true then L else putB c (seenB b p true ti) L, rwE l, rwL l true c.ou b.po)
 | none =>
  if begP true l = false then (L, 7, []) else if po = -1 then (L, 8, []) else if po = -2 then (L, 9, []) else
  if placeP c f.pr po < 0 ∨ (atB c (placeP c f.pr po) L).isSome = true then (L, 1, []) else
  (putB c ⟨f, po, nxt f.pr 0 true (fb p.flags 4) (fb p.flags 1) (fb p.flags 2) (fb p.flags 16), ti⟩ L, rwE l, rwL l true c.ou po)
def inS (c : Cf) (L : List Bd) (f : Fl) (p : Pt) (l : List Int) (ti : Int) : List Bd × Int × List Int :=
 match atB c (placeP c f.pr f.po) L with
 | some b => (if p.err = true then L else putB c (seenB b p false ti) L, rwE l, rwL l false b.fl.ad b.fl.po)
 | none => (L, 7, [])
def stepP (c : Cf) (L : List Bd) (ou : Bool) (l : List Int) (ti po : Int) : List Bd × Int × List Int :=
 if ti < 0 ∨ 4294967295 < ti then (L, 1, []) else
 if (whoP c.ou ou l).2 ≠ 0 then (L, (whoP c.ou ou l).2, []) else
 if ou = true then outS c L (whoP c.ou ou l).1 (rdP l) l ti po else inS c L (whoP c.ou ou l).1 (rdP l) l ti
def IP (p : Pt) : Prop := 0 ≤ p.inner.proto ∧ p.inner.proto ≤ 255
theorem IP.z : IP Pt.z := ⟨by show (0:Int) ≤ 0; omega, by show (0:Int) ≤ 255; omega⟩
theorem at9 {l : List Int} (hl : ∀ y, y ∈ l → 0 ≤ y ∧ y ≤ 255) (j : Nat) : 0 ≤ l.getD j 0 ∧ l.getD j 0 ≤ 255 := by
 rw [List.getD_eq_getElem?_getD]
 rcases Nat.lt_or_ge j l.length with h | h
 ·rw [List.getElem?_eq_getElem h]; exact hl _ (List.getElem_mem _)
 ·rw [List.getElem?_eq_none h]; simp
theorem faultR_ip {p : Pt} {at_ : Int} {b : List Int} (hl : ∀ y, y ∈ b → 0 ≤ y ∧ y ≤ 255) : IP (faultR p at_ b).2 := by
 unfold faultR
 split
 ·exact IP.z
 split
 ·exact IP.z
 split
 ·exact at9 hl 9
 split
 ·exact at9 hl 9
 ·exact IP.z
theorem getR_ip {h : Hd} {b : List Int} (hl : ∀ y, y ∈ b → 0 ≤ y ∧ y ≤ 255) : IP (getR h b).2 := by
 unfold getR
 split
 ·exact IP.z
 split
 ·unfold udpR; repeat' split
  all_goals exact IP.z
 split
 ·unfold tcpR; repeat' split
  all_goals exact IP.z
 split
 ·unfold icmpR; repeat' split
  all_goals first
   | exact IP.z
   | exact faultR_ip (fun y hy => hl y (seg_mem (List.mem_of_mem_drop hy)))
 ·exact IP.z
theorem whoP_rng (o : Int) (ou : Bool) {l : List Int} (hl : ∀ y, y ∈ l → 0 ≤ y ∧ y ≤ 255) : (whoP o ou l).1.rng := by
 unfold whoP
 by_cases hE : rdE l = 0
 ·have hg : getE l = 0 := by
   unfold rdE at hE
   by_cases h2 : getE l = 0
   ·exact h2
   ·rw [if_neg h2] at hE; exact absurd hE h2
  have hH : rdH l = hdOf l := by unfold rdH; rw [if_pos hE]
  have hP : rdP l = (getR (hdOf l) l).2 := by unfold rdP; rw [if_pos hE]
  have hd := frm_bdh hl hg
  have hpb := getR_bd (h := hdOf l) hl
  have hip := getR_ip (h := hdOf l) hl
  have h9 := at9 hl 9
  rw [if_neg (fun h => h hE), hH, hP]
  have hin : (insF (hdOf l) (getR (hdOf l) l).2).rng := by
   unfold insF
   split
   ·exact ⟨i64_inr (by have := hip; unfold IP at this; show _ ≤ (getR (hdOf l) l).2.inner.proto ∧ (getR (hdOf l) l).2.inner.proto ≤ _; omega), u32_inr hpb.2.2.2, u16_inr hpb.2.1⟩
   ·exact ⟨i64_inr (by show _ ≤ l.getD 9 0 ∧ l.getD 9 0 ≤ _; omega), u32_inr hd.1, u16_inr hpb.1⟩
  have hout : (outF (hdOf l) (getR (hdOf l) l).2).rng := by
   unfold outF
   split
   ·exact ⟨i64_inr (by have := hip; unfold IP at this; show _ ≤ (getR (hdOf l) l).2.inner.proto ∧ (getR (hdOf l) l).2.inner.proto ≤ _; omega), u32_inr hpb.2.2.1, u16_inr hpb.1⟩
   ·exact ⟨i64_inr (by show _ ≤ l.getD 9 0 ∧ l.getD 9 0 ≤ _; omega), u32_inr hd.2, u16_inr hpb.2.1⟩
  split
  ·exact hin
  ·split
   ·exact Fl.z_rng
   ·exact hout
 ·rw [if_pos hE]; exact Fl.z_rng
theorem BdOk.port {c : Cf} (hc : c.ok) {b : Bd} (h : BdOk c b) : 1 ≤ b.po ∧ b.po ≤ 65535 := placeP_port hc h.key
theorem atB_seen {c : Cf} {L : List Bd} (h : LInv c L) {b : Bd} (hb : b ∈ L) (p : Pt) (o : Bool) {ti : Int} (ht : 0 ≤ ti ∧ ti ≤ 4294967295) : atB c (keyB c b) (putB c (seenB b p o ti) L) = some (seenB b p o ti) :=
 atB_of (h.put_old hb (b' := seenB b p o ti) rfl rfl (seenB_ok (h.ok b hb) p o ht)) (b := seenB b p o ti) (mem_putB.2 (.inl rfl))
theorem out_any (c : Cf) (gn pb fm np nf : Nat) (L : List Bd) (ou : Bool) (xA : Option Addr) (xn xc : Nat) (ti po : Int) (f : Fl) (p : Pt) (l : List Int) (w : World) (hm : NatM w c gn pb fm np nf L) (hc : c.ok) (hou : 0 ≤ c.ou ∧ c.ou ≤ 4294967295) (hfr : f.rng)
  (hti : 0 ≤ ti ∧ ti ≤ 4294967295) (hn1 : np < 900000) (hn2 : nf < 900000) (hout : ou = true) (hr : Rd .u8 w w.heap.size xA xn l) (hlc : xn ≤ xc) (hcm : xc ≤ 9223372036854775807) (hl : xn ≤ 60000) :
  Calls Tryz.prog 26 #[.pointer (some ⟨gn, 0, none⟩), .agg (A9 ou xA xn xc ti po), .agg f.cs, p.val] w (AnsR w c gn pb fm np nf (outS c L f p l ti po).1 (outS c L f p l ti po).2.1 (outS c L f p l ti po).2.2) := by
 subst hout
 unfold outS
 cases hb : ofB f L with
 | some b =>
  obtain ⟨hbm, _⟩ := ofB_some hb
  have hpo := (hm.inv.ok b hbm).port hc
  simp only
  by_cases he : p.err = true
  ·rw [if_pos he]
   exact out_old c gn pb fm np nf np L L b b true xA xn xc ti po f p l w hm hc hou hfr hb (atB_of hm.inv hbm) rfl hpo (Nat.le_succ _) (fun W hM => seen_err c gn pb fm np nf L (keyB c b) true xA xn xc ti po p W hM he) hr hlc hcm hl
  ·rw [if_neg he]
   exact out_old c gn pb fm np nf (np + 1) L _ b (seenB b p true ti) true xA xn xc ti po f p l w hm hc hou hfr hb (atB_seen hm.inv hbm p true hti) rfl hpo (Nat.le_refl _) (fun W hM => seen_any c gn pb fm np nf L b true xA xn xc ti po p W hM hc hbm hn1 hti (by simpa using he)) hr hlc hcm hl
 | none =>
  simp only
  cases hbg : begP true l with
  | false => exact out_none c gn pb fm np nf L true xA xn xc ti po f p l w hm hfr hb hbg hr hlc hcm hl
  | true =>
   rw [if_neg (by simp)]
   by_cases h1 : po = -1
   ·have := out_port c gn pb fm np nf L true xA xn xc ti po f p l w hm hfr hb hbg (.inl h1) hr hlc hcm hl
    rw [if_pos h1] at this ⊢
    exact this
   ·by_cases h2 : po = -2
    ·have := out_port c gn pb fm np nf L true xA xn xc ti po f p l w hm hfr hb hbg (.inr h2) hr hlc hcm hl
     rw [if_neg h1] at this ⊢
     rw [if_pos h2]
     exact this
    ·rw [if_neg h1, if_neg h2]
     by_cases hbad : placeP c f.pr po < 0 ∨ (atB c (placeP c f.pr po) L).isSome = true
     ·rw [if_pos hbad]
      exact out_bad c gn pb fm np nf L true xA xn xc ti po f p l w hm hc hfr hb hbg h1 h2 hbad hr hlc hcm hl
     ·rw [if_neg hbad]
      have h3 : 0 ≤ placeP c f.pr po := by omega
      have h4 : atB c (placeP c f.pr po) L = none := by
       cases h : atB c (placeP c f.pr po) L with
       | none => rfl
       | some y => exact absurd (.inr (by rw [h]; rfl)) hbad
      exact out_new c gn pb fm np nf L true xA xn xc ti po f p l w hm hc hou hfr hb hbg h1 h2 h3 h4 hti hn1 hn2 hr hlc hcm hl
end
section
open Go.RowKit Go.Maps
theorem KeepO.belM {o : Obj} {w w' : World} (h : Below w.heap.size w w') : KeepO o w w' := fun k hk => by
 have hlt : k < w.heap.size := (Array.getElem?_eq_some_iff.1 hk).1
 rw [h.block k hlt]; exact hk
structure SS (w W : World) (c : Cf) (gn pb fm np nf : Nat) (L : List Bd) (xv av : Array Value) : Prop where
 nm : NatM W c gn pb fm np nf L
 bx : Blk W w.heap.size 50 xv
 ba : Blk W (w.heap.size + 1) 47 av
 up : Upd (fun k => k = pb ∨ k = fm) w W
section
variable {w W W' : World} {c : Cf} {gn pb fm np nf np' nf' : Nat} {L L' : List Bd} {xv av : Array Value}
theorem SS.bel_ (h : SS w W c gn pb fm np nf L xv av) (hb : Below W.heap.size W W') : SS w W' c gn pb fm np nf L xv av :=
 ⟨h.nm.bel_ hb, h.bx.bel hb, h.ba.bel hb, h.up.trans (Upd.of_below hb _)⟩
theorem NatM.keepB (h : NatM W c gn pb fm np nf L) {g : Nat} {t : TypeId} {cs : Array Value} (hb : Blk W g t cs) (hu : Upd (fun k => k = pb ∨ k = fm) W W') : Blk W' g t cs := hb.upd hu (fun e => by
 rcases e with e | e
 ·exact h.pl.notBlk hb e
 ·exact h.fl.notBlk hb e)
theorem SS.step (h : SS w W c gn pb fm np nf L xv av) (hm : NatM W' c gn pb fm np' nf' L') (hu : Upd (fun k => k = pb ∨ k = fm) W W') : SS w W' c gn pb fm np' nf' L' xv av :=
 ⟨hm, h.nm.keepB h.bx hu, h.nm.keepB h.ba hu, h.up.trans hu⟩
theorem SS.ans (h : SS w W c gn pb fm np nf L xv av) (hgn : gn < w.heap.size) (hpb : pb < w.heap.size) (hfm : fm < w.heap.size) (av' : Array Value) : SS w (W.setRow (w.heap.size + 1) av') c gn pb fm np nf L xv av' := by
 have hu := Upd.row' W (w.heap.size + 1) av'
 exact ⟨⟨h.nm.obj.upd hu (by omega), h.nm.pl.upd hu (by omega), h.nm.fl.upd hu (by omega), h.nm.ne, h.nm.inv⟩, h.bx.upd hu (by omega), h.ba.setRow av',
  ⟨hu.os.trans h.up.os, hu.tape.trans h.up.tape, hu.output.trans h.up.output, Nat.le_trans h.up.size hu.size, fun k hk hS => (hu.block k (Nat.lt_of_lt_of_le hk h.up.size) (by omega)).trans (h.up.block k hk hS)⟩⟩
end
theorem Step_bad (c : Cf) (gn pb fm np nf : Nat) (L : List Bd) (ou : Bool) (xA : Option Addr) (xn xc : Nat) (ti po : Int) (w : World) (hm : NatM w c gn pb fm np nf L) (ht : ti < 0 ∨ 4294967295 < ti) :
  Calls Tryz.prog 10 #[.pointer (some ⟨gn, 0, none⟩), .agg (A9 ou xA xn xc ti po)] w (AnsR w c gn pb fm np nf L 1 []) := by
 rcases Int.lt_or_le ti 0 with h1 | h1
 ·have d1 : decide (ti < 0) = true := by simpa using h1
  clear ht
  have hlt1 := hm.obj.lt
  have hlt2 := hm.pl.lt
  have hlt3 := hm.fl.lt
  go_enter Tryz.func10, Tryz.ntmps10
  go_upto_region 1 with fail
  have ss : SS w ((w.alloc (.cells (A9 ou xA xn xc ti po) 50)).alloc (.cells Z3 47)) c gn pb fm np nf L (A9 ou xA xn xc ti po) Z3 := by
   have e1 : (w.alloc (.cells (A9 ou xA xn xc ti po) 50)).heap.size = w.heap.size + 1 := by simp
   have b1 := Blk.new w 50 (A9 ou xA xn xc ti po)
   have b2 := Blk.new (w.alloc (.cells (A9 ou xA xn xc ti po) 50)) 47 Z3
   rw [e1] at b2
   exact ⟨(hm.alloc _).alloc _, b1.alloc _, b2, ((Upd.refl _ w).alloc _).alloc _⟩
  generalize (w.alloc (.cells (A9 ou xA xn xc ti po) 50)).alloc (.cells Z3 47) = W at *
  have x2 := ss.bx.cell 2
  have ba := ss.ba
  go_wp2_with (refine wpList_stRow rfl rfl rfl rfl rfl ba an_size rfl (by simp [Value.oneCell']) ?_)
  have ss2 := ss.ans hlt1 hlt2 hlt3 (A13 none 0 0 1)
  exact bodyPost_ret (results_row rfl _ rfl ss2.ba Tryz.underlying47 an_size) rfl ⟨_, _, _, rfl, Own.nil _ _ _ _, ss2.nm, Nat.le_succ _, Nat.le_succ _, ss2.up⟩
 ·have d1 : decide (ti < 0) = false := by simpa using h1
  have d2 : decide (4294967295 < ti) = true := by simp; omega
  clear ht
  have hlt1 := hm.obj.lt
  have hlt2 := hm.pl.lt
  have hlt3 := hm.fl.lt
  go_enter Tryz.func10, Tryz.ntmps10
  go_upto_region 1 with fail
  have ss : SS w ((w.alloc (.cells (A9 ou xA xn xc ti po) 50)).alloc (.cells Z3 47)) c gn pb fm np nf L (A9 ou xA xn xc ti po) Z3 := by
   have e1 : (w.alloc (.cells (A9 ou xA xn xc ti po) 50)).heap.size = w.heap.size + 1 := by simp
   have b1 := Blk.new w 50 (A9 ou xA xn xc ti po)
   have b2 := Blk.new (w.alloc (.cells (A9 ou xA xn xc ti po) 50)) 47 Z3
   rw [e1] at b2
   exact ⟨(hm.alloc _).alloc _, b1.alloc _, b2, ((Upd.refl _ w).alloc _).alloc _⟩
  generalize (w.alloc (.cells (A9 ou xA xn xc ti po) 50)).alloc (.cells Z3 47) = W at *
  have x2 := ss.bx.cell 2
  have ba := ss.ba
  go_wp2_with (refine wpList_stRow rfl rfl rfl rfl rfl ba an_size rfl (by simp [Value.oneCell']) ?_)
  have ss2 := ss.ans hlt1 hlt2 hlt3 (A13 none 0 0 1)
  exact bodyPost_ret (results_row rfl _ rfl ss2.ba Tryz.underlying47 an_size) rfl ⟨_, _, _, rfl, Own.nil _ _ _ _, ss2.nm, Nat.le_succ _, Nat.le_succ _, ss2.up⟩
theorem Step_err (c : Cf) (gn pb fm np nf : Nat) (L : List Bd) (ou : Bool) (xA : Option Addr) (xn xc : Nat) (ti po : Int) (l : List Int) (w : World) (hm : NatM w c gn pb fm np nf L) (ht : 0 ≤ ti ∧ ti ≤ 4294967295) (hE : (whoP c.ou ou l).2 ≠ 0)
  (hr : Rd .u8 w w.heap.size xA xn l) (hlc : xn ≤ xc) (hcm : xc ≤ 9223372036854775807) (hl : xn ≤ 60000) :
  Calls Tryz.prog 10 #[.pointer (some ⟨gn, 0, none⟩), .agg (A9 ou xA xn xc ti po)] w (AnsR w c gn pb fm np nf L (whoP c.ou ou l).2 []) := by
 have kw := fun W (hr : Rd .u8 W W.heap.size xA xn l) => Whose_any c.wk c.ou c.lo c.hi c.bk c.rg ou l xA xn xc W hr hlc hcm hl
 unfold WhoR at kw
 generalize hwho : whoP c.ou ou l = R at *
 obtain ⟨⟨f0, f1, f2⟩, EE⟩ := R
 simp only [Fl.cs] at kw
 replace kw := Lib.hid kw
 replace hwho := Lib.hid hwho
 have d1 : decide (ti < 0) = false := by simp; omega
 have d2 : decide (4294967295 < ti) = false := by simp; omega
 have hlt1 := hm.obj.lt
 have hlt2 := hm.pl.lt
 have hlt3 := hm.fl.lt
 go_enter Tryz.func10, Tryz.ntmps10
 go_upto_region 1 with fail
 have ss : SS w ((w.alloc (.cells (A9 ou xA xn xc ti po) 50)).alloc (.cells Z3 47)) c gn pb fm np nf L (A9 ou xA xn xc ti po) Z3 := by
  have e1 : (w.alloc (.cells (A9 ou xA xn xc ti po) 50)).heap.size = w.heap.size + 1 := by simp
  have b1 := Blk.new w 50 (A9 ou xA xn xc ti po)
  have b2 := Blk.new (w.alloc (.cells (A9 ou xA xn xc ti po) 50)) 47 Z3
  rw [e1] at b2
  exact ⟨(hm.alloc _).alloc _, b1.alloc _, b2, ((Upd.refl _ w).alloc _).alloc _⟩
 generalize (w.alloc (.cells (A9 ou xA xn xc ti po) 50)).alloc (.cells Z3 47) = W at *
 have x2 := ss.bx.cell 2
 go_upto_region 3 with fail
 clear x2
 have z1 : ∀ w', (∃ t : Tw (Up W), w' = t.w) → ∀ j u, ([.int .i64 c.wk, .int .u32 c.ou, .int .i64 c.lo, .int .i64 c.hi, .int .i64 c.bk, .int .i64 c.rg] : List Value)[j]? = some u → w'.cell? ⟨gn, 0 + j, none⟩ = some u := fun w' ⟨t, ht⟩ j u hu => by
  rw [ht, Nat.zero_add, (ss.nm.obj.bel t.h).cell]
  match j with
  | 0 | 1 | 2 | 3 | 4 | 5 => exact hu
  | j + 6 => simp at hu
 have z2 : ∀ t : Tw (Up W), t.w.cell? ⟨w.heap.size, 0, none⟩ = some (.bool ou) := fun t => (ss.bx.bel t.h).cell 0
 have z3 : ∀ t : Tw (Up W), t.w.cell? ⟨w.heap.size, 1, none⟩ = some (.slice xA xn xc) := fun t => (ss.bx.bel t.h).cell 1
 have zz := Up.one W
 have hrW := rd_step hr hm (Nat.le_refl _) ss.up
 have hsW := ss.up.size
 refine wp_region_float (Up W) (.cells Z2 87) W.heap.size (fun h => .pointer (some ⟨h, 0, none⟩)) 12 _ [(0, true), (1, true), (2, true), (3, true), (4, true), (5, true), (6, true), (7, true), (8, false), (9, true), (10, true), (11, true)] [(13, false), (14, true)] (by kernel_rfl) (by kernel_rfl) (by rfl) (by rfl) (by kernel_rfl) (by kernel_rfl) (Below.refl _ _).drew (fun w' h => Below.alloc h (Below.size h) _) (fun w' h => Below.size h) (by intro a w; simp [execOp, go_sem]) ?_
 refine wpFl_qs 8 _ _ _ (by kernel_rfl) (by kernel_rfl) (by simp) ?_
 unfold clsS
 simp only [qq1, qq2, qq3, qq4, List.filterMap_cons, qq6, qq7, qq8, qq9]
 repeat (first
  | go_big_quiet_skip
  | (go_big_quiet_want; first | (refine quiet_ldAt rfl rfl z1 Tryz.underlying31 cf_size ?_; go_simp; go_big_quiet_on) | (go_big_quiet_op; go_big_quiet_on))
  | (refine id (?_ : wpQuiet _ _ _ _ (_ :: _) _); first | go_big_quiet_skip | (go_big_quiet_want; first | (refine quiet_ldAt rfl rfl z1 Tryz.underlying31 cf_size ?_; go_simp; go_big_quiet_on) | (go_big_quiet_op; go_big_quiet_on))))
 refine wpQuiet_nil ?_
 refine wpFl_e (fun _ => True) _ (by rfl) (by kernel_rfl) trivial (fun _ _ => trivial) (fun W1 _ hS1 K hK => ?_)
 go_simp
 refine (kw.out W1 ((hrW.below (Below.mono hS1 hsW)).more (Nat.le_trans hsW (Below.size hS1)))).mono ?_
 rintro e W2 ⟨rfl, hb2⟩
 refine hK _ _ (bel_after hS1 hb2) (KeepO.belM hb2) ?_
 clear hK K hb2 kw
 refine wpFl_qs 3 _ _ _ (by kernel_rfl) (by kernel_rfl) (by simp) ?_
 unfold clsS
 simp only [qq1, qq2, qq3, qq4, List.filterMap_cons, qq6, qq7, qq8, qq9]
 repeat (first | go_big_quiet_skip | (go_big_quiet_want; go_big_quiet_op; go_big_quiet_on) | refine id (?_ : wpQuiet _ _ _ _ (_ :: _) _))
 refine wpQuiet_nil ?_
 unfold wpFl
 refine ⟨fun _ => True, trivial, fun _ _ => trivial, fun W3 gf _ hS3 hgf hbf => ?_⟩
 clear hS1
 replace hbf : Blk W3 gf 87 Z2 := hbf
 go_simp
 refine wpPl_e _ (by rfl) (by kernel_rfl) (fun K hK => ?_)
 refine wp_stRow rfl rfl rfl rfl hbf fl_size rfl (by simp [Value.oneCell']) ?_
 have bf := hbf.setRow (A6 f0 f1 f2)
 have hS4 := below_setRow hS3 hgf (A6 f0 f1 f2)
 refine hK _ _ hS4 ?_
 clear hK K hbf hS3 z1 z2 z3 zz
 refine wpPl_qs 1 _ _ _ (by kernel_rfl) (by kernel_rfl) (by simp) ?_
 unfold clsS
 simp only [qq1, qq2, qq3, qq4, List.filterMap_cons, qq6, qq7, qq8, qq9]
 repeat (first | go_big_quiet_skip | (go_big_quiet_want; go_big_quiet_op; go_big_quiet_on) | refine id (?_ : wpQuiet _ _ _ _ (_ :: _) _))
 refine wpQuiet_nil ?_
 unfold wpPl
 refine NoPanic.normal ?_
 replace ss := ss.bel_ hS4
 clear hS4 hrW
 generalize W3.setRow gf (A6 f0 f1 f2) = W4 at *
 have d3 : (EE != 0) = true := by simpa using hE
 clear hE
 have ba := ss.ba
 go_wp2_with (refine wpList_stRow rfl rfl rfl rfl rfl ba an_size rfl (by simp [Value.oneCell']) ?_)
 have ss2 := ss.ans hlt1 hlt2 hlt3 (A13 none 0 0 EE)
 exact bodyPost_ret (results_row rfl _ rfl ss2.ba Tryz.underlying47 an_size) rfl ⟨_, _, _, rfl, Own.nil _ _ _ _, ss2.nm, Nat.le_succ _, Nat.le_succ _, ss2.up⟩
end
section
open Go.RowKit Go.Maps
theorem Step_out (c : Cf) (gn pb fm np nf : Nat) (L : List Bd) (xA : Option Addr) (xn xc : Nat) (ti po : Int) (l : List Int) (w : World) (hm : NatM w c gn pb fm np nf L) (hc : c.ok) (hou : 0 ≤ c.ou ∧ c.ou ≤ 4294967295) (ht : 0 ≤ ti ∧ ti ≤ 4294967295) (hE : (whoP c.ou true l).2 = 0)
  (hn1 : np < 900000) (hn2 : nf < 900000) (hr : Rd .u8 w w.heap.size xA xn l) (hlc : xn ≤ xc) (hcm : xc ≤ 9223372036854775807) (hl : xn ≤ 60000) (R : List Bd × Int × List Int) (hR : outS c L (whoP c.ou true l).1 (rdP l) l ti po = R) :
  Calls Tryz.prog 10 #[.pointer (some ⟨gn, 0, none⟩), .agg (A9 true xA xn xc ti po)] w (AnsR w c gn pb fm np nf R.1 R.2.1 R.2.2) := by
 obtain ⟨ou, hou2⟩ : ∃ ou, ou = true := ⟨_, rfl⟩
 rw [← hou2] at hE hR ⊢
 have hfr := whoP_rng c.ou ou (fun x hx => inr_u8 (hr.rng x hx))
 have ko := fun W (hM : NatM W c gn pb fm np nf L) (hr : Rd .u8 W W.heap.size xA xn l) => out_any c gn pb fm np nf L ou xA xn xc ti po (whoP c.ou ou l).1 (rdP l) l W hM hc hou hfr ht hn1 hn2 hou2 hr hlc hcm hl
 rw [hR] at ko
 clear hR
 obtain ⟨L', E', X'⟩ := R
 unfold AnsR at ko
 simp only at ko
 subst hou2
 obtain ⟨ou, hou2⟩ : ∃ ou, ou = true := ⟨_, rfl⟩
 rw [← hou2] at ko hE hfr ⊢
 replace hou2 := Lib.hid hou2
 replace ko := Lib.hid ko
 have kr := fun W (hr : Rd .u8 W W.heap.size xA xn l) => read_any l xA xn xc W hr hlc hcm hl
 unfold ReadR at kr
 generalize rdE l = rE at *
 generalize hrdP : rdP l = p at *
 generalize rdH l = h at *
 obtain ⟨h0, h1, h2, h3, h4, h5⟩ := h
 obtain ⟨pr, sr, ds, fl, ki, co_, er, ⟨isz, i1, i2, i3, i4, i5⟩, pat, ba_⟩ := p
 replace hrdP := Lib.hid hrdP
 simp only [Hd.val, Pt.val] at kr
 replace kr := Lib.hid kr
 replace hE := Lib.hid hE
 have kw := fun W (hr : Rd .u8 W W.heap.size xA xn l) => Whose_any c.wk c.ou c.lo c.hi c.bk c.rg ou l xA xn xc W hr hlc hcm hl
 unfold WhoR at kw
 generalize hwho : whoP c.ou ou l = R at *
 obtain ⟨⟨f0, f1, f2⟩, EE⟩ := R
 simp only [Fl.cs] at kw
 replace kw := Lib.hid kw
 replace hwho := Lib.hid hwho
 have d1 : decide (ti < 0) = false := by simp; omega
 have d2 : decide (4294967295 < ti) = false := by simp; omega
 have hlt1 := hm.obj.lt
 have hlt2 := hm.pl.lt
 have hlt3 := hm.fl.lt
 go_enter Tryz.func10, Tryz.ntmps10
 go_upto_region 1 with fail
 have ss : SS w ((w.alloc (.cells (A9 ou xA xn xc ti po) 50)).alloc (.cells Z3 47)) c gn pb fm np nf L (A9 ou xA xn xc ti po) Z3 := by
  have e1 : (w.alloc (.cells (A9 ou xA xn xc ti po) 50)).heap.size = w.heap.size + 1 := by simp
  have b1 := Blk.new w 50 (A9 ou xA xn xc ti po)
  have b2 := Blk.new (w.alloc (.cells (A9 ou xA xn xc ti po) 50)) 47 Z3
  rw [e1] at b2
  exact ⟨(hm.alloc _).alloc _, b1.alloc _, b2, ((Upd.refl _ w).alloc _).alloc _⟩
 generalize (w.alloc (.cells (A9 ou xA xn xc ti po) 50)).alloc (.cells Z3 47) = W at *
 have x2 := ss.bx.cell 2
 go_upto_region 3 with fail
 clear x2
 have z1 : ∀ w', (∃ t : Tw (Up W), w' = t.w) → ∀ j u, ([.int .i64 c.wk, .int .u32 c.ou, .int .i64 c.lo, .int .i64 c.hi, .int .i64 c.bk, .int .i64 c.rg] : List Value)[j]? = some u → w'.cell? ⟨gn, 0 + j, none⟩ = some u := fun w' ⟨t, ht⟩ j u hu => by
  rw [ht, Nat.zero_add, (ss.nm.obj.bel t.h).cell]
  match j with
  | 0 | 1 | 2 | 3 | 4 | 5 => exact hu
  | j + 6 => simp at hu
 have z2 : ∀ t : Tw (Up W), t.w.cell? ⟨w.heap.size, 0, none⟩ = some (.bool ou) := fun t => (ss.bx.bel t.h).cell 0
 have z3 : ∀ t : Tw (Up W), t.w.cell? ⟨w.heap.size, 1, none⟩ = some (.slice xA xn xc) := fun t => (ss.bx.bel t.h).cell 1
 have zz := Up.one W
 have hrW := rd_step hr hm (Nat.le_refl _) ss.up
 have hsW := ss.up.size
 refine wp_region_float (Up W) (.cells Z2 87) W.heap.size (fun h => .pointer (some ⟨h, 0, none⟩)) 12 _ [(0, true), (1, true), (2, true), (3, true), (4, true), (5, true), (6, true), (7, true), (8, false), (9, true), (10, true), (11, true)] [(13, false), (14, true)] (by kernel_rfl) (by kernel_rfl) (by rfl) (by rfl) (by kernel_rfl) (by kernel_rfl) (Below.refl _ _).drew (fun w' h => Below.alloc h (Below.size h) _) (fun w' h => Below.size h) (by intro a w; simp [execOp, go_sem]) ?_
 refine wpFl_qs 8 _ _ _ (by kernel_rfl) (by kernel_rfl) (by simp) ?_
 unfold clsS
 simp only [qq1, qq2, qq3, qq4, List.filterMap_cons, qq6, qq7, qq8, qq9]
 repeat (first
  | go_big_quiet_skip
  | (go_big_quiet_want; first | (refine quiet_ldAt rfl rfl z1 Tryz.underlying31 cf_size ?_; go_simp; go_big_quiet_on) | (go_big_quiet_op; go_big_quiet_on))
  | (refine id (?_ : wpQuiet _ _ _ _ (_ :: _) _); first | go_big_quiet_skip | (go_big_quiet_want; first | (refine quiet_ldAt rfl rfl z1 Tryz.underlying31 cf_size ?_; go_simp; go_big_quiet_on) | (go_big_quiet_op; go_big_quiet_on))))
 refine wpQuiet_nil ?_
 refine wpFl_e (fun _ => True) _ (by rfl) (by kernel_rfl) trivial (fun _ _ => trivial) (fun W1 _ hS1 K hK => ?_)
 go_simp
 refine (kw.out W1 ((hrW.below (Below.mono hS1 hsW)).more (Nat.le_trans hsW (Below.size hS1)))).mono ?_
 rintro e W2 ⟨rfl, hb2⟩
 refine hK _ _ (bel_after hS1 hb2) (KeepO.belM hb2) ?_
 clear hK K hb2 kw
 refine wpFl_qs 3 _ _ _ (by kernel_rfl) (by kernel_rfl) (by simp) ?_
 unfold clsS
 simp only [qq1, qq2, qq3, qq4, List.filterMap_cons, qq6, qq7, qq8, qq9]
 repeat (first | go_big_quiet_skip | (go_big_quiet_want; go_big_quiet_op; go_big_quiet_on) | refine id (?_ : wpQuiet _ _ _ _ (_ :: _) _))
 refine wpQuiet_nil ?_
 unfold wpFl
 refine ⟨fun _ => True, trivial, fun _ _ => trivial, fun W3 gf _ hS3 hgf hbf => ?_⟩
 clear hS1
 replace hbf : Blk W3 gf 87 Z2 := hbf
 go_simp
 refine wpPl_e _ (by rfl) (by kernel_rfl) (fun K hK => ?_)
 refine wp_stRow rfl rfl rfl rfl hbf fl_size rfl (by simp [Value.oneCell']) ?_
 have bf := hbf.setRow (A6 f0 f1 f2)
 have hS4 := below_setRow hS3 hgf (A6 f0 f1 f2)
 refine hK _ _ hS4 ?_
 clear hK K hbf hS3 z1 z2 z3 zz
 refine wpPl_qs 1 _ _ _ (by kernel_rfl) (by kernel_rfl) (by simp) ?_
 unfold clsS
 simp only [qq1, qq2, qq3, qq4, List.filterMap_cons, qq6, qq7, qq8, qq9]
 repeat (first | go_big_quiet_skip | (go_big_quiet_want; go_big_quiet_op; go_big_quiet_on) | refine id (?_ : wpQuiet _ _ _ _ (_ :: _) _))
 refine wpQuiet_nil ?_
 unfold wpPl
 refine NoPanic.normal ?_
 replace ss := ss.bel_ hS4
 clear hS4 hrW
 generalize W3.setRow gf (A6 f0 f1 f2) = W4 at *
 replace hE : EE = 0 := hE.out
 subst hE
 have x1 := ss.bx.cell 1
 go_wp2_with fail
 refine (kr.out W4 ((rd_step hr hm (Nat.le_refl _) ss.up).more ss.up.size)).mono ?_
 rintro e W5 ⟨rfl, hb5⟩
 replace ss := ss.bel_ hb5
 replace bf := bf.bel hb5
 clear hb5 kr x1
 have bh1 := (Blk.new W5 71 Z1).alloc (.cells Z0 76)
 have bp1 := Blk.new (W5.alloc (.cells Z1 71)) 76 Z0
 rw [show (W5.alloc (.cells Z1 71)).heap.size = W5.heap.size + 1 by simp] at bp1
 replace bp1 := bp1.setRow_far (g' := W5.heap.size) (by omega) (A4 h0 h1 h2 h3 h4 h5)
 have bp := bp1.setRow (A0 pr sr ds fl ki co_ er isz i1 i2 i3 i4 i5 pat ba_)
 have hb6 : Below W5.heap.size W5 ((((W5.alloc (.cells Z1 71)).alloc (.cells Z0 76)).setRow W5.heap.size (A4 h0 h1 h2 h3 h4 h5)).setRow (W5.heap.size + 1) (A0 pr sr ds fl ki co_ er isz i1 i2 i3 i4 i5 pat ba_)) := below_setRow (g := W5.heap.size + 1) (below_setRow (((bel_alloc W5 (.cells Z1 71)).alloc (by simp) (.cells Z0 76))) (Nat.le_refl _) (A4 h0 h1 h2 h3 h4 h5)) (by omega) (A0 pr sr ds fl ki co_ er isz i1 i2 i3 i4 i5 pat ba_)
 replace ss := ss.bel_ hb6
 replace bf := bf.bel hb6
 clear hb6
 go_upto_region 7 with (first | (refine wpList_stRow rfl rfl rfl rfl rfl bh1 hd_size rfl (by simp [Value.oneCell']) ?_) | (refine wpList_stRow rfl rfl rfl rfl rfl bp1 pt_size rfl (by simp [Value.oneCell']) ?_; generalize (((W5.alloc (.cells Z1 71)).alloc (.cells Z0 76)).setRow W5.heap.size (A4 h0 h1 h2 h3 h4 h5)).setRow (W5.heap.size + 1) (A0 pr sr ds fl ki co_ er isz i1 i2 i3 i4 i5 pat ba_) = W6 at *; generalize W5.heap.size = gh at *; clear bh1 bp1))
 replace hou2 : ou = true := hou2.out
 subst hou2
 have ko2 := ko.out W6 ss.nm ((rd_step hr hm (Nat.le_refl _) ss.up).more ss.up.size)
 simp only [Pt.val, Fl.cs] at ko2
 replace ko2 := Lib.hid ko2
 have bx := ss.bx
 have x0 := bx.cell 0
 go_wp2_with (first
  | (refine wpList_ldRow rfl rfl rfl bx Tryz.underlying50 ml_size ?_)
  | (refine wpList_ldRow rfl rfl rfl bf Tryz.underlying87 fl_size ?_)
  | (refine wpList_ldRow rfl rfl rfl bp Tryz.underlying76 pt_size ?_))
 refine ko2.out.mono ?_
 rintro e W7 ⟨v, np', nf', rfl, own, hM7, hn3, hn4, hup⟩
 clear ko ko2 bx x0
 have hs7 := ss.up.size
 replace ss := ss.step hM7 hup
 replace own := Own.lower own hs7
 obtain ⟨vA, vc, rfl, _⟩ := own.form rfl
 have ba := ss.ba
 replace own := Own.updne own ba (by decide) (Upd.row' W7 (w.heap.size + 1) (A13 vA X'.length vc E'))
 go_wp2_with (refine wpList_stRow rfl rfl rfl rfl rfl ba an_size rfl (by simp [Value.oneCell']) ?_)
 have ss2 := ss.ans hlt1 hlt2 hlt3 (A13 vA X'.length vc E')
 exact bodyPost_ret (results_row rfl _ rfl ss2.ba Tryz.underlying47 an_size) rfl ⟨_, _, _, rfl, own, ss2.nm, hn3, hn4, ss2.up⟩
end
section
open Go.RowKit Go.Maps
theorem Step_none (c : Cf) (gn pb fm np nf : Nat) (L : List Bd) (xA : Option Addr) (xn xc : Nat) (ti po : Int) (l : List Int) (w : World) (hm : NatM w c gn pb fm np nf L) (hc : c.ok) (ht : 0 ≤ ti ∧ ti ≤ 4294967295) (hE : (whoP c.ou false l).2 = 0)
  (hr : Rd .u8 w w.heap.size xA xn l) (hlc : xn ≤ xc) (hcm : xc ≤ 9223372036854775807) (hl : xn ≤ 60000) (hat : atB c (placeP c (whoP c.ou false l).1.pr (whoP c.ou false l).1.po) L = none) :
  Calls Tryz.prog 10 #[.pointer (some ⟨gn, 0, none⟩), .agg (A9 false xA xn xc ti po)] w (AnsR w c gn pb fm np nf L 7 []) := by
 have hfr := whoP_rng c.ou false (fun x hx => inr_u8 (hr.rng x hx))
 obtain ⟨ou, hou2⟩ : ∃ ou, ou = false := ⟨_, rfl⟩
 rw [← hou2] at hE hfr hat ⊢
 replace hou2 := Lib.hid hou2
 replace hfr := Lib.hid hfr
 replace hat := Lib.hid hat
 have kr := fun W (hr : Rd .u8 W W.heap.size xA xn l) => read_any l xA xn xc W hr hlc hcm hl
 unfold ReadR at kr
 generalize rdE l = rE at *
 generalize hrdP : rdP l = p at *
 generalize rdH l = h at *
 obtain ⟨h0, h1, h2, h3, h4, h5⟩ := h
 obtain ⟨pr, sr, ds, fl, ki, co_, er, ⟨isz, i1, i2, i3, i4, i5⟩, pat, ba_⟩ := p
 replace hrdP := Lib.hid hrdP
 simp only [Hd.val, Pt.val] at kr
 replace kr := Lib.hid kr
 replace hE := Lib.hid hE
 have kw := fun W (hr : Rd .u8 W W.heap.size xA xn l) => Whose_any c.wk c.ou c.lo c.hi c.bk c.rg ou l xA xn xc W hr hlc hcm hl
 unfold WhoR at kw
 generalize hwho : whoP c.ou ou l = R at *
 obtain ⟨⟨f0, f1, f2⟩, EE⟩ := R
 simp only [Fl.cs] at kw
 replace kw := Lib.hid kw
 replace hwho := Lib.hid hwho
 have d1 : decide (ti < 0) = false := by simp; omega
 have d2 : decide (4294967295 < ti) = false := by simp; omega
 have hlt1 := hm.obj.lt
 have hlt2 := hm.pl.lt
 have hlt3 := hm.fl.lt
 go_enter Tryz.func10, Tryz.ntmps10
 go_upto_region 1 with fail
 have ss : SS w ((w.alloc (.cells (A9 ou xA xn xc ti po) 50)).alloc (.cells Z3 47)) c gn pb fm np nf L (A9 ou xA xn xc ti po) Z3 := by
  have e1 : (w.alloc (.cells (A9 ou xA xn xc ti po) 50)).heap.size = w.heap.size + 1 := by simp
  have b1 := Blk.new w 50 (A9 ou xA xn xc ti po)
  have b2 := Blk.new (w.alloc (.cells (A9 ou xA xn xc ti po) 50)) 47 Z3
  rw [e1] at b2
  exact ⟨(hm.alloc _).alloc _, b1.alloc _, b2, ((Upd.refl _ w).alloc _).alloc _⟩
 generalize (w.alloc (.cells (A9 ou xA xn xc ti po) 50)).alloc (.cells Z3 47) = W at *
 have x2 := ss.bx.cell 2
 go_upto_region 3 with fail
 clear x2
 have z1 : ∀ w', (∃ t : Tw (Up W), w' = t.w) → ∀ j u, ([.int .i64 c.wk, .int .u32 c.ou, .int .i64 c.lo, .int .i64 c.hi, .int .i64 c.bk, .int .i64 c.rg] : List Value)[j]? = some u → w'.cell? ⟨gn, 0 + j, none⟩ = some u := fun w' ⟨t, ht⟩ j u hu => by
  rw [ht, Nat.zero_add, (ss.nm.obj.bel t.h).cell]
  match j with
  | 0 | 1 | 2 | 3 | 4 | 5 => exact hu
  | j + 6 => simp at hu
 have z2 : ∀ t : Tw (Up W), t.w.cell? ⟨w.heap.size, 0, none⟩ = some (.bool ou) := fun t => (ss.bx.bel t.h).cell 0
 have z3 : ∀ t : Tw (Up W), t.w.cell? ⟨w.heap.size, 1, none⟩ = some (.slice xA xn xc) := fun t => (ss.bx.bel t.h).cell 1
 have zz := Up.one W
 have hrW := rd_step hr hm (Nat.le_refl _) ss.up
 have hsW := ss.up.size
 refine wp_region_float (Up W) (.cells Z2 87) W.heap.size (fun h => .pointer (some ⟨h, 0, none⟩)) 12 _ [(0, true), (1, true), (2, true), (3, true), (4, true), (5, true), (6, true), (7, true), (8, false), (9, true), (10, true), (11, true)] [(13, false), (14, true)] (by kernel_rfl) (by kernel_rfl) (by rfl) (by rfl) (by kernel_rfl) (by kernel_rfl) (Below.refl _ _).drew (fun w' h => Below.alloc h (Below.size h) _) (fun w' h => Below.size h) (by intro a w; simp [execOp, go_sem]) ?_
 refine wpFl_qs 8 _ _ _ (by kernel_rfl) (by kernel_rfl) (by simp) ?_
 unfold clsS
 simp only [qq1, qq2, qq3, qq4, List.filterMap_cons, qq6, qq7, qq8, qq9]
 repeat (first
  | go_big_quiet_skip
  | (go_big_quiet_want; first | (refine quiet_ldAt rfl rfl z1 Tryz.underlying31 cf_size ?_; go_simp; go_big_quiet_on) | (go_big_quiet_op; go_big_quiet_on))
  | (refine id (?_ : wpQuiet _ _ _ _ (_ :: _) _); first | go_big_quiet_skip | (go_big_quiet_want; first | (refine quiet_ldAt rfl rfl z1 Tryz.underlying31 cf_size ?_; go_simp; go_big_quiet_on) | (go_big_quiet_op; go_big_quiet_on))))
 refine wpQuiet_nil ?_
 refine wpFl_e (fun _ => True) _ (by rfl) (by kernel_rfl) trivial (fun _ _ => trivial) (fun W1 _ hS1 K hK => ?_)
 go_simp
 refine (kw.out W1 ((hrW.below (Below.mono hS1 hsW)).more (Nat.le_trans hsW (Below.size hS1)))).mono ?_
 rintro e W2 ⟨rfl, hb2⟩
 refine hK _ _ (bel_after hS1 hb2) (KeepO.belM hb2) ?_
 clear hK K hb2 kw
 refine wpFl_qs 3 _ _ _ (by kernel_rfl) (by kernel_rfl) (by simp) ?_
 unfold clsS
 simp only [qq1, qq2, qq3, qq4, List.filterMap_cons, qq6, qq7, qq8, qq9]
 repeat (first | go_big_quiet_skip | (go_big_quiet_want; go_big_quiet_op; go_big_quiet_on) | refine id (?_ : wpQuiet _ _ _ _ (_ :: _) _))
 refine wpQuiet_nil ?_
 unfold wpFl
 refine ⟨fun _ => True, trivial, fun _ _ => trivial, fun W3 gf _ hS3 hgf hbf => ?_⟩
 clear hS1
 replace hbf : Blk W3 gf 87 Z2 := hbf
 go_simp
 refine wpPl_e _ (by rfl) (by kernel_rfl) (fun K hK => ?_)
 refine wp_stRow rfl rfl rfl rfl hbf fl_size rfl (by simp [Value.oneCell']) ?_
 have bf := hbf.setRow (A6 f0 f1 f2)
 have hS4 := below_setRow hS3 hgf (A6 f0 f1 f2)
 refine hK _ _ hS4 ?_
 clear hK K hbf hS3 z1 z2 z3 zz
 refine wpPl_qs 1 _ _ _ (by kernel_rfl) (by kernel_rfl) (by simp) ?_
 unfold clsS
 simp only [qq1, qq2, qq3, qq4, List.filterMap_cons, qq6, qq7, qq8, qq9]
 repeat (first | go_big_quiet_skip | (go_big_quiet_want; go_big_quiet_op; go_big_quiet_on) | refine id (?_ : wpQuiet _ _ _ _ (_ :: _) _))
 refine wpQuiet_nil ?_
 unfold wpPl
 refine NoPanic.normal ?_
 replace ss := ss.bel_ hS4
 clear hS4 hrW
 generalize W3.setRow gf (A6 f0 f1 f2) = W4 at *
 replace hE : EE = 0 := hE.out
 subst hE
 have x1 := ss.bx.cell 1
 go_wp2_with fail
 refine (kr.out W4 ((rd_step hr hm (Nat.le_refl _) ss.up).more ss.up.size)).mono ?_
 rintro e W5 ⟨rfl, hb5⟩
 replace ss := ss.bel_ hb5
 replace bf := bf.bel hb5
 clear hb5 kr x1
 have bh1 := (Blk.new W5 71 Z1).alloc (.cells Z0 76)
 have bp1 := Blk.new (W5.alloc (.cells Z1 71)) 76 Z0
 rw [show (W5.alloc (.cells Z1 71)).heap.size = W5.heap.size + 1 by simp] at bp1
 replace bp1 := bp1.setRow_far (g' := W5.heap.size) (by omega) (A4 h0 h1 h2 h3 h4 h5)
 have bp := bp1.setRow (A0 pr sr ds fl ki co_ er isz i1 i2 i3 i4 i5 pat ba_)
 have hb6 : Below W5.heap.size W5 ((((W5.alloc (.cells Z1 71)).alloc (.cells Z0 76)).setRow W5.heap.size (A4 h0 h1 h2 h3 h4 h5)).setRow (W5.heap.size + 1) (A0 pr sr ds fl ki co_ er isz i1 i2 i3 i4 i5 pat ba_)) := below_setRow (g := W5.heap.size + 1) (below_setRow (((bel_alloc W5 (.cells Z1 71)).alloc (by simp) (.cells Z0 76))) (Nat.le_refl _) (A4 h0 h1 h2 h3 h4 h5)) (by omega) (A0 pr sr ds fl ki co_ er isz i1 i2 i3 i4 i5 pat ba_)
 replace ss := ss.bel_ hb6
 replace bf := bf.bel hb6
 clear hb6
 go_upto_region 7 with (first | (refine wpList_stRow rfl rfl rfl rfl rfl bh1 hd_size rfl (by simp [Value.oneCell']) ?_) | (refine wpList_stRow rfl rfl rfl rfl rfl bp1 pt_size rfl (by simp [Value.oneCell']) ?_; generalize (((W5.alloc (.cells Z1 71)).alloc (.cells Z0 76)).setRow W5.heap.size (A4 h0 h1 h2 h3 h4 h5)).setRow (W5.heap.size + 1) (A0 pr sr ds fl ki co_ er isz i1 i2 i3 i4 i5 pat ba_) = W6 at *; generalize W5.heap.size = gh at *; clear bh1 bp1))
 replace hou2 : ou = false := hou2.out
 subst hou2
 obtain ⟨PL, hPL⟩ : ∃ PL, placeP c f0 f2 = PL := ⟨_, rfl⟩
 have kp := fun W => Place_ok c f0 f2 W hc
 have hkr := placeP_rng hc f0 f2
 replace hat := hat.out
 rw [hPL] at kp hkr hat
 replace hPL := Lib.hid hPL
 replace kp := Lib.hid kp
 replace hat := Lib.hid hat
 have hw : IntKind.i64.wrap f2 = f2 := by have := inr_u16 hfr.out.2.2; simp only at this; simp [IntKind.wrap, IntKind.bits, IntKind.signed]; omega
 have x0 := ss.bx.cell 0
 go_upto_region 9 with fail
 clear x0
 have z1 : ∀ w', (∃ t : Tw (Up W6), w' = t.w) → ∀ j u, ([.int .i64 c.wk, .int .u32 c.ou, .int .i64 c.lo, .int .i64 c.hi, .int .i64 c.bk, .int .i64 c.rg] : List Value)[j]? = some u → w'.cell? ⟨gn, 0 + j, none⟩ = some u := fun w' ⟨t, ht⟩ j u hu => by
  rw [ht, Nat.zero_add, (ss.nm.obj.bel t.h).cell]
  match j with
  | 0 | 1 | 2 | 3 | 4 | 5 => exact hu
  | j + 6 => simp at hu
 have z2 : ∀ t : Tw (Up W6), t.w.cell? ⟨gf, 0, none⟩ = some (.int .i64 f0) := fun t => (bf.bel t.h).cell 0
 have z3 : ∀ t : Tw (Up W6), t.w.cell? ⟨gf, 2, none⟩ = some (.int .u16 f2) := fun t => (bf.bel t.h).cell 2
 have zz := Up.one W6
 refine wp_region_plan (Up W6) [(0, true), (1, true), (2, true), (3, true), (4, true), (5, true), (6, true), (7, true), (8, true), (9, false), (10, true)] (by kernel_rfl) (by kernel_rfl) (by kernel_rfl) (by kernel_rfl) (Below.refl _ _).drew ?_
 refine wpPl_qs 9 _ _ _ (by kernel_rfl) (by kernel_rfl) (by simp) ?_
 unfold clsS
 simp only [qq1, qq2, qq3, qq4, List.filterMap_cons, qq6, qq7, qq8, qq9]
 repeat (first
  | go_big_quiet_skip
  | (go_big_quiet_want; first | (refine quiet_ldAt rfl rfl z1 Tryz.underlying31 cf_size ?_; go_simp; go_big_quiet_on) | (go_big_quiet_op; go_big_quiet_on))
  | (refine id (?_ : wpQuiet _ _ _ _ (_ :: _) _); first | go_big_quiet_skip | (go_big_quiet_want; first | (refine quiet_ldAt rfl rfl z1 Tryz.underlying31 cf_size ?_; go_simp; go_big_quiet_on) | (go_big_quiet_op; go_big_quiet_on))))
 refine wpQuiet_nil ?_
 refine wpPl_e _ (by rfl) (by kernel_rfl) (fun K hK => ?_)
 go_simp
 refine (kp.out _).mono ?_
 rintro e W7 ⟨rfl, hb7⟩
 have hup7 : Below W6.heap.size W6 W7 := bel_after (Below.refl _ _).drew hb7
 refine hK _ _ hup7 ?_
 clear hK K hb7 kp
 refine wpPl_qs 1 _ _ _ (by kernel_rfl) (by kernel_rfl) (by simp) ?_
 unfold clsS
 simp only [qq1, qq2, qq3, qq4, List.filterMap_cons, qq6, qq7, qq8, qq9]
 repeat (first | go_big_quiet_skip | (go_big_quiet_want; go_big_quiet_op; go_big_quiet_on) | refine id (?_ : wpQuiet _ _ _ _ (_ :: _) _))
 refine wpQuiet_nil ?_
 unfold wpPl
 refine NoPanic.normal ?_
 clear z1 z2 z3 zz hw
 replace ss := ss.bel_ hup7
 replace bf := bf.bel hup7
 replace bp := bp.bel hup7
 clear hup7
 have hlook := ss.nm.pl.look hkr
 have q6 := ss.nm.obj.cell 6
 rw [hat.out] at hlook
 simp only [lookB] at hlook
 have ss2 := ss.bel_ (below_setRow (bel_alloc W7 (.cells Z6 95)) (Nat.le_refl _) Z6)
 go_upto_region 12 with (first
  | (refine wpList_look rfl rfl rfl rfl hlook ?_)
  | (refine wpList_stRow rfl rfl rfl rfl rfl (Blk.new W7 _ _) bd_size rfl (by simp [Value.oneCell']) ?_; generalize (W7.alloc (.cells Z6 95)).setRow W7.heap.size Z6 = W8 at *; generalize W7.heap.size = gb at *))
 clear ss hlook q6
 have ss := ss2
 clear ss2
 have ba := ss.ba
 go_wp2_with (refine wpList_stRow rfl rfl rfl rfl rfl ba an_size rfl (by simp [Value.oneCell']) ?_)
 have ss2 := ss.ans hlt1 hlt2 hlt3 (A13 none 0 0 7)
 exact bodyPost_ret (results_row rfl _ rfl ss2.ba Tryz.underlying47 an_size) rfl ⟨_, _, _, rfl, Own.nil _ _ _ _, ss2.nm, Nat.le_succ _, Nat.le_succ _, ss2.up⟩
theorem Step_some (c : Cf) (gn pb fm np nf np2 : Nat) (L L2 : List Bd) (b : Bd) (xA : Option Addr) (xn xc : Nat) (ti po : Int) (l : List Int) (w : World) (hm : NatM w c gn pb fm np nf L) (hc : c.ok) (ht : 0 ≤ ti ∧ ti ≤ 4294967295) (hE : (whoP c.ou false l).2 = 0)
  (hr : Rd .u8 w w.heap.size xA xn l) (hlc : xn ≤ xc) (hcm : xc ≤ 9223372036854775807) (hl : xn ≤ 60000) (hat : atB c (placeP c (whoP c.ou false l).1.pr (whoP c.ou false l).1.po) L = some b) (hbr : b.fl.rng) (hnp : np2 ≤ np + 1)
  (ks : ∀ W, NatM W c gn pb fm np nf L → Calls Tryz.prog 28 #[.pointer (some ⟨gn, 0, none⟩), .int .i64 (placeP c (whoP c.ou false l).1.pr (whoP c.ou false l).1.po), .agg (A9 false xA xn xc ti po), (rdP l).val] W (SeenR W c gn pb fm np2 nf L2)) :
  Calls Tryz.prog 10 #[.pointer (some ⟨gn, 0, none⟩), .agg (A9 false xA xn xc ti po)] w (AnsR w c gn pb fm np nf L2 (rwE l) (rwL l false b.fl.ad b.fl.po)) := by
 have hfr := whoP_rng c.ou false (fun x hx => inr_u8 (hr.rng x hx))
 have hnil := rwL_nil l false b.fl.ad b.fl.po
 have kri := fun W (hr : Rd .u8 W w.heap.size xA xn l) (hB : w.heap.size ≤ W.heap.size) => RwIn_any l xA xn xc w.heap.size b.fl.ad b.fl.po W hr hB hlc hcm hl (inr_u32 hbr.2.1) (inr_u16 hbr.2.2)
 generalize rwE l = E at *
 generalize rwL l false b.fl.ad b.fl.po = X at *
 obtain ⟨⟨b0, b1, b2⟩, b3, b4, b5⟩ := b
 simp only at kri
 obtain ⟨ou, hou2⟩ : ∃ ou, ou = false := ⟨_, rfl⟩
 rw [← hou2] at hE hfr hat ks ⊢
 replace hou2 := Lib.hid hou2
 replace hfr := Lib.hid hfr
 replace hat := Lib.hid hat
 replace hnil := Lib.hid hnil
 replace kri := Lib.hid kri
 replace ks := Lib.hid ks
 have kr := fun W (hr : Rd .u8 W W.heap.size xA xn l) => read_any l xA xn xc W hr hlc hcm hl
 unfold ReadR at kr
 generalize rdE l = rE at *
 generalize hrdP : rdP l = p at *
 generalize rdH l = h at *
 obtain ⟨h0, h1, h2, h3, h4, h5⟩ := h
 obtain ⟨pr, sr, ds, fl, ki, co_, er, ⟨isz, i1, i2, i3, i4, i5⟩, pat, ba_⟩ := p
 replace hrdP := Lib.hid hrdP
 simp only [Hd.val, Pt.val] at kr
 replace kr := Lib.hid kr
 replace hE := Lib.hid hE
 have kw := fun W (hr : Rd .u8 W W.heap.size xA xn l) => Whose_any c.wk c.ou c.lo c.hi c.bk c.rg ou l xA xn xc W hr hlc hcm hl
 unfold WhoR at kw
 generalize hwho : whoP c.ou ou l = R at *
 obtain ⟨⟨f0, f1, f2⟩, EE⟩ := R
 simp only [Fl.cs] at kw
 replace kw := Lib.hid kw
 replace hwho := Lib.hid hwho
 have d1 : decide (ti < 0) = false := by simp; omega
 have d2 : decide (4294967295 < ti) = false := by simp; omega
 have hlt1 := hm.obj.lt
 have hlt2 := hm.pl.lt
 have hlt3 := hm.fl.lt
 go_enter Tryz.func10, Tryz.ntmps10
 go_upto_region 1 with fail
 have ss : SS w ((w.alloc (.cells (A9 ou xA xn xc ti po) 50)).alloc (.cells Z3 47)) c gn pb fm np nf L (A9 ou xA xn xc ti po) Z3 := by
  have e1 : (w.alloc (.cells (A9 ou xA xn xc ti po) 50)).heap.size = w.heap.size + 1 := by simp
  have b1 := Blk.new w 50 (A9 ou xA xn xc ti po)
  have b2 := Blk.new (w.alloc (.cells (A9 ou xA xn xc ti po) 50)) 47 Z3
  rw [e1] at b2
  exact ⟨(hm.alloc _).alloc _, b1.alloc _, b2, ((Upd.refl _ w).alloc _).alloc _⟩
 generalize (w.alloc (.cells (A9 ou xA xn xc ti po) 50)).alloc (.cells Z3 47) = W at *
 have x2 := ss.bx.cell 2
 go_upto_region 3 with fail
 clear x2
 have z1 : ∀ w', (∃ t : Tw (Up W), w' = t.w) → ∀ j u, ([.int .i64 c.wk, .int .u32 c.ou, .int .i64 c.lo, .int .i64 c.hi, .int .i64 c.bk, .int .i64 c.rg] : List Value)[j]? = some u → w'.cell? ⟨gn, 0 + j, none⟩ = some u := fun w' ⟨t, ht⟩ j u hu => by
  rw [ht, Nat.zero_add, (ss.nm.obj.bel t.h).cell]
  match j with
  | 0 | 1 | 2 | 3 | 4 | 5 => exact hu
  | j + 6 => simp at hu
 have z2 : ∀ t : Tw (Up W), t.w.cell? ⟨w.heap.size, 0, none⟩ = some (.bool ou) := fun t => (ss.bx.bel t.h).cell 0
 have z3 : ∀ t : Tw (Up W), t.w.cell? ⟨w.heap.size, 1, none⟩ = some (.slice xA xn xc) := fun t => (ss.bx.bel t.h).cell 1
 have zz := Up.one W
 have hrW := rd_step hr hm (Nat.le_refl _) ss.up
 have hsW := ss.up.size
 refine wp_region_float (Up W) (.cells Z2 87) W.heap.size (fun h => .pointer (some ⟨h, 0, none⟩)) 12 _ [(0, true), (1, true), (2, true), (3, true), (4, true), (5, true), (6, true), (7, true), (8, false), (9, true), (10, true), (11, true)] [(13, false), (14, true)] (by kernel_rfl) (by kernel_rfl) (by rfl) (by rfl) (by kernel_rfl) (by kernel_rfl) (Below.refl _ _).drew (fun w' h => Below.alloc h (Below.size h) _) (fun w' h => Below.size h) (by intro a w; simp [execOp, go_sem]) ?_
 refine wpFl_qs 8 _ _ _ (by kernel_rfl) (by kernel_rfl) (by simp) ?_
 unfold clsS
 simp only [qq1, qq2, qq3, qq4, List.filterMap_cons, qq6, qq7, qq8, qq9]
 repeat (first
  | go_big_quiet_skip
  | (go_big_quiet_want; first | (refine quiet_ldAt rfl rfl z1 Tryz.underlying31 cf_size ?_; go_simp; go_big_quiet_on) | (go_big_quiet_op; go_big_quiet_on))
  | (refine id (?_ : wpQuiet _ _ _ _ (_ :: _) _); first | go_big_quiet_skip | (go_big_quiet_want; first | (refine quiet_ldAt rfl rfl z1 Tryz.underlying31 cf_size ?_; go_simp; go_big_quiet_on) | (go_big_quiet_op; go_big_quiet_on))))
 refine wpQuiet_nil ?_
 refine wpFl_e (fun _ => True) _ (by rfl) (by kernel_rfl) trivial (fun _ _ => trivial) (fun W1 _ hS1 K hK => ?_)
 go_simp
 refine (kw.out W1 ((hrW.below (Below.mono hS1 hsW)).more (Nat.le_trans hsW (Below.size hS1)))).mono ?_
 rintro e W2 ⟨rfl, hb2⟩
 refine hK _ _ (bel_after hS1 hb2) (KeepO.belM hb2) ?_
 clear hK K hb2 kw
 refine wpFl_qs 3 _ _ _ (by kernel_rfl) (by kernel_rfl) (by simp) ?_
 unfold clsS
 simp only [qq1, qq2, qq3, qq4, List.filterMap_cons, qq6, qq7, qq8, qq9]
 repeat (first | go_big_quiet_skip | (go_big_quiet_want; go_big_quiet_op; go_big_quiet_on) | refine id (?_ : wpQuiet _ _ _ _ (_ :: _) _))
 refine wpQuiet_nil ?_
 unfold wpFl
 refine ⟨fun _ => True, trivial, fun _ _ => trivial, fun W3 gf _ hS3 hgf hbf => ?_⟩
 clear hS1
 replace hbf : Blk W3 gf 87 Z2 := hbf
 go_simp
 refine wpPl_e _ (by rfl) (by kernel_rfl) (fun K hK => ?_)
 refine wp_stRow rfl rfl rfl rfl hbf fl_size rfl (by simp [Value.oneCell']) ?_
 have bf := hbf.setRow (A6 f0 f1 f2)
 have hS4 := below_setRow hS3 hgf (A6 f0 f1 f2)
 refine hK _ _ hS4 ?_
 clear hK K hbf hS3 z1 z2 z3 zz
 refine wpPl_qs 1 _ _ _ (by kernel_rfl) (by kernel_rfl) (by simp) ?_
 unfold clsS
 simp only [qq1, qq2, qq3, qq4, List.filterMap_cons, qq6, qq7, qq8, qq9]
 repeat (first | go_big_quiet_skip | (go_big_quiet_want; go_big_quiet_op; go_big_quiet_on) | refine id (?_ : wpQuiet _ _ _ _ (_ :: _) _))
 refine wpQuiet_nil ?_
 unfold wpPl
 refine NoPanic.normal ?_
 replace ss := ss.bel_ hS4
 clear hS4 hrW
 generalize W3.setRow gf (A6 f0 f1 f2) = W4 at *
 replace hE : EE = 0 := hE.out
 subst hE
 have x1 := ss.bx.cell 1
 go_wp2_with fail
 refine (kr.out W4 ((rd_step hr hm (Nat.le_refl _) ss.up).more ss.up.size)).mono ?_
 rintro e W5 ⟨rfl, hb5⟩
 replace ss := ss.bel_ hb5
 replace bf := bf.bel hb5
 clear hb5 kr x1
 have bh1 := (Blk.new W5 71 Z1).alloc (.cells Z0 76)
 have bp1 := Blk.new (W5.alloc (.cells Z1 71)) 76 Z0
 rw [show (W5.alloc (.cells Z1 71)).heap.size = W5.heap.size + 1 by simp] at bp1
 replace bp1 := bp1.setRow_far (g' := W5.heap.size) (by omega) (A4 h0 h1 h2 h3 h4 h5)
 have bp := bp1.setRow (A0 pr sr ds fl ki co_ er isz i1 i2 i3 i4 i5 pat ba_)
 have hb6 : Below W5.heap.size W5 ((((W5.alloc (.cells Z1 71)).alloc (.cells Z0 76)).setRow W5.heap.size (A4 h0 h1 h2 h3 h4 h5)).setRow (W5.heap.size + 1) (A0 pr sr ds fl ki co_ er isz i1 i2 i3 i4 i5 pat ba_)) := below_setRow (g := W5.heap.size + 1) (below_setRow (((bel_alloc W5 (.cells Z1 71)).alloc (by simp) (.cells Z0 76))) (Nat.le_refl _) (A4 h0 h1 h2 h3 h4 h5)) (by omega) (A0 pr sr ds fl ki co_ er isz i1 i2 i3 i4 i5 pat ba_)
 replace ss := ss.bel_ hb6
 replace bf := bf.bel hb6
 clear hb6
 go_upto_region 7 with (first | (refine wpList_stRow rfl rfl rfl rfl rfl bh1 hd_size rfl (by simp [Value.oneCell']) ?_) | (refine wpList_stRow rfl rfl rfl rfl rfl bp1 pt_size rfl (by simp [Value.oneCell']) ?_; generalize (((W5.alloc (.cells Z1 71)).alloc (.cells Z0 76)).setRow W5.heap.size (A4 h0 h1 h2 h3 h4 h5)).setRow (W5.heap.size + 1) (A0 pr sr ds fl ki co_ er isz i1 i2 i3 i4 i5 pat ba_) = W6 at *; generalize W5.heap.size = gh at *; clear bh1 bp1))
 replace hou2 : ou = false := hou2.out
 subst hou2
 obtain ⟨PL, hPL⟩ : ∃ PL, placeP c f0 f2 = PL := ⟨_, rfl⟩
 have kp := fun W => Place_ok c f0 f2 W hc
 have hkr := placeP_rng hc f0 f2
 replace hat := hat.out
 rw [hPL] at kp hkr hat
 replace hPL := Lib.hid hPL
 replace kp := Lib.hid kp
 replace hat := Lib.hid hat
 have hw : IntKind.i64.wrap f2 = f2 := by have := inr_u16 hfr.out.2.2; simp only at this; simp [IntKind.wrap, IntKind.bits, IntKind.signed]; omega
 have x0 := ss.bx.cell 0
 go_upto_region 9 with fail
 clear x0
 have z1 : ∀ w', (∃ t : Tw (Up W6), w' = t.w) → ∀ j u, ([.int .i64 c.wk, .int .u32 c.ou, .int .i64 c.lo, .int .i64 c.hi, .int .i64 c.bk, .int .i64 c.rg] : List Value)[j]? = some u → w'.cell? ⟨gn, 0 + j, none⟩ = some u := fun w' ⟨t, ht⟩ j u hu => by
  rw [ht, Nat.zero_add, (ss.nm.obj.bel t.h).cell]
  match j with
  | 0 | 1 | 2 | 3 | 4 | 5 => exact hu
  | j + 6 => simp at hu
 have z2 : ∀ t : Tw (Up W6), t.w.cell? ⟨gf, 0, none⟩ = some (.int .i64 f0) := fun t => (bf.bel t.h).cell 0
 have z3 : ∀ t : Tw (Up W6), t.w.cell? ⟨gf, 2, none⟩ = some (.int .u16 f2) := fun t => (bf.bel t.h).cell 2
 have zz := Up.one W6
 refine wp_region_plan (Up W6) [(0, true), (1, true), (2, true), (3, true), (4, true), (5, true), (6, true), (7, true), (8, true), (9, false), (10, true)] (by kernel_rfl) (by kernel_rfl) (by kernel_rfl) (by kernel_rfl) (Below.refl _ _).drew ?_
 refine wpPl_qs 9 _ _ _ (by kernel_rfl) (by kernel_rfl) (by simp) ?_
 unfold clsS
 simp only [qq1, qq2, qq3, qq4, List.filterMap_cons, qq6, qq7, qq8, qq9]
 repeat (first
  | go_big_quiet_skip
  | (go_big_quiet_want; first | (refine quiet_ldAt rfl rfl z1 Tryz.underlying31 cf_size ?_; go_simp; go_big_quiet_on) | (go_big_quiet_op; go_big_quiet_on))
  | (refine id (?_ : wpQuiet _ _ _ _ (_ :: _) _); first | go_big_quiet_skip | (go_big_quiet_want; first | (refine quiet_ldAt rfl rfl z1 Tryz.underlying31 cf_size ?_; go_simp; go_big_quiet_on) | (go_big_quiet_op; go_big_quiet_on))))
 refine wpQuiet_nil ?_
 refine wpPl_e _ (by rfl) (by kernel_rfl) (fun K hK => ?_)
 go_simp
 refine (kp.out _).mono ?_
 rintro e W7 ⟨rfl, hb7⟩
 have hup7 : Below W6.heap.size W6 W7 := bel_after (Below.refl _ _).drew hb7
 refine hK _ _ hup7 ?_
 clear hK K hb7 kp
 refine wpPl_qs 1 _ _ _ (by kernel_rfl) (by kernel_rfl) (by simp) ?_
 unfold clsS
 simp only [qq1, qq2, qq3, qq4, List.filterMap_cons, qq6, qq7, qq8, qq9]
 repeat (first | go_big_quiet_skip | (go_big_quiet_want; go_big_quiet_op; go_big_quiet_on) | refine id (?_ : wpQuiet _ _ _ _ (_ :: _) _))
 refine wpQuiet_nil ?_
 unfold wpPl
 refine NoPanic.normal ?_
 clear z1 z2 z3 zz hw
 replace ss := ss.bel_ hup7
 replace bf := bf.bel hup7
 replace bp := bp.bel hup7
 clear hup7
 have hlook := ss.nm.pl.look hkr
 have q6 := ss.nm.obj.cell 6
 rw [hat.out] at hlook
 simp only [lookB, Bd.cs] at hlook
 have ss2 := ss.bel_ (below_setRow (bel_alloc W7 (.cells Z6 95)) (Nat.le_refl _) (A12 b0 b1 b2 b3 b4 b5))
 have bf2 := bf.bel (below_setRow (bel_alloc W7 (.cells Z6 95)) (Nat.le_refl _) (A12 b0 b1 b2 b3 b4 b5))
 have bp2 := bp.bel (below_setRow (bel_alloc W7 (.cells Z6 95)) (Nat.le_refl _) (A12 b0 b1 b2 b3 b4 b5))
 have bb := (Blk.new W7 95 Z6).setRow (A12 b0 b1 b2 b3 b4 b5)
 go_upto_region 13 with (first
  | (refine wpList_look rfl rfl rfl rfl hlook ?_)
  | (refine wpList_stRow rfl rfl rfl rfl rfl (Blk.new W7 _ _) bd_size rfl (by simp [Value.oneCell']) ?_; generalize (W7.alloc (.cells Z6 95)).setRow W7.heap.size (A12 b0 b1 b2 b3 b4 b5) = W8 at *; generalize W7.heap.size = gb at *))
 clear ss bf bp hlook q6
 have bx := ss2.bx
 have ks2 := ks.out W8 ss2.nm
 simp only [Pt.val] at ks2
 rw [hPL.out] at ks2
 replace ks2 := Lib.hid ks2
 clear ks
 go_wp2_with (first
  | (refine wpList_ldRow rfl rfl rfl bx Tryz.underlying50 ml_size ?_)
  | (refine wpList_ldRow rfl rfl rfl bp2 Tryz.underlying76 pt_size ?_))
 refine ks2.out.mono ?_
 rintro e W9 ⟨rfl, hM9, hu9⟩
 have hu9' := hu9.mono (T := fun k => k = pb ∨ k = fm) (fun _ _ h => .inl h)
 have bb9 := ss2.nm.keepB bb hu9'
 have ss := ss2.step hM9 hu9'
 clear ss2 bf2 bp2 bb hM9 hu9 hu9' bx ks2
 have hs9 := ss.up.size
 have kri2 := kri.out W9 (rd_step hr hm (Nat.le_refl _) ss.up) hs9
 replace kri2 := Lib.hid kri2
 clear kri
 have x1 := ss.bx.cell 1
 have c1 := bb9.cell 1
 have c2 := bb9.cell 2
 go_wp2_with fail
 refine kri2.out.mono ?_
 intro e W10 hch
 obtain ⟨vA, vn, vc, rfl, own, hb10⟩ := chg_own hnil.out hch
 clear hch kri2 x1 c1 c2
 replace ss := ss.bel_ hb10
 replace own := Own.lower own hs9
 go_wp2_with fail
 refine (told_any vA vn vc E W10).mono ?_
 rintro e W11 ⟨rfl, hb11⟩
 replace ss := ss.bel_ hb11
 replace own := Own.below own hb11
 have ba := ss.ba
 replace own := Own.updne own ba (by decide) (Upd.row' W11 (w.heap.size + 1) (A13 vA vn vc E))
 go_wp2_with (refine wpList_stRow rfl rfl rfl rfl rfl ba an_size rfl (by simp [Value.oneCell']) ?_)
 have ss2 := ss.ans hlt1 hlt2 hlt3 (A13 vA vn vc E)
 exact bodyPost_ret (results_row rfl _ rfl ss2.ba Tryz.underlying47 an_size) rfl ⟨_, _, _, rfl, own, ss2.nm, hnp, Nat.le_succ _, ss2.up⟩
end
section
open Go.RowKit Go.Maps
theorem Step_any (c : Cf) (gn pb fm np nf : Nat) (L : List Bd) (ou : Bool) (xA : Option Addr) (xn xc : Nat) (ti po : Int) (l : List Int) (w : World) (hm : NatM w c gn pb fm np nf L) (hc : c.ok) (hou : 0 ≤ c.ou ∧ c.ou ≤ 4294967295)
  (hn1 : np < 900000) (hn2 : nf < 900000) (hr : Rd .u8 w w.heap.size xA xn l) (hlc : xn ≤ xc) (hcm : xc ≤ 9223372036854775807) (hl : xn ≤ 60000) :
  Calls Tryz.prog 10 #[.pointer (some ⟨gn, 0, none⟩), .agg (A9 ou xA xn xc ti po)] w (AnsR w c gn pb fm np nf (stepP c L ou l ti po).1 (stepP c L ou l ti po).2.1 (stepP c L ou l ti po).2.2) := by
 unfold stepP
 by_cases h1 : ti < 0 ∨ 4294967295 < ti
 ·rw [if_pos h1]
  exact Step_bad c gn pb fm np nf L ou xA xn xc ti po w hm h1
 rw [if_neg h1]
 have ht : 0 ≤ ti ∧ ti ≤ 4294967295 := by omega
 by_cases h2 : (whoP c.ou ou l).2 = 0
 ·rw [if_neg (fun h => h h2)]
  cases ou with
  | true =>
   rw [if_pos rfl]
   exact Step_out c gn pb fm np nf L xA xn xc ti po l w hm hc hou ht h2 hn1 hn2 hr hlc hcm hl _ rfl
  | false =>
   rw [if_neg (by simp)]
   unfold inS
   cases hat : atB c (placeP c (whoP c.ou false l).1.pr (whoP c.ou false l).1.po) L with
   | none => exact Step_none c gn pb fm np nf L xA xn xc ti po l w hm hc ht h2 hr hlc hcm hl hat
   | some b =>
    obtain ⟨hb, hk⟩ := atB_some hat
    have hbr := (hm.inv.ok b hb).rng
    simp only
    by_cases he : (rdP l).err = true
    ·rw [if_pos he]
     exact Step_some c gn pb fm np nf np L L b xA xn xc ti po l w hm hc ht h2 hr hlc hcm hl hat hbr (Nat.le_succ _) (fun W hM => seen_err c gn pb fm np nf L _ false xA xn xc ti po _ W hM he)
    ·rw [if_neg he]
     refine Step_some c gn pb fm np nf (np + 1) L _ b xA xn xc ti po l w hm hc ht h2 hr hlc hcm hl hat hbr (Nat.le_refl _) (fun W hM => ?_)
     rw [← hk]
     exact seen_any c gn pb fm np nf L b false xA xn xc ti po _ W hM hc hb hn1 ht (by simpa using he)
 ·rw [if_pos h2]
  exact Step_err c gn pb fm np nf L ou xA xn xc ti po l w hm ht h2 hr hlc hcm hl
end
section
open Go.RowKit Go.Maps
section
variable {P : Program} {ops : Array Oper} {Q : Exit → Act → World → Prop} {a : Act} {w : World} {rest : List Oper} {o : Oper} {K : Act → World → Prop}
end
end
section
open Go.RowKit Go.Maps
theorem c14_size : (Tryz.prog.info? 25).map (·.size) = some 6 := by kernel_rfl
theorem To_any (c : Cf) (w : World) : Calls Tryz.prog 6 #[.agg (A8 c.wk c.ou c.lo c.hi c.bk c.rg)] w fun e w' => e = .returned (.agg (A8 c.wk c.ou c.lo c.hi c.bk c.rg)) ∧ Below w.heap.size w w' := by
 obtain ⟨wk, ou, lo, hi, bk, rg⟩ := c
 simp only
 go_enter Tryz.func6, Tryz.ntmps6
 go_upto_region 1 with fail
 have bx := (Blk.new w 25 (A8 wk ou lo hi bk rg)).alloc (.cells Z9 31)
 have ba := Blk.new (w.alloc (.cells (A8 wk ou lo hi bk rg) 25)) 31 Z9
 rw [show (w.alloc (.cells (A8 wk ou lo hi bk rg) 25)).heap.size = w.heap.size + 1 by simp] at ba
 have bel : Below w.heap.size w ((w.alloc (.cells (A8 wk ou lo hi bk rg) 25)).alloc (.cells Z9 31)) := (bel_alloc _ _).alloc (by simp) _
 generalize (w.alloc (.cells (A8 wk ou lo hi bk rg) 25)).alloc (.cells Z9 31) = W at *
 have x0 := bx.cell 0
 have x1 := bx.cell 1
 have x2 := bx.cell 2
 have x3 := bx.cell 3
 have x4 := bx.cell 4
 have x5 := bx.cell 5
 go_wp2_with (refine wpList_stRow rfl rfl rfl rfl rfl ba cf_size rfl (by simp [Value.oneCell']) ?_)
 exact bodyPost_ret (results_row rfl _ rfl (ba.setRow _) Tryz.underlying31 cf_size) rfl ⟨rfl, below_setRow bel (Nat.le_succ _) _⟩
end
section
open Go.RowKit Go.Maps
def cfL (n : Int) : Cf := ⟨1, 3221225985, 1000, 1000 + n, 2, 4⟩
theorem Config39 (w : World) : Calls Tryz.prog 4 #[.int .i64 0, .int .i64 39, .int .i64 0] w fun e w' => e = .returned (.agg Z8) ∧ Below w.heap.size w w' := by
 go_enter Tryz.func4, Tryz.ntmps4
 go_upto_region 1 with fail
 have ba := Blk.new w 25 Z9
 have bel := bel_alloc w (.cells Z9 25)
 generalize w.alloc (.cells Z9 25) = W at *
 have hlt := ba.lt
 have bel2 : Below w.heap.size w (W.alloc (.cells #[.int .i64 2, .int .i64 4, .int .i64 16, .int .i64 64] 3)) := bel.alloc bel.size _
 have ba2 := ba.alloc (.cells #[.int .i64 2, .int .i64 4, .int .i64 16, .int .i64 64] 3)
 go_wp2_with (refine wpList_stRow rfl rfl rfl rfl rfl ba2 c14_size rfl (by simp [Value.oneCell']) ?_)
 exact bodyPost_ret (results_row rfl _ rfl (ba2.setRow _) Tryz.underlying25 c14_size) rfl ⟨rfl, below_setRow bel2 (Nat.le_refl _) _⟩
theorem cfL_ok {n : Int} (h : 0 ≤ n ∧ n ≤ 39) : (cfL n).ok := by
 refine ⟨?_, ?_, ?_, ?_, ?_, ?_, ?_⟩ <;> simp only [cfL] <;> first | omega | decide | (constructor <;> omega)
end
section
open Go.RowKit Go.Maps
end
section
open Go.RowKit Go.Maps
end
section
open Go.RowKit Go.Maps
end
section
open Go.RowKit Go.Maps
def BdL (b : Bd) : List Value := [.int .i64 b.fl.pr, .int .u32 b.fl.ad, .int .u16 b.fl.po, .int .i64 b.po, .int .i64 b.tr, .int .i64 b.se]
theorem BdL_len (b : Bd) : (BdL b).length = 6 := rfl
theorem BdL_one (b : Bd) : ∀ u ∈ BdL b, u.oneCell' = true := by intro u hu; simp [BdL] at hu; rcases hu with rfl | rfl | rfl | rfl | rfl | rfl <;> rfl
theorem bd_info : (Tryz.prog.info? 95).map (fun i => (i.zero, i.size, i.bytes)) = some (some (.agg Z6), 6, 40) := by kernel_rfl
def BndR (w : World) (c : Cf) (gn pb fm np nf : Nat) (L : List Bd) (e : Ending) (w' : World) : Prop :=
 ∃ v, e = .returned v ∧ OwnT BdL 6 95 w' w.heap.size v L ∧ NatM w' c gn pb fm np nf L ∧ Below w.heap.size w w'
def KeysR (c : Cf) (L : List Bd) (W : World) (e : Ending) (w1 : World) : Prop :=
 ∃ fv, e = .returned fv ∧ Below W.heap.size W w1 ∧ Calls Tryz.prog 31 #[fv] w1 fun e w2 => ∃ A cp, e = .returned (.slice A L.length cp) ∧ L.length ≤ cp ∧ Rd .i64 w2 w2.heap.size A L.length (L.map (keyB c)) ∧ Below w1.heap.size w1 w2
theorem OwnT.lowerB {α : Type} {cs : α → List Value} {sz : Nat} {e : TypeId} {w : World} {base base' : Nat} {v : Value} {l : List α} (h : OwnT cs sz e w base v l) (hb : base' ≤ base) : OwnT cs sz e w base' v l := by
 refine ⟨h.row.1, ?_⟩
 rcases h.row.2 with hn | ⟨g, cap, cur, rfl, hg, rest⟩
 ·exact .inl hn
 ·exact .inr ⟨g, cap, cur, rfl, by omega, rest⟩
theorem Bindings_of (c : Cf) (gn pb fm np nf : Nat) (L : List Bd) (w : World) (hm : NatM w c gn pb fm np nf L) (hc : c.ok) (hnp : np ≤ 1000000)
  (kk : ∀ W, NatM W c gn pb fm np nf L → Calls Tryz.prog 32 #[.map (some pb)] W (KeysR c L W)) :
  Calls Tryz.prog 12 #[.pointer (some ⟨gn, 0, none⟩)] w (BndR w c gn pb fm np nf L) := by
 obtain ⟨i0, hi, hz0, hz1, hz2⟩ := info_parts bd_info
 have hLn := hm.pl.len
 unfold BndR
 unfold KeysR at kk
 obtain ⟨n, hn⟩ : ∃ n, L.length = n := ⟨_, rfl⟩
 rw [hn] at kk hLn
 replace hn := Lib.hid hn
 replace kk := Lib.hid kk
 have q6 := hm.obj.cell 6
 go_enter Tryz.func12, Tryz.ntmps12
 go_wp2_with fail
 refine (kk.out _ hm).mono ?_
 rintro e W1 ⟨fv, rfl, hb1, ks⟩
 have hm1 := hm.bel_ hb1
 clear q6 kk
 replace ks := Lib.hid ks
 go_wp2_with fail
 refine ks.out.mono ?_
 rintro e W2 ⟨A, cp, rfl, hcp, rd, hb2⟩
 have hm2 := hm1.bel_ hb2
 have bel2 := bel_after hb1 hb2
 clear ks hm1 hb2
 go_wp2_with fail
 go_loopw [3, 15] (fun o i wr => ∃ k : Nat, k ≤ n ∧ i = .int .i64 k ∧ OwnT BdL 6 95 wr W2.heap.size o (L.take k) ∧ Below w.heap.size w wr ∧ NatM wr c gn pb fm np nf L ∧ Rd .i64 wr W2.heap.size A n (L.map (keyB c)) ∧ W2.heap.size ≤ wr.heap.size) (fun _ i _ => n - (intOf i).toNat)
 case atStart => exact ⟨0, by omega, rfl, ⟨World.ownsRow_nil _ _ _ _⟩, bel2, hm2, rd, Nat.le_refl _⟩
 case round =>
  obtain ⟨k, hk, rfl, own, bel, hmr, rdr, hsz⟩ := hrel
  rcases Nat.lt_or_ge k n with hkn | hkn
  ·have d1 : decide ((k : Int) < (n : Int)) = true := by simpa using hkn
   have d2 : decide (k < n) = true := by simpa using hkn
   obtain ⟨b, hb⟩ : ∃ b, L[k]? = some b := ⟨_, List.getElem?_eq_getElem (by rw [hn.out]; omega)⟩
   obtain ⟨g, o, rfl, hg, hcell, hir⟩ := rdr.at_ hkn
   have hkey : (L.map (keyB c)).getD k 0 = keyB c b := by rw [List.getD_eq_getElem?_getD, List.getElem?_map, hb]; rfl
   rw [hkey] at hcell hir
   have hlook := hmr.pl.look0 hir
   have hat := atB_of hmr.inv (List.mem_of_getElem? hb)
   have htk : L.take (k + 1) = L.take k ++ [b] := by rw [List.take_add_one, hb]; rfl
   have hlt : (L.take k).length = k := by rw [List.length_take, hn.out]; omega
   rw [hat] at hlook
   generalize keyB c b = KEY at *
   clear hat hkey hir
   replace htk := Lib.hid htk
   replace hb := Lib.hid hb
   replace hlt := Lib.hid hlt
   obtain ⟨⟨b0, b1, b2⟩, b3, b4, b5⟩ := b
   simp only [lookZ, Bd.cs] at hlook
   have q6 := hmr.obj.cell 6
   have k0 : (0 : Int) ≤ (k : Int) := by omega
   have k1 : (k : Int) < (n : Int) := by omega
   go_upto_region 7 with fail
   have hla := bel_alloc wr (.cells (A12 b0 b1 b2 b3 b4 b5) 95)
   have hxr := RdT.new (cs := BdL) (sz := 6) BdL_len wr 95 [(⟨⟨b0, b1, b2⟩, b3, b4, b5⟩ : Bd)] (A12 b0 b1 b2 b3 b4 b5) rfl 1 rfl
   have own3 := own.below hla
   have hm3 := hmr.bel_ hla
   have bel3 := bel_after bel hla
   have rd3 := rdr.below (Below.mono hla hsz)
   have hsz3 := Nat.le_trans hsz hla.size
   clear hla
   go_wp2_with (first
    | (refine wpList_look rfl rfl rfl rfl hlook ?_)
    | (at_builtin; generalize wr.alloc (.cells (A12 b0 b1 b2 b3 b4 b5) 95) = W3 at *; refine wpList_appT BdL_len BdL_one (by decide) _ rfl (.tmp 19) (.tmp 26) 59 rfl W2.heap.size 95 i0 (.agg Z6) 40 Tryz.underlying59 hi hz0 hz1 hz2 rfl _ rfl (L.take k) own3 _ _ 1 1 rfl [(⟨⟨b0, b1, b2⟩, b3, b4, b5⟩ : Bd)] hxr (by rw [hlt.out]; omega) (by decide) hsz3 ?_; intro v4 w4 own4 hg4 hv4))
   have hu4 : Upd (fun k => W2.heap.size ≤ k) W3 w4 := Upd.of_grown (S := fun k => W2.heap.size ≤ k) hg4 (fun g e => (own3.lt g e).1)
   have hb4 : Below W2.heap.size W3 w4 := hu4.below hsz3 (fun k hk => by omega)
   have l1 := hm2.obj.lt
   have l2 := hm2.pl.lt
   have l3 := hm2.fl.lt
   have hm4 : NatM w4 c gn pb fm np nf L := ⟨hm3.obj.upd hu4 (by omega), hm3.pl.upd hu4 (by omega), hm3.fl.upd hu4 (by omega), hm3.ne, hm3.inv⟩
   have bel4 : Below w.heap.size w w4 := bel3.trans (Below.mono hb4 bel2.size)
   rw [← htk.out] at own4
   go_roundw
   case rel => exact ⟨k + 1, by omega, by go_num, own4, bel4, hm4, rd3.below hb4, Nat.le_trans hsz3 hb4.size⟩
   case measure => simp [intOf]; omega
  ·obtain rfl : k = n := by omega
   have d1 : decide ((k : Int) < (k : Int)) = false := by simp
   have ht : L.take k = L := by rw [← hn.out, List.take_length]
   rw [ht] at own
   have d2 : decide (k < k) = false := by simp
   go_wp2
   go_ret
   exact ⟨_, rfl, own.lowerB bel2.size, hmr, bel⟩
end
end Go.Proofs.YtbichbdcibchlaaGreat
