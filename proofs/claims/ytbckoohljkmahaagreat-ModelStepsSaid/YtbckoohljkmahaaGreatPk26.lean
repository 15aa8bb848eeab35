/- Contracts and plain facts. -/
import Derived.Test.YtbckoohljkmahaaGreatPk25
import Derived.Test.YtbckoohljkmahaaGreatPk24
import Derived.Test.YtbckoohljkmahaaGreatPk23
import Derived.Test.YtbckoohljkmahaaGreatPk22
namespace Go.Proofs.YtbckoohljkmahaaGreat
set_option linter.unusedVariables false
set_option linter.unusedSimpArgs false
set_option maxRecDepth 100000
set_option maxHeartbeats 16000000
open Go.RowKit
theorem find_ix {α : Type} {p : α → Bool} : ∀ {l : List α} {x : α}, l.find? p = some x → ∃ i : Nat, l[i]? = some x ∧ p x = true ∧ ∀ (j : Nat) y, j < i → l[j]? = some y → p y = false
 | [], x, h => by simp at h
 | y :: l, x, h => by
  rw [List.find?_cons] at h
  cases hp : p y with
  | true =>
   rw [hp] at h
   simp only [Option.some.injEq] at h
   subst h
   exact ⟨0, rfl, hp, fun j z hj => by omega⟩
  | false =>
   rw [hp] at h
   obtain ⟨i, h1, h2, h3⟩ := find_ix h
   refine ⟨i + 1, by simpa using h1, h2, fun j z hj hz => ?_⟩
   cases j with
   | zero =>
    simp only [List.getElem?_cons_zero, Option.some.injEq] at hz
    rw [← hz]; exact hp
   | succ j =>
    rw [List.getElem?_cons_succ] at hz
    exact h3 j z (by omega) hz
theorem find_nx {α : Type} {p : α → Bool} {l : List α} (h : l.find? p = none) (j : Nat) (y : α) (hy : l[j]? = some y) : p y = false := by
 rw [List.find?_eq_none] at h
 simpa using h y (List.mem_of_getElem? hy)
theorem dStep_any (c : Cf) (base gd : Nat) (va : Value) (L : List Bd) (ou : Bool) (xA : Option Addr) (xn xc : Nat) (ti po : Int) (l : List Int) (w : World) (h : DN w base c gd va L) (hinv : LInv c L) (hc : c.ok) (hou : 0 ≤ c.ou ∧ c.ou ≤ 4294967295)
  (hr : Rd .u8 w w.heap.size xA xn l) (hlc : xn ≤ xc) (hcm : xc ≤ 9223372036854775807) (hl : xn ≤ 60000) (hL : L.length ≤ 100000) (hbase : base ≤ w.heap.size) :
  Calls Tryz.prog 37 #[.pointer (some ⟨gd, 0, none⟩), .agg (A13 ou xA xn xc ti po)] w (DStR w base c gd va (stepP c L ou l ti po)) := by
 have h8 : Bytes8 l := fun x hx => inr_u8 (hr.rng x hx)
 unfold stepP
 by_cases ht : ti < 0 ∨ 4294967295 < ti
 ·rw [if_pos ht]
  exact dStep_bad c base gd va L ou xA xn xc ti po w h ht
 rw [if_neg ht]
 have ht2 : 0 ≤ ti ∧ ti ≤ 4294967295 := by omega
 by_cases hE : (whoP c.ou ou l).2 = 0
 ·rw [if_neg (fun e => e hE), ← docS_is hinv]
  have hpro := who_proto (c := c) h8 hE
  have hfr := whoP_rng c.ou ou h8
  unfold docS
  cases hf : L.find? (mt ou (whoP c.ou ou l).1) with
  | some b =>
   obtain ⟨i, h1, h2, h3⟩ := find_ix hf
   have hbm := List.mem_of_getElem? h1
   have hb := hinv.ok b hbm
   have := dStep_some c base gd va L ou xA xn xc ti po l i b w h ht2 hE hr hlc hcm hl hL h1 h2 h3 hou ⟨hb.rng, hb.port hc⟩ hpro
   rw [set_put (c := c) (b := b) (b' := seenB b (rdP l) ou ti) rfl hinv.srt h1] at this
   exact this
  | none =>
   have hmn := find_nx hf
   simp only
   cases hbeg : begP ou l with
   | false => exact dStep_noB c base gd va L ou xA xn xc ti po l w h hc ht2 hE hr hlc hcm hl hL hmn hbeg
   | true =>
    rw [if_neg (by simp)]
    by_cases p1 : po = -1
    ·rw [if_pos p1]
     exact dStep_no c base gd va L ou xA xn xc ti po l w h hc ht2 hE hr hlc hcm hl hL hmn hbeg 8 (by rw [if_pos p1])
    rw [if_neg p1]
    by_cases p2 : po = -2
    ·rw [if_pos p2]
     exact dStep_no c base gd va L ou xA xn xc ti po l w h hc ht2 hE hr hlc hcm hl hL hmn hbeg 9 (by rw [if_neg p1, if_pos p2])
    rw [if_neg p2]
    by_cases p3 : placeP c (whoP c.ou ou l).1.pr po < 0 ∨ hasL (whoP c.ou ou l).1.pr po L = true
    ·rw [if_pos p3]
     exact dStep_no c base gd va L ou xA xn xc ti po l w h hc ht2 hE hr hlc hcm hl hL hmn hbeg 1 (by rw [if_neg p1, if_neg p2]; exact ⟨p3, rfl⟩)
    rw [if_neg p3]
    have p4 : hasL (whoP c.ou ou l).1.pr po L = false := by
     cases hh : hasL (whoP c.ou ou l).1.pr po L with
     | false => rfl
     | true => exact absurd (.inr hh) p3
    exact dStep_new c base gd va L ou xA xn xc ti po l w h hc ht2 hE hr hlc hcm hl hL hmn hou hbase hfr hbeg p1 p2 (by omega) p4
 ·rw [if_pos hE]
  exact dStep_err c base gd va L ou xA xn xc ti po l w h ht2 hE hr hlc hcm hl
structure MB (w W : World) (c : Cf) (gn pb fm np nf gd : Nat) (va : Value) (L : List Bd) : Prop where
 ln : LN w W c gn pb fm np nf L
 dn : DN W w.heap.size c gd va L
 hgd : w.heap.size ≤ gd
section
variable {w W W' : World} {c : Cf} {gn pb fm np nf gd : Nat} {va : Value} {L : List Bd}
theorem MB.bel_ (h : MB w W c gn pb fm np nf gd va L) (hb : Below W.heap.size W W') : MB w W' c gn pb fm np nf gd va L := ⟨h.ln.bel_ hb, h.dn.bel hb, h.hgd⟩
theorem MB.drew (h : MB w W c gn pb fm np nf gd va L) : MB w W.drew c gn pb fm np nf gd va L := h.bel_ (Below.refl _ _).drew
theorem DN.notM (h : NatM W c gn pb fm np nf L) {cd : Cf} {base : Nat} {L' : List Bd} (hd : DN W base cd gd va L') : ∀ k, DnS gd va k → ¬ (k = pb ∨ k = fm) := fun k hk => by
 rcases hk with rfl | hk
 ·exact h.notU hd.obj
 ·rcases hd.row.row.2 with ⟨hv, _⟩ | ⟨g', cap, cur, hv, _, hgg, _⟩
  ·rw [hv] at hk; simp [Value.ownBlock] at hk
  ·rw [hv] at hk
   simp only [Value.ownBlock, Option.some.injEq] at hk
   subst hk
   exact h.notU hgg
theorem DN.updM (h : NatM W c gn pb fm np nf L) {cd : Cf} {base : Nat} {L' : List Bd} (hd : DN W base cd gd va L') (hu : Upd (fun k => k = pb ∨ k = fm) W W') : DN W' base cd gd va L' :=
 ⟨hd.obj.upd hu (DN.notM h hd gd (.inl rfl)), hd.row.upd hu (fun g hg => DN.notM h hd g (.inr hg))⟩
theorem LN.updD (h : LN w W c gn pb fm np nf L) {L' : List Bd} (hd : DN W w.heap.size c gd va L') (hgd : w.heap.size ≤ gd) (hu : Upd (DnS gd va) W W') : LN w W' c gn pb fm np nf L := by
 have h1 := fun k hk => DN.notM h.nm hd k hk
 refine ⟨⟨h.nm.obj.upd hu (hd.notS h.nm.obj (by decide) (by decide)), h.nm.pl.upd hu (fun e => h1 pb e (.inl rfl)), h.nm.fl.upd hu (fun e => h1 fm e (.inr rfl)), h.nm.ne, h.nm.inv⟩, h.hg, h.hp, h.hf, h.bel.trans (hu.below h.bel.size fun k hk e => ?_)⟩
 rcases e with rfl | e
 ·omega
 ·have := (hd.row.lt k e).1; omega
theorem DN.updO {base base' : Nat} {cd : Cf} {gv : Nat} {vv : Value} {Lo : List Bd} (h : DN W base cd gv vv Lo) (hu : Upd (DnS gd va) W W') (h1 : gv ≠ gd) (h2 : va.ownBlock ≠ some gv) (h3 : ∀ g, vv.ownBlock = some g → g ≠ gd ∧ va.ownBlock ≠ some g) : DN W' base cd gv vv Lo :=
 ⟨h.obj.upd hu (fun e => by rcases e with e | e; exact h1 e; exact h2 e), h.row.upd hu (fun g hg e => by rcases e with e | e; exact (h3 g hg).1 e; exact (h3 g hg).2 e)⟩
end
structure MR (w W : World) (c : Cf) (gn pb fm np nf gd : Nat) (va : Value) (L : List Bd) (go po fo npo nfo gv : Nat) (vv : Value) (Lo : List Bd) : Prop where
 mb : MB w W c gn pb fm np nf gd va L
 lo : LN w W c go po fo npo nfo Lo
 dv : DN W w.heap.size c gv vv Lo
 dif : ¬ (po = pb ∨ po = fm) ∧ ¬ (fo = pb ∨ fo = fm) ∧ ¬ DnS gd va gv ∧ ∀ g, vv.ownBlock = some g → ¬ DnS gd va g
section
variable {w W W' : World} {c : Cf} {gn pb fm np nf gd : Nat} {va : Value} {L : List Bd} {go po fo npo nfo gv : Nat} {vv : Value} {Lo : List Bd}
theorem MR.bel_ (h : MR w W c gn pb fm np nf gd va L go po fo npo nfo gv vv Lo) (hb : Below W.heap.size W W') : MR w W' c gn pb fm np nf gd va L go po fo npo nfo gv vv Lo :=
 ⟨h.mb.bel_ hb, h.lo.bel_ hb, h.dv.bel hb, h.dif⟩
theorem MR.drew (h : MR w W c gn pb fm np nf gd va L go po fo npo nfo gv vv Lo) : MR w W.drew c gn pb fm np nf gd va L go po fo npo nfo gv vv Lo := h.bel_ (Below.refl _ _).drew
theorem MB.copied {W1 W2 : World} (h : MB w W c gn pb fm np nf gd va L) {e1 e2 : Ending} (h1 : CopyR W c np nf L e1 W1) (h2 : RCopyR W1 c L e2 W2) : ∃ go po fo gv vv, e1 = .returned (.pointer (some ⟨go, 0, none⟩)) ∧ e2 = .returned (.pointer (some ⟨gv, 0, none⟩)) ∧ MR w W2 c gn pb fm np nf gd va L go po fo np nf gv vv L := by
 obtain ⟨go, po, fo, rfl, hm, hb1, k1, k2, k3⟩ := h1
 obtain ⟨gv, vv, rfl, hd, hb2, k4⟩ := h2
 have s0 := h.ln.bel.size
 have s1 := hb1.size
 have p1 := h.ln.nm.pl.lt
 have p2 := h.ln.nm.fl.lt
 have p3 := h.dn.obj.lt
 refine ⟨go, po, fo, gv, vv, rfl, rfl, (h.bel_ hb1).bel_ hb2, (LN.bel_ ⟨hm, by omega, by omega, by omega, bel_after h.ln.bel hb1⟩ hb2), ⟨hd.obj, hd.row.lowerB (by omega)⟩, by omega, by omega, fun e => ?_, fun g hg e => ?_⟩
 ·rcases e with e | e
  ·omega
  ·have := (h.dn.row.lt gv e).2; omega
 ·have hg1 := (hd.row.lt g hg).1
  rcases e with e | e
  ·omega
  ·have := (h.dn.row.lt g e).2; omega
theorem MR.nstep (h : MR w W c gn pb fm np nf gd va L go po fo npo nfo gv vv Lo) {np' nf' : Nat} {L' : List Bd} (hl : LN w W' c gn pb fm np' nf' L') (hu : Upd (fun k => k = pb ∨ k = fm) W W') :
  LN w W' c gn pb fm np' nf' L' ∧ DN W' w.heap.size c gd va L ∧ LN w W' c go po fo npo nfo Lo ∧ DN W' w.heap.size c gv vv Lo := by
 refine ⟨hl, DN.updM h.mb.ln.nm h.mb.dn hu, ⟨⟨h.lo.nm.obj.upd hu (h.mb.ln.nm.notU h.lo.nm.obj), h.lo.nm.pl.upd hu h.dif.1, h.lo.nm.fl.upd hu h.dif.2.1, h.lo.nm.ne, h.lo.nm.inv⟩, h.lo.hg, h.lo.hp, h.lo.hf, hl.bel⟩, DN.updM h.mb.ln.nm h.dv hu⟩
theorem MR.both (h : MR w W c gn pb fm np nf gd va L go po fo npo nfo gv vv Lo) {np' nf' : Nat} {L' : List Bd} {W1 W2 : World} {va' : Value} (hl : LN w W1 c gn pb fm np' nf' L') (hu : Upd (fun k => k = pb ∨ k = fm) W W1) (hb : Below W1.heap.size W1 W2) (hd : DN W' w.heap.size c gd va' L') (hu2 : Upd (DnS gd va) W2 W') :
  MB w W' c gn pb fm np' nf' gd va' L' ∧ LN w W' c go po fo npo nfo Lo ∧ DN W' w.heap.size c gv vv Lo := by
 obtain ⟨h1, h2, h3, h4⟩ := h.nstep hl hu
 have d2 := h2.bel hb
 exact ⟨⟨LN.updD (h1.bel_ hb) d2 h.mb.hgd hu2, hd, h.mb.hgd⟩, LN.updD (h3.bel_ hb) d2 h.mb.hgd hu2, (h4.bel hb).updO (base' := 0) hu2 (fun e => h.dif.2.2.1 (.inl e)) (fun e => h.dif.2.2.1 (.inr e)) (fun g hg => ⟨fun e => h.dif.2.2.2 g hg (.inl e), fun e => h.dif.2.2.2 g hg (.inr e)⟩)⟩
end
theorem Keep8.ofM {w W : World} {c : Cf} {gn pb fm np nf : Nat} {L : List Bd} (h : NatM w c gn pb fm np nf L) (hu : Upd (fun k => k = pb ∨ k = fm) w W) : Keep8 w W := fun p x hx => by
 have hlt := cell_lt hx
 have hne : ¬ (p.block = pb ∨ p.block = fm) := by
  cases hb : w.heap[p.block]? with
  | none => simp [World.cell?, hb] at hx
  | some o =>
   cases o with
   | cells cs t q => exact h.notU hb
   | _ => simp [World.cell?, hb] at hx
 rw [← hx]
 exact World.cell?_of_block (hu.block p.block hlt hne)
theorem arg_cfg {W : World} {v : Value} (h : Arg Tryz.prog W 27 v) : ∃ c : Cf, v = .agg (A8 c.wk c.ou c.lo c.hi c.bk c.rg) ∧ inr .u32 c.ou ∧ inr .i64 c.lo ∧ inr .i64 c.hi := by
 obtain ⟨cs, m, rfl, hs, hf⟩ := arg_struct Tryz.underlying27 h
 have hC : Tryz.prog.cellsOf 27 = 6 := by kernel_rfl
 have hCi : Tryz.prog.cellsOf 3 = 1 := by kernel_rfl
 have hCu : Tryz.prog.cellsOf 25 = 1 := by kernel_rfl
 obtain ⟨x0, e0, _⟩ := fld_int (i := 0) hf rfl Tryz.underlying3 hCi
 obtain ⟨x1, e1, r1⟩ := fld_int (i := 1) hf rfl Tryz.underlying25 hCu
 obtain ⟨x2, e2, r2⟩ := fld_int (i := 2) hf rfl Tryz.underlying3 hCi
 obtain ⟨x3, e3, r3⟩ := fld_int (i := 3) hf rfl Tryz.underlying3 hCi
 obtain ⟨x4, e4, _⟩ := fld_int (i := 4) hf rfl Tryz.underlying3 hCi
 obtain ⟨x5, e5, _⟩ := fld_int (i := 5) hf rfl Tryz.underlying3 hCi
 exact ⟨⟨x0, x1, x2, x3, x4, x5⟩, by rw [arr6 (hs.trans hC) e0 e1 e2 e3 e4 e5], r1, r2, r3⟩
end Go.Proofs.YtbckoohljkmahaaGreat
