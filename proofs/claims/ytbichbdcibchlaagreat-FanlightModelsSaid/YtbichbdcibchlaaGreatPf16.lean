/- Contracts and plain facts. -/
import Derived.Test.YtbichbdcibchlaaGreatPf11
import Derived.Test.YtbichbdcibchlaaGreatPf04
import Derived.Test.YtbichbdcibchlaaGreatPf13
namespace Go.Proofs.YtbichbdcibchlaaGreat
set_option linter.unusedVariables false
set_option linter.unusedSimpArgs false
set_option maxRecDepth 100000
set_option maxHeartbeats 16000000
open Go.RowKit
def partI (l : List Int) : Pt × Bool := if getE l = 0 then ((getR (hdIf l 0) l).2, (getR (hdIf l 0) l).1 == 0) else (Pt.z, false)
def PartT (w : World) (p : Pt × Bool) (e : Ending) (w' : World) : Prop := e = .returned (.tuple #[p.1.val, .bool p.2]) ∧ Below w.heap.size w w'
theorem rPart_any (l : List Int) (A : Option Addr) (len c : Nat) (w : World) (hr : Rd .u8 w w.heap.size A len l) (hlc : len ≤ c) (hcm : c ≤ 9223372036854775807) (hl : len ≤ 60000) :
  Calls Tryz.prog 11 #[.slice A len c] w (PartT w (partI l)) := by
 have k1 := fun W (h : Below w.heap.size w W) => rGet_any l false A len c _ W ((hr.below h).more h.size) (Nat.le_refl _) hlc hcm (by omega)
 rw [show getP l false = getE l from rfl] at k1
 unfold partI
 by_cases hE : getE l = 0
 ·have hbb := frm_bdh (fun x hx => inr_u8 (hr.rng x hx)) hE
  rw [if_pos hE]
  rw [hE] at k1
  have k2 := fun W (h : Below w.heap.size w W) => rPGet_any (hdIf l 0) l A len c _ W ((hr.below h).more h.size) (Nat.le_refl _) hlc hcm (by omega) hbb.1 hbb.2
  generalize hdIf l 0 = H at *
  generalize getR H l = R at *
  obtain ⟨h0, h1, h2, h3, h4, h5⟩ := H
  obtain ⟨E, pr, sr, ds, fl, ki, co, er, ⟨isz, i1, i2, i3, i4, i5⟩, pat, ba⟩ := R
  simp only [PartT, Hd.val, Pt.val, Tells] at k1 k2 ⊢
  obtain ⟨ok, hok⟩ : ∃ ok, (E == 0) = ok := ⟨_, rfl⟩
  rw [hok]
  clear hbb hE hr
  replace k1 := Lib.hid k1
  replace k2 := Lib.hid k2
  go_enter Tryz.func11, Tryz.ntmps11
  go_upto_region 1 with fail
  have bk := Blk.new w 54 Z0
  have bel := bel_alloc w (.cells Z0 54)
  generalize w.alloc (.cells Z0 54) = W1 at *
  go_wp2_with fail
  refine (k1.out _ bel).mono ?_
  rintro e w2 ⟨rfl, hb⟩
  replace bel := bel_after bel hb
  replace bk := bk.bel hb
  clear hb k1
  have hlt := bk.lt
  have bh := (Blk.new w2 52 Z1).setRow (A4 h0 h1 h2 h3 h4 h5)
  replace bk := (bk.alloc (.cells Z1 52)).setRow_far (g' := w2.heap.size) (by omega) (A4 h0 h1 h2 h3 h4 h5)
  replace bel := below_setRow (bel.alloc bel.size (.cells Z1 52)) bel.size (A4 h0 h1 h2 h3 h4 h5)
  clear hlt
  go_wp2_with (first
   | (refine wpList_stRow rfl rfl rfl rfl rfl (Blk.new w2 _ _) rhd_size rfl (by simp [Value.oneCell']) ?_; generalize (w2.alloc (.cells Z1 52)).setRow w2.heap.size (A4 h0 h1 h2 h3 h4 h5) = W4 at *; generalize w2.heap.size = gh at *)
   | (refine wpList_ldRow rfl rfl rfl bh Tryz.underlying52 rhd_size ?_))
  refine (k2.out _ bel).mono ?_
  rintro e w3 ⟨rfl, hb⟩
  replace bel := bel_after bel hb
  replace bk := bk.bel hb
  clear hb k2 bh
  have hlt := bk.lt
  have bp := (Blk.new w3 54 Z0).setRow (A0 pr sr ds fl ki co er isz i1 i2 i3 i4 i5 pat ba)
  replace bk := (bk.alloc (.cells Z0 54)).setRow_far (g' := w3.heap.size) (by omega) (A0 pr sr ds fl ki co er isz i1 i2 i3 i4 i5 pat ba)
  replace bel := below_setRow (bel.alloc bel.size (.cells Z0 54)) bel.size (A0 pr sr ds fl ki co er isz i1 i2 i3 i4 i5 pat ba)
  clear hlt
  go_upto_region 5 with (refine wpList_stRow rfl rfl rfl rfl rfl (Blk.new w3 _ _) rpt_size rfl (by simp [Value.oneCell']) ?_; generalize (w3.alloc (.cells Z0 54)).setRow w3.heap.size (A0 pr sr ds fl ki co er isz i1 i2 i3 i4 i5 pat ba) = W5 at *; generalize w3.heap.size = gp at *)
  go_wp2_with (first
   | (refine wpList_ldRow rfl rfl rfl bp Tryz.underlying54 rpt_size ?_)
   | (refine wpList_stRow rfl rfl rfl rfl rfl bk rpt_size rfl (by simp [Value.oneCell']) ?_))
  exact bodyPost_ret (results_row2 rfl _ rfl (bk.setRow _) Tryz.underlying54 rpt_size) rfl ⟨rfl, below_setRow bel (Nat.le_refl _) _⟩
 ·rw [if_neg hE]
  have hz : hdIf l (getE l) = Hd.z := by unfold hdIf; rw [if_neg hE]
  rw [hz] at k1
  generalize getE l = E at *
  have d1 : (E != 0) = true := by simpa using hE
  have d2 : (E == 0) = false := by simpa using hE
  clear hE hr hz
  obtain ⟨h0, h1, h2, h3, h4, h5, hh⟩ : ∃ h0 h1 h2 h3 h4 h5 : Int, Hd.z = ⟨h0, h1, h2, h3, h4, h5⟩ := ⟨_, _, _, _, _, _, rfl⟩
  rw [hh] at k1
  clear hh
  simp only [PartT, Hd.val, Pt.val, Pt.z, Hd.z] at k1 ⊢
  replace k1 := Lib.hid k1
  go_enter Tryz.func11, Tryz.ntmps11
  go_upto_region 1 with fail
  have bk := Blk.new w 54 Z0
  have bel := bel_alloc w (.cells Z0 54)
  generalize w.alloc (.cells Z0 54) = W1 at *
  go_wp2_with fail
  refine (k1.out _ bel).mono ?_
  rintro e w2 ⟨rfl, hb⟩
  replace bel := bel_after bel hb
  replace bk := bk.bel hb
  clear hb k1
  have hlt := bk.lt
  replace bk := (bk.alloc (.cells Z1 52)).setRow_far (g' := w2.heap.size) (by omega) (A4 h0 h1 h2 h3 h4 h5)
  replace bel := below_setRow (bel.alloc bel.size (.cells Z1 52)) bel.size (A4 h0 h1 h2 h3 h4 h5)
  clear hlt
  go_upto_region 3 with (refine wpList_stRow rfl rfl rfl rfl rfl (Blk.new w2 _ _) rhd_size rfl (by simp [Value.oneCell']) ?_; generalize (w2.alloc (.cells Z1 52)).setRow w2.heap.size (A4 h0 h1 h2 h3 h4 h5) = W4 at *; generalize w2.heap.size = gh at *)
  go_wp2_with (refine wpList_stRow rfl rfl rfl rfl rfl bk rpt_size rfl (by simp [Value.oneCell']) ?_)
  exact bodyPost_ret (results_row2 rfl _ rfl (bk.setRow _) Tryz.underlying54 rpt_size) rfl ⟨rfl, below_setRow bel (Nat.le_refl _) _⟩
theorem rfl_size : (Tryz.prog.info? 43).map (·.size) = some 3 := by kernel_rfl
structure RW0 (w W : World) (cf hv : Array Value) (gh : Nat) : Prop where
 bc : Blk W w.heap.size 25 cf
 br : Blk W (w.heap.size + 1) 43 Z2
 bh : Blk W gh 52 hv
 bel : Below w.heap.size w W
 g0 : w.heap.size + 1 < gh
theorem RW0.bel_ {w W W' : World} {cf hv : Array Value} {gh : Nat} (h : RW0 w W cf hv gh) (hb : Below W.heap.size W W') : RW0 w W' cf hv gh := ⟨h.bc.bel hb, h.br.bel hb, h.bh.bel hb, bel_after h.bel hb, h.g0⟩
theorem RW0.row {w W : World} {cf hv : Array Value} {gh g : Nat} (h : RW0 w W cf hv gh) (hg : gh < g) (c : Array Value) : RW0 w (W.setRow g c) cf hv gh :=
 ⟨h.bc.setRow_far (by have := h.g0; omega) c, h.br.setRow_far (by have := h.g0; omega) c, h.bh.setRow_far (by omega) c, below_setRow h.bel (by have := h.g0; omega) c, h.g0⟩
theorem RW0.cell {w W : World} {cf hv : Array Value} {gh g : Nat} (h : RW0 w W cf hv gh) (hg : gh < g) (i : Nat) (u : Value) : RW0 w (W.setCell ⟨g, i, none⟩ u) cf hv gh :=
 ⟨h.bc.far (p := ⟨g, i, none⟩) (by show w.heap.size ≠ g; have := h.g0; omega) u, h.br.far (p := ⟨g, i, none⟩) (by show w.heap.size + 1 ≠ g; have := h.g0; omega) u, h.bh.far (p := ⟨g, i, none⟩) (by show gh ≠ g; omega) u, h.bel.setCell (p := ⟨g, i, none⟩) (by show w.heap.size ≤ g; have := h.g0; omega) u, h.g0⟩
theorem rWhose_any (wk ou lo hi bk rg : Int) (out : Bool) (l : List Int) (A : Option Addr) (len c : Nat) (w : World) (hr : Rd .u8 w w.heap.size A len l) (hlc : len ≤ c) (hcm : c ≤ 9223372036854775807) (hl : len ≤ 60000) :
  Calls Tryz.prog 9 #[.agg (A8 wk ou lo hi bk rg), .bool out, .slice A len c] w (WhoR w (whoP ou out l)) := by
 have k1 := fun W (h : Below w.heap.size w W) => rGet_any l false A len c _ W ((hr.below h).more h.size) (Nat.le_refl _) hlc hcm (by omega)
 rw [show getP l false = getE l from rfl] at k1
 by_cases hE : getE l = 0
 ·have hbb := frm_bdh (fun x hx => inr_u8 (hr.rng x hx)) hE
  have he : rdE l = (getR (hdOf l) l).1 := by unfold rdE; rw [if_pos hE]
  rw [hE] at k1
  rw [show hdIf l 0 = hdOf l from rfl] at k1
  have k2 := fun W (h : Below w.heap.size w W) => rPGet_any (hdOf l) l A len c _ W ((hr.below h).more h.size) (Nat.le_refl _) hlc hcm (by omega) hbb.1 hbb.2
  by_cases hE2 : (getR (hdOf l) l).1 = 0
  ·have hH : rdH l = hdOf l := by unfold rdH; rw [he, if_pos hE2]
   have hP : rdP l = (getR (hdOf l) l).2 := by unfold rdP; rw [he, if_pos hE2]
   unfold whoP
   rw [he, if_neg (fun h => h hE2), hH, hP]
   clear he hH hP hbb hE hr
   generalize hdOf l = H at *
   generalize getR H l = R at *
   obtain ⟨h0, h1, h2, h3, h4, h5⟩ := H
   obtain ⟨E, pr, sr, ds, fl, ki, co, er, ⟨isz, i1, i2, i3, i4, i5⟩, pat, ba⟩ := R
   simp only at hE2
   subst hE2
   simp only [Hd.val, Pt.val, Tells] at k1 k2
   replace k1 := Lib.hid k1
   replace k2 := Lib.hid k2
   cases out with
   | true =>
    simp only [if_true]
    cases er with
    | true =>
     simp only [insF, WhoR, Fl.cs, if_true]
     go_enter Tryz.func9, Tryz.ntmps9
     go_upto_region 1 with fail
     have bc := (Blk.new w 25 (A8 wk ou lo hi bk rg)).alloc (.cells Z2 43)
     have br := Blk.new (w.alloc (.cells (A8 wk ou lo hi bk rg) 25)) 43 Z2
     rw [show (w.alloc (.cells (A8 wk ou lo hi bk rg) 25)).heap.size = w.heap.size + 1 by simp] at br
     have bel : Below w.heap.size w ((w.alloc (.cells (A8 wk ou lo hi bk rg) 25)).alloc (.cells Z2 43)) := (bel_alloc _ _).alloc (by simp) _
     generalize (w.alloc (.cells (A8 wk ou lo hi bk rg) 25)).alloc (.cells Z2 43) = W at *
     go_wp2_with fail
     refine (k1.out _ bel).mono ?_
     rintro e w2 ⟨rfl, hb⟩
     replace bc := bc.bel hb
     replace br := br.bel hb
     replace bel := bel_after bel hb
     clear hb k1
     have hg0 : w.heap.size + 1 < w2.heap.size := br.lt
     have rw0 : RW0 w ((w2.alloc (.cells Z1 52)).setRow w2.heap.size (A4 h0 h1 h2 h3 h4 h5)) (A8 wk ou lo hi bk rg) (A4 h0 h1 h2 h3 h4 h5) w2.heap.size :=
      ⟨(bc.alloc _).setRow_far (by omega) _, (br.alloc _).setRow_far (by omega) _, (Blk.new w2 _ _).setRow _, below_setRow (bel.alloc bel.size _) bel.size _, hg0⟩
     clear bc br bel hg0
     go_upto_region 4 with (refine wpList_stRow rfl rfl rfl rfl rfl (Blk.new w2 _ _) rhd_size rfl (by simp [Value.oneCell']) ?_; generalize (w2.alloc (.cells Z1 52)).setRow w2.heap.size (A4 h0 h1 h2 h3 h4 h5) = W4 at *; generalize w2.heap.size = gh at *)
     have bh := rw0.bh
     go_wp2_with (refine wpList_ldRow rfl rfl rfl bh Tryz.underlying52 rhd_size ?_)
     refine (k2.out _ rw0.bel).mono ?_
     rintro e w3 ⟨rfl, hb⟩
     replace rw0 := rw0.bel_ hb
     clear hb k2 bh
     have hgp : gh < w3.heap.size := rw0.bh.lt
     have bp := (Blk.new w3 54 Z0).setRow (A0 pr sr ds fl ki co true isz i1 i2 i3 i4 i5 pat ba)
     replace rw0 := (rw0.bel_ (bel_alloc w3 (.cells Z0 54))).row hgp (A0 pr sr ds fl ki co true isz i1 i2 i3 i4 i5 pat ba)
     go_upto_region 7 with (refine wpList_stRow rfl rfl rfl rfl rfl (Blk.new w3 _ _) rpt_size rfl (by simp [Value.oneCell']) ?_; generalize (w3.alloc (.cells Z0 54)).setRow w3.heap.size (A0 pr sr ds fl ki co true isz i1 i2 i3 i4 i5 pat ba) = W5 at *; generalize w3.heap.size = gp at *)
     have bh := rw0.bh
     have hW5 := bp.lt
     have q3 := bh.cell 3
     have q4 := bh.cell 4
     have p1 := bp.cell 1
     have bf := (Blk.new W5 43 Z2).setRow (A6 h3 h4 sr)
     replace rw0 := (rw0.bel_ (bel_alloc W5 (.cells Z2 43))).row (g := W5.heap.size) (by omega) (A6 h3 h4 sr)
     replace bp := (bp.alloc (.cells Z2 43)).setRow_far (g' := W5.heap.size) (by omega) (A6 h3 h4 sr)
     go_upto_region 8 with (refine wpList_stRow rfl rfl rfl rfl rfl (Blk.new W5 _ _) rfl_size rfl (by simp [Value.oneCell']) ?_; generalize (W5.alloc (.cells Z2 43)).setRow W5.heap.size (A6 h3 h4 sr) = W6 at *; generalize W5.heap.size = gf at *)
     clear q3 q4 p1 bh
     have p6 := bp.cell 6
     go_upto_region 11 with fail
     clear p6
     have p2 := bp.cell 2
     have p6 := bp.cell 6
     have p10 := bp.cell 10
     have p12 := bp.cell 12
     go_upto_region 12 with (refine wpList_stRow rfl rfl rfl rfl rfl bf rfl_size rfl (by simp [Value.oneCell']) ?_)
     clear p2 p6 p10 p12
     replace bf := bf.setRow (A6 i3 i5 ds)
     replace rw0 := rw0.row (g := gf) (by omega) (A6 i3 i5 ds)
     replace bp := bp.setRow_far (g' := gf) (by omega) (A6 i3 i5 ds)
     generalize W6.setRow gf (A6 i3 i5 ds) = W9 at *
     have br := rw0.br
     go_upto_region 16 with fail
     go_wp2_with (first
      | (refine wpList_ldRow rfl rfl rfl bf Tryz.underlying43 rfl_size ?_)
      | (refine wpList_stRow rfl rfl rfl rfl rfl br rfl_size rfl (by simp [Value.oneCell']) ?_))
     exact bodyPost_ret (results_row2 rfl _ rfl (br.setRow _) Tryz.underlying43 rfl_size) rfl ⟨rfl, below_setRow rw0.bel (by omega) _⟩
    | false =>
     simp only [insF, WhoR, Fl.cs, Bool.false_eq_true, if_false]
     go_enter Tryz.func9, Tryz.ntmps9
     go_upto_region 1 with fail
     have bc := (Blk.new w 25 (A8 wk ou lo hi bk rg)).alloc (.cells Z2 43)
     have br := Blk.new (w.alloc (.cells (A8 wk ou lo hi bk rg) 25)) 43 Z2
     rw [show (w.alloc (.cells (A8 wk ou lo hi bk rg) 25)).heap.size = w.heap.size + 1 by simp] at br
     have bel : Below w.heap.size w ((w.alloc (.cells (A8 wk ou lo hi bk rg) 25)).alloc (.cells Z2 43)) := (bel_alloc _ _).alloc (by simp) _
     generalize (w.alloc (.cells (A8 wk ou lo hi bk rg) 25)).alloc (.cells Z2 43) = W at *
     go_wp2_with fail
     refine (k1.out _ bel).mono ?_
     rintro e w2 ⟨rfl, hb⟩
     replace bc := bc.bel hb
     replace br := br.bel hb
     replace bel := bel_after bel hb
     clear hb k1
     have hg0 : w.heap.size + 1 < w2.heap.size := br.lt
     have rw0 : RW0 w ((w2.alloc (.cells Z1 52)).setRow w2.heap.size (A4 h0 h1 h2 h3 h4 h5)) (A8 wk ou lo hi bk rg) (A4 h0 h1 h2 h3 h4 h5) w2.heap.size :=
      ⟨(bc.alloc _).setRow_far (by omega) _, (br.alloc _).setRow_far (by omega) _, (Blk.new w2 _ _).setRow _, below_setRow (bel.alloc bel.size _) bel.size _, hg0⟩
     clear bc br bel hg0
     go_upto_region 4 with (refine wpList_stRow rfl rfl rfl rfl rfl (Blk.new w2 _ _) rhd_size rfl (by simp [Value.oneCell']) ?_; generalize (w2.alloc (.cells Z1 52)).setRow w2.heap.size (A4 h0 h1 h2 h3 h4 h5) = W4 at *; generalize w2.heap.size = gh at *)
     have bh := rw0.bh
     go_wp2_with (refine wpList_ldRow rfl rfl rfl bh Tryz.underlying52 rhd_size ?_)
     refine (k2.out _ rw0.bel).mono ?_
     rintro e w3 ⟨rfl, hb⟩
     replace rw0 := rw0.bel_ hb
     clear hb k2 bh
     have hgp : gh < w3.heap.size := rw0.bh.lt
     have bp := (Blk.new w3 54 Z0).setRow (A0 pr sr ds fl ki co false isz i1 i2 i3 i4 i5 pat ba)
     replace rw0 := (rw0.bel_ (bel_alloc w3 (.cells Z0 54))).row hgp (A0 pr sr ds fl ki co false isz i1 i2 i3 i4 i5 pat ba)
     go_upto_region 7 with (refine wpList_stRow rfl rfl rfl rfl rfl (Blk.new w3 _ _) rpt_size rfl (by simp [Value.oneCell']) ?_; generalize (w3.alloc (.cells Z0 54)).setRow w3.heap.size (A0 pr sr ds fl ki co false isz i1 i2 i3 i4 i5 pat ba) = W5 at *; generalize w3.heap.size = gp at *)
     have bh := rw0.bh
     have hW5 := bp.lt
     have q3 := bh.cell 3
     have q4 := bh.cell 4
     have p1 := bp.cell 1
     have bf := (Blk.new W5 43 Z2).setRow (A6 h3 h4 sr)
     replace rw0 := (rw0.bel_ (bel_alloc W5 (.cells Z2 43))).row (g := W5.heap.size) (by omega) (A6 h3 h4 sr)
     replace bp := (bp.alloc (.cells Z2 43)).setRow_far (g' := W5.heap.size) (by omega) (A6 h3 h4 sr)
     go_upto_region 8 with (refine wpList_stRow rfl rfl rfl rfl rfl (Blk.new W5 _ _) rfl_size rfl (by simp [Value.oneCell']) ?_; generalize (W5.alloc (.cells Z2 43)).setRow W5.heap.size (A6 h3 h4 sr) = W6 at *; generalize W5.heap.size = gf at *)
     clear q3 q4 p1 bh
     have p6 := bp.cell 6
     have br := rw0.br
     go_upto_region 16 with fail
     go_wp2_with (first
      | (refine wpList_ldRow rfl rfl rfl bf Tryz.underlying43 rfl_size ?_)
      | (refine wpList_stRow rfl rfl rfl rfl rfl br rfl_size rfl (by simp [Value.oneCell']) ?_))
     exact bodyPost_ret (results_row2 rfl _ rfl (br.setRow _) Tryz.underlying43 rfl_size) rfl ⟨rfl, below_setRow rw0.bel (by omega) _⟩
   | false =>
    simp only [Bool.false_eq_true, if_false]
    cases er with
    | false =>
     simp only [outF, Bool.false_eq_true, if_false]
     by_cases h1 : h5 = ou
     ·have d1 : (h5 != ou) = false := by simpa using h1
      rw [if_neg (by simp [h1])]
      clear h1
      go_enter Tryz.func9, Tryz.ntmps9
      go_upto_region 1 with fail
      have bc := (Blk.new w 25 (A8 wk ou lo hi bk rg)).alloc (.cells Z2 43)
      have br := Blk.new (w.alloc (.cells (A8 wk ou lo hi bk rg) 25)) 43 Z2
      rw [show (w.alloc (.cells (A8 wk ou lo hi bk rg) 25)).heap.size = w.heap.size + 1 by simp] at br
      have bel : Below w.heap.size w ((w.alloc (.cells (A8 wk ou lo hi bk rg) 25)).alloc (.cells Z2 43)) := (bel_alloc _ _).alloc (by simp) _
      generalize (w.alloc (.cells (A8 wk ou lo hi bk rg) 25)).alloc (.cells Z2 43) = W at *
      go_wp2_with fail
      refine (k1.out _ bel).mono ?_
      rintro e w2 ⟨rfl, hb⟩
      replace bc := bc.bel hb
      replace br := br.bel hb
      replace bel := bel_after bel hb
      clear hb k1
      have hg0 : w.heap.size + 1 < w2.heap.size := br.lt
      have rw0 : RW0 w ((w2.alloc (.cells Z1 52)).setRow w2.heap.size (A4 h0 h1 h2 h3 h4 h5)) (A8 wk ou lo hi bk rg) (A4 h0 h1 h2 h3 h4 h5) w2.heap.size :=
       ⟨(bc.alloc _).setRow_far (by omega) _, (br.alloc _).setRow_far (by omega) _, (Blk.new w2 _ _).setRow _, below_setRow (bel.alloc bel.size _) bel.size _, hg0⟩
      clear bc br bel hg0
      go_upto_region 4 with (refine wpList_stRow rfl rfl rfl rfl rfl (Blk.new w2 _ _) rhd_size rfl (by simp [Value.oneCell']) ?_; generalize (w2.alloc (.cells Z1 52)).setRow w2.heap.size (A4 h0 h1 h2 h3 h4 h5) = W4 at *; generalize w2.heap.size = gh at *)
      have bh := rw0.bh
      go_wp2_with (refine wpList_ldRow rfl rfl rfl bh Tryz.underlying52 rhd_size ?_)
      refine (k2.out _ rw0.bel).mono ?_
      rintro e w3 ⟨rfl, hb⟩
      replace rw0 := rw0.bel_ hb
      clear hb k2 bh
      have hgp : gh < w3.heap.size := rw0.bh.lt
      have bp := (Blk.new w3 54 Z0).setRow (A0 pr sr ds fl ki co false isz i1 i2 i3 i4 i5 pat ba)
      replace rw0 := (rw0.bel_ (bel_alloc w3 (.cells Z0 54))).row hgp (A0 pr sr ds fl ki co false isz i1 i2 i3 i4 i5 pat ba)
      go_upto_region 7 with (refine wpList_stRow rfl rfl rfl rfl rfl (Blk.new w3 _ _) rpt_size rfl (by simp [Value.oneCell']) ?_; generalize (w3.alloc (.cells Z0 54)).setRow w3.heap.size (A0 pr sr ds fl ki co false isz i1 i2 i3 i4 i5 pat ba) = W5 at *; generalize w3.heap.size = gp at *)
      have bh := rw0.bh
      have hW5 := bp.lt
      have q3 := bh.cell 3
      have q4 := bh.cell 4
      have p1 := bp.cell 1
      have bf := (Blk.new W5 43 Z2).setRow (A6 h3 h4 sr)
      replace rw0 := (rw0.bel_ (bel_alloc W5 (.cells Z2 43))).row (g := W5.heap.size) (by omega) (A6 h3 h4 sr)
      replace bp := (bp.alloc (.cells Z2 43)).setRow_far (g' := W5.heap.size) (by omega) (A6 h3 h4 sr)
      go_upto_region 8 with (refine wpList_stRow rfl rfl rfl rfl rfl (Blk.new W5 _ _) rfl_size rfl (by simp [Value.oneCell']) ?_; generalize (W5.alloc (.cells Z2 43)).setRow W5.heap.size (A6 h3 h4 sr) = W6 at *; generalize W5.heap.size = gf at *)
      clear q3 q4 p1 bh
      go_upto_region 9 with fail
      have z5 : ∀ t : Tw (fun w' => Blk w' gh 52 (A4 h0 h1 h2 h3 h4 h5) ∧ Blk w' gp 54 (A0 pr sr ds fl ki co false isz i1 i2 i3 i4 i5 pat ba)), t.w.cell? ⟨gh, 5, none⟩ = some (.int .u32 h5) := fun t => t.h.1.cell 5
      have y1 : ∀ t : Tw (fun w' => Blk w' gh 52 (A4 h0 h1 h2 h3 h4 h5) ∧ Blk w' gp 54 (A0 pr sr ds fl ki co false isz i1 i2 i3 i4 i5 pat ba)), t.w.cell? ⟨gp, 1, none⟩ = some (.int .u16 sr) := fun t => t.h.2.cell 1
      have y2 : ∀ t : Tw (fun w' => Blk w' gh 52 (A4 h0 h1 h2 h3 h4 h5) ∧ Blk w' gp 54 (A0 pr sr ds fl ki co false isz i1 i2 i3 i4 i5 pat ba)), t.w.cell? ⟨gp, 2, none⟩ = some (.int .u16 ds) := fun t => t.h.2.cell 2
      have y11 : ∀ t : Tw (fun w' => Blk w' gh 52 (A4 h0 h1 h2 h3 h4 h5) ∧ Blk w' gp 54 (A0 pr sr ds fl ki co false isz i1 i2 i3 i4 i5 pat ba)), t.w.cell? ⟨gp, 11, none⟩ = some (.int .u32 i4) := fun t => t.h.2.cell 11
      have zz : Nonempty (Tw (fun w' => Blk w' gh 52 (A4 h0 h1 h2 h3 h4 h5) ∧ Blk w' gp 54 (A0 pr sr ds fl ki co false isz i1 i2 i3 i4 i5 pat ba))) := ⟨⟨_, rw0.bh, bp⟩⟩
      refine wp_region_plan (fun w' => Blk w' gh 52 (A4 h0 h1 h2 h3 h4 h5) ∧ Blk w' gp 54 (A0 pr sr ds fl ki co false isz i1 i2 i3 i4 i5 pat ba)) [(0, true), (1, true), (2, true), (3, true), (4, true), (5, false), (6, true), (7, false)] (by kernel_rfl) (by kernel_rfl) (by kernel_rfl) (by kernel_rfl) ⟨rw0.bh.drew, bp.drew⟩ ?_
      replace rw0 := rw0.bel_ (Below.refl _ _).drew
      replace bp := bp.drew
      replace bf := bf.drew
      generalize W6.drew = W7 at *
      refine wpPl_qs 5 _ _ _ (by kernel_rfl) (by kernel_rfl) (by simp) ?_
      unfold clsS
      simp only [qq1, qq2, qq3, qq4, List.filterMap_cons, qq6, qq7, qq8, qq9]
      repeat (first | go_big_quiet_skip | (go_big_quiet_want; go_big_quiet_op; go_big_quiet_on) | refine id (?_ : wpQuiet _ _ _ _ (_ :: _) _))
      refine wpQuiet_nil ?_
      have f1 := bf.cell 1
      have g1 := bf.frozen 1
      refine wpPl_e _ (by rfl) (by kernel_rfl) (fun K hK => ?_)
      go_simp
      replace rw0 := rw0.cell (g := gf) (by omega) 1 (.int .u32 h5)
      replace bp := bp.far (p := ⟨gf, 1, none⟩) (by show gp ≠ gf; omega) (.int .u32 h5)
      replace bf := bf.set_ 1 (.int .u32 h5)
      refine hK _ _ ⟨rw0.bh, bp⟩ ?_
      clear hK K f1 g1
      generalize W7.setCell ⟨gf, 1, none⟩ (.int .u32 h5) = W8 at *
      refine wpPl_qs 1 _ _ _ (by kernel_rfl) (by kernel_rfl) (by simp) ?_
      unfold clsS
      simp only [qq1, qq2, qq3, qq4, List.filterMap_cons, qq6, qq7, qq8, qq9]
      repeat (first | go_big_quiet_skip | (go_big_quiet_want; go_big_quiet_op; go_big_quiet_on) | refine id (?_ : wpQuiet _ _ _ _ (_ :: _) _))
      refine wpQuiet_nil ?_
      have f1 := bf.cell 2
      have g1 := bf.frozen 2
      refine wpPl_e _ (by rfl) (by kernel_rfl) (fun K hK => ?_)
      go_simp
      replace rw0 := rw0.cell (g := gf) (by omega) 2 (.int .u16 ds)
      replace bp := bp.far (p := ⟨gf, 2, none⟩) (by show gp ≠ gf; omega) (.int .u16 ds)
      replace bf := bf.set_ 2 (.int .u16 ds)
      refine hK _ _ ⟨rw0.bh, bp⟩ ?_
      clear hK K f1 g1 z5 y1 y2 y11 zz
      generalize W8.setCell ⟨gf, 2, none⟩ (.int .u16 ds) = W9 at *
      replace bf : Blk W9 gf 43 (A6 h3 h5 ds) := bf
      unfold wpPl
      refine NoPanic.normal ?_
      have bh := rw0.bh
      have bc := rw0.bc
      have p6 := bp.cell 6
      have t5 := bh.cell 5
      have t1 := bc.cell 1
      have tf := bf.cell 1
      have br := rw0.br
      go_upto_region 16 with fail
      go_wp2_with (first
       | (refine wpList_ldRow rfl rfl rfl bf Tryz.underlying43 rfl_size ?_)
       | (refine wpList_stRow rfl rfl rfl rfl rfl br rfl_size rfl (by simp [Value.oneCell']) ?_))
      exact bodyPost_ret (results_row2 rfl _ rfl (br.setRow _) Tryz.underlying43 rfl_size) rfl ⟨rfl, below_setRow rw0.bel (by omega) _⟩
     ·have d1 : (h5 != ou) = true := by simpa using h1
      rw [if_pos (.inl h1)]
      clear h1
      simp only [WhoR, Fl.cs, Fl.z]
      go_enter Tryz.func9, Tryz.ntmps9
      go_upto_region 1 with fail
      have bc := (Blk.new w 25 (A8 wk ou lo hi bk rg)).alloc (.cells Z2 43)
      have br := Blk.new (w.alloc (.cells (A8 wk ou lo hi bk rg) 25)) 43 Z2
      rw [show (w.alloc (.cells (A8 wk ou lo hi bk rg) 25)).heap.size = w.heap.size + 1 by simp] at br
      have bel : Below w.heap.size w ((w.alloc (.cells (A8 wk ou lo hi bk rg) 25)).alloc (.cells Z2 43)) := (bel_alloc _ _).alloc (by simp) _
      generalize (w.alloc (.cells (A8 wk ou lo hi bk rg) 25)).alloc (.cells Z2 43) = W at *
      go_wp2_with fail
      refine (k1.out _ bel).mono ?_
      rintro e w2 ⟨rfl, hb⟩
      replace bc := bc.bel hb
      replace br := br.bel hb
      replace bel := bel_after bel hb
      clear hb k1
      have hg0 : w.heap.size + 1 < w2.heap.size := br.lt
      have rw0 : RW0 w ((w2.alloc (.cells Z1 52)).setRow w2.heap.size (A4 h0 h1 h2 h3 h4 h5)) (A8 wk ou lo hi bk rg) (A4 h0 h1 h2 h3 h4 h5) w2.heap.size :=
       ⟨(bc.alloc _).setRow_far (by omega) _, (br.alloc _).setRow_far (by omega) _, (Blk.new w2 _ _).setRow _, below_setRow (bel.alloc bel.size _) bel.size _, hg0⟩
      clear bc br bel hg0
      go_upto_region 4 with (refine wpList_stRow rfl rfl rfl rfl rfl (Blk.new w2 _ _) rhd_size rfl (by simp [Value.oneCell']) ?_; generalize (w2.alloc (.cells Z1 52)).setRow w2.heap.size (A4 h0 h1 h2 h3 h4 h5) = W4 at *; generalize w2.heap.size = gh at *)
      have bh := rw0.bh
      go_wp2_with (refine wpList_ldRow rfl rfl rfl bh Tryz.underlying52 rhd_size ?_)
      refine (k2.out _ rw0.bel).mono ?_
      rintro e w3 ⟨rfl, hb⟩
      replace rw0 := rw0.bel_ hb
      clear hb k2 bh
      have hgp : gh < w3.heap.size := rw0.bh.lt
      have bp := (Blk.new w3 54 Z0).setRow (A0 pr sr ds fl ki co false isz i1 i2 i3 i4 i5 pat ba)
      replace rw0 := (rw0.bel_ (bel_alloc w3 (.cells Z0 54))).row hgp (A0 pr sr ds fl ki co false isz i1 i2 i3 i4 i5 pat ba)
      go_upto_region 7 with (refine wpList_stRow rfl rfl rfl rfl rfl (Blk.new w3 _ _) rpt_size rfl (by simp [Value.oneCell']) ?_; generalize (w3.alloc (.cells Z0 54)).setRow w3.heap.size (A0 pr sr ds fl ki co false isz i1 i2 i3 i4 i5 pat ba) = W5 at *; generalize w3.heap.size = gp at *)
      have bh := rw0.bh
      have hW5 := bp.lt
      have q3 := bh.cell 3
      have q4 := bh.cell 4
      have p1 := bp.cell 1
      have bf := (Blk.new W5 43 Z2).setRow (A6 h3 h4 sr)
      replace rw0 := (rw0.bel_ (bel_alloc W5 (.cells Z2 43))).row (g := W5.heap.size) (by omega) (A6 h3 h4 sr)
      replace bp := (bp.alloc (.cells Z2 43)).setRow_far (g' := W5.heap.size) (by omega) (A6 h3 h4 sr)
      go_upto_region 8 with (refine wpList_stRow rfl rfl rfl rfl rfl (Blk.new W5 _ _) rfl_size rfl (by simp [Value.oneCell']) ?_; generalize (W5.alloc (.cells Z2 43)).setRow W5.heap.size (A6 h3 h4 sr) = W6 at *; generalize W5.heap.size = gf at *)
      clear q3 q4 p1 bh
      go_upto_region 9 with fail
      have z5 : ∀ t : Tw (fun w' => Blk w' gh 52 (A4 h0 h1 h2 h3 h4 h5) ∧ Blk w' gp 54 (A0 pr sr ds fl ki co false isz i1 i2 i3 i4 i5 pat ba)), t.w.cell? ⟨gh, 5, none⟩ = some (.int .u32 h5) := fun t => t.h.1.cell 5
      have y1 : ∀ t : Tw (fun w' => Blk w' gh 52 (A4 h0 h1 h2 h3 h4 h5) ∧ Blk w' gp 54 (A0 pr sr ds fl ki co false isz i1 i2 i3 i4 i5 pat ba)), t.w.cell? ⟨gp, 1, none⟩ = some (.int .u16 sr) := fun t => t.h.2.cell 1
      have y2 : ∀ t : Tw (fun w' => Blk w' gh 52 (A4 h0 h1 h2 h3 h4 h5) ∧ Blk w' gp 54 (A0 pr sr ds fl ki co false isz i1 i2 i3 i4 i5 pat ba)), t.w.cell? ⟨gp, 2, none⟩ = some (.int .u16 ds) := fun t => t.h.2.cell 2
      have y11 : ∀ t : Tw (fun w' => Blk w' gh 52 (A4 h0 h1 h2 h3 h4 h5) ∧ Blk w' gp 54 (A0 pr sr ds fl ki co false isz i1 i2 i3 i4 i5 pat ba)), t.w.cell? ⟨gp, 11, none⟩ = some (.int .u32 i4) := fun t => t.h.2.cell 11
      have zz : Nonempty (Tw (fun w' => Blk w' gh 52 (A4 h0 h1 h2 h3 h4 h5) ∧ Blk w' gp 54 (A0 pr sr ds fl ki co false isz i1 i2 i3 i4 i5 pat ba))) := ⟨⟨_, rw0.bh, bp⟩⟩
      refine wp_region_plan (fun w' => Blk w' gh 52 (A4 h0 h1 h2 h3 h4 h5) ∧ Blk w' gp 54 (A0 pr sr ds fl ki co false isz i1 i2 i3 i4 i5 pat ba)) [(0, true), (1, true), (2, true), (3, true), (4, true), (5, false), (6, true), (7, false)] (by kernel_rfl) (by kernel_rfl) (by kernel_rfl) (by kernel_rfl) ⟨rw0.bh.drew, bp.drew⟩ ?_
      replace rw0 := rw0.bel_ (Below.refl _ _).drew
      replace bp := bp.drew
      replace bf := bf.drew
      generalize W6.drew = W7 at *
      refine wpPl_qs 5 _ _ _ (by kernel_rfl) (by kernel_rfl) (by simp) ?_
      unfold clsS
      simp only [qq1, qq2, qq3, qq4, List.filterMap_cons, qq6, qq7, qq8, qq9]
      repeat (first | go_big_quiet_skip | (go_big_quiet_want; go_big_quiet_op; go_big_quiet_on) | refine id (?_ : wpQuiet _ _ _ _ (_ :: _) _))
      refine wpQuiet_nil ?_
      have f1 := bf.cell 1
      have g1 := bf.frozen 1
      refine wpPl_e _ (by rfl) (by kernel_rfl) (fun K hK => ?_)
      go_simp
      replace rw0 := rw0.cell (g := gf) (by omega) 1 (.int .u32 h5)
      replace bp := bp.far (p := ⟨gf, 1, none⟩) (by show gp ≠ gf; omega) (.int .u32 h5)
      replace bf := bf.set_ 1 (.int .u32 h5)
      refine hK _ _ ⟨rw0.bh, bp⟩ ?_
      clear hK K f1 g1
      generalize W7.setCell ⟨gf, 1, none⟩ (.int .u32 h5) = W8 at *
      refine wpPl_qs 1 _ _ _ (by kernel_rfl) (by kernel_rfl) (by simp) ?_
      unfold clsS
      simp only [qq1, qq2, qq3, qq4, List.filterMap_cons, qq6, qq7, qq8, qq9]
      repeat (first | go_big_quiet_skip | (go_big_quiet_want; go_big_quiet_op; go_big_quiet_on) | refine id (?_ : wpQuiet _ _ _ _ (_ :: _) _))
      refine wpQuiet_nil ?_
      have f1 := bf.cell 2
      have g1 := bf.frozen 2
      refine wpPl_e _ (by rfl) (by kernel_rfl) (fun K hK => ?_)
      go_simp
      replace rw0 := rw0.cell (g := gf) (by omega) 2 (.int .u16 ds)
      replace bp := bp.far (p := ⟨gf, 2, none⟩) (by show gp ≠ gf; omega) (.int .u16 ds)
      replace bf := bf.set_ 2 (.int .u16 ds)
      refine hK _ _ ⟨rw0.bh, bp⟩ ?_
      clear hK K f1 g1 z5 y1 y2 y11 zz
      generalize W8.setCell ⟨gf, 2, none⟩ (.int .u16 ds) = W9 at *
      replace bf : Blk W9 gf 43 (A6 h3 h5 ds) := bf
      unfold wpPl
      refine NoPanic.normal ?_
      have bh := rw0.bh
      have bc := rw0.bc
      have p6 := bp.cell 6
      have t5 := bh.cell 5
      have t1 := bc.cell 1
      have tf := bf.cell 1
      have br := rw0.br
      go_upto_region 15 with fail
      go_wp2_with (first
       | (refine wpList_ldRow rfl rfl rfl bf Tryz.underlying43 rfl_size ?_)
       | (refine wpList_stRow rfl rfl rfl rfl rfl br rfl_size rfl (by simp [Value.oneCell']) ?_))
      exact bodyPost_ret (results_row2 rfl _ rfl (br.setRow _) Tryz.underlying43 rfl_size) rfl ⟨rfl, below_setRow rw0.bel (by omega) _⟩
    | true =>
     simp only [outF, if_true]
     by_cases h1 : h5 = ou
     ·have d1 : (h5 != ou) = false := by simpa using h1
      by_cases h2 : i4 = ou
      ·have d2 : (i4 != ou) = false := by simpa using h2
       rw [if_neg (by simp [h1, h2])]
       clear h1 h2
       go_enter Tryz.func9, Tryz.ntmps9
       go_upto_region 1 with fail
       have bc := (Blk.new w 25 (A8 wk ou lo hi bk rg)).alloc (.cells Z2 43)
       have br := Blk.new (w.alloc (.cells (A8 wk ou lo hi bk rg) 25)) 43 Z2
       rw [show (w.alloc (.cells (A8 wk ou lo hi bk rg) 25)).heap.size = w.heap.size + 1 by simp] at br
       have bel : Below w.heap.size w ((w.alloc (.cells (A8 wk ou lo hi bk rg) 25)).alloc (.cells Z2 43)) := (bel_alloc _ _).alloc (by simp) _
       generalize (w.alloc (.cells (A8 wk ou lo hi bk rg) 25)).alloc (.cells Z2 43) = W at *
       go_wp2_with fail
       refine (k1.out _ bel).mono ?_
       rintro e w2 ⟨rfl, hb⟩
       replace bc := bc.bel hb
       replace br := br.bel hb
       replace bel := bel_after bel hb
       clear hb k1
       have hg0 : w.heap.size + 1 < w2.heap.size := br.lt
       have rw0 : RW0 w ((w2.alloc (.cells Z1 52)).setRow w2.heap.size (A4 h0 h1 h2 h3 h4 h5)) (A8 wk ou lo hi bk rg) (A4 h0 h1 h2 h3 h4 h5) w2.heap.size :=
        ⟨(bc.alloc _).setRow_far (by omega) _, (br.alloc _).setRow_far (by omega) _, (Blk.new w2 _ _).setRow _, below_setRow (bel.alloc bel.size _) bel.size _, hg0⟩
       clear bc br bel hg0
       go_upto_region 4 with (refine wpList_stRow rfl rfl rfl rfl rfl (Blk.new w2 _ _) rhd_size rfl (by simp [Value.oneCell']) ?_; generalize (w2.alloc (.cells Z1 52)).setRow w2.heap.size (A4 h0 h1 h2 h3 h4 h5) = W4 at *; generalize w2.heap.size = gh at *)
       have bh := rw0.bh
       go_wp2_with (refine wpList_ldRow rfl rfl rfl bh Tryz.underlying52 rhd_size ?_)
       refine (k2.out _ rw0.bel).mono ?_
       rintro e w3 ⟨rfl, hb⟩
       replace rw0 := rw0.bel_ hb
       clear hb k2 bh
       have hgp : gh < w3.heap.size := rw0.bh.lt
       have bp := (Blk.new w3 54 Z0).setRow (A0 pr sr ds fl ki co true isz i1 i2 i3 i4 i5 pat ba)
       replace rw0 := (rw0.bel_ (bel_alloc w3 (.cells Z0 54))).row hgp (A0 pr sr ds fl ki co true isz i1 i2 i3 i4 i5 pat ba)
       go_upto_region 7 with (refine wpList_stRow rfl rfl rfl rfl rfl (Blk.new w3 _ _) rpt_size rfl (by simp [Value.oneCell']) ?_; generalize (w3.alloc (.cells Z0 54)).setRow w3.heap.size (A0 pr sr ds fl ki co true isz i1 i2 i3 i4 i5 pat ba) = W5 at *; generalize w3.heap.size = gp at *)
       have bh := rw0.bh
       have hW5 := bp.lt
       have q3 := bh.cell 3
       have q4 := bh.cell 4
       have p1 := bp.cell 1
       have bf := (Blk.new W5 43 Z2).setRow (A6 h3 h4 sr)
       replace rw0 := (rw0.bel_ (bel_alloc W5 (.cells Z2 43))).row (g := W5.heap.size) (by omega) (A6 h3 h4 sr)
       replace bp := (bp.alloc (.cells Z2 43)).setRow_far (g' := W5.heap.size) (by omega) (A6 h3 h4 sr)
       go_upto_region 8 with (refine wpList_stRow rfl rfl rfl rfl rfl (Blk.new W5 _ _) rfl_size rfl (by simp [Value.oneCell']) ?_; generalize (W5.alloc (.cells Z2 43)).setRow W5.heap.size (A6 h3 h4 sr) = W6 at *; generalize W5.heap.size = gf at *)
       clear q3 q4 p1 bh
       go_upto_region 9 with fail
       have z5 : ∀ t : Tw (fun w' => Blk w' gh 52 (A4 h0 h1 h2 h3 h4 h5) ∧ Blk w' gp 54 (A0 pr sr ds fl ki co true isz i1 i2 i3 i4 i5 pat ba)), t.w.cell? ⟨gh, 5, none⟩ = some (.int .u32 h5) := fun t => t.h.1.cell 5
       have y1 : ∀ t : Tw (fun w' => Blk w' gh 52 (A4 h0 h1 h2 h3 h4 h5) ∧ Blk w' gp 54 (A0 pr sr ds fl ki co true isz i1 i2 i3 i4 i5 pat ba)), t.w.cell? ⟨gp, 1, none⟩ = some (.int .u16 sr) := fun t => t.h.2.cell 1
       have y2 : ∀ t : Tw (fun w' => Blk w' gh 52 (A4 h0 h1 h2 h3 h4 h5) ∧ Blk w' gp 54 (A0 pr sr ds fl ki co true isz i1 i2 i3 i4 i5 pat ba)), t.w.cell? ⟨gp, 2, none⟩ = some (.int .u16 ds) := fun t => t.h.2.cell 2
       have y11 : ∀ t : Tw (fun w' => Blk w' gh 52 (A4 h0 h1 h2 h3 h4 h5) ∧ Blk w' gp 54 (A0 pr sr ds fl ki co true isz i1 i2 i3 i4 i5 pat ba)), t.w.cell? ⟨gp, 11, none⟩ = some (.int .u32 i4) := fun t => t.h.2.cell 11
       have zz : Nonempty (Tw (fun w' => Blk w' gh 52 (A4 h0 h1 h2 h3 h4 h5) ∧ Blk w' gp 54 (A0 pr sr ds fl ki co true isz i1 i2 i3 i4 i5 pat ba))) := ⟨⟨_, rw0.bh, bp⟩⟩
       refine wp_region_plan (fun w' => Blk w' gh 52 (A4 h0 h1 h2 h3 h4 h5) ∧ Blk w' gp 54 (A0 pr sr ds fl ki co true isz i1 i2 i3 i4 i5 pat ba)) [(0, true), (1, true), (2, true), (3, true), (4, true), (5, false), (6, true), (7, false)] (by kernel_rfl) (by kernel_rfl) (by kernel_rfl) (by kernel_rfl) ⟨rw0.bh.drew, bp.drew⟩ ?_
       replace rw0 := rw0.bel_ (Below.refl _ _).drew
       replace bp := bp.drew
       replace bf := bf.drew
       generalize W6.drew = W7 at *
       refine wpPl_qs 5 _ _ _ (by kernel_rfl) (by kernel_rfl) (by simp) ?_
       unfold clsS
       simp only [qq1, qq2, qq3, qq4, List.filterMap_cons, qq6, qq7, qq8, qq9]
       repeat (first | go_big_quiet_skip | (go_big_quiet_want; go_big_quiet_op; go_big_quiet_on) | refine id (?_ : wpQuiet _ _ _ _ (_ :: _) _))
       refine wpQuiet_nil ?_
       have f1 := bf.cell 1
       have g1 := bf.frozen 1
       refine wpPl_e _ (by rfl) (by kernel_rfl) (fun K hK => ?_)
       go_simp
       replace rw0 := rw0.cell (g := gf) (by omega) 1 (.int .u32 h5)
       replace bp := bp.far (p := ⟨gf, 1, none⟩) (by show gp ≠ gf; omega) (.int .u32 h5)
       replace bf := bf.set_ 1 (.int .u32 h5)
       refine hK _ _ ⟨rw0.bh, bp⟩ ?_
       clear hK K f1 g1
       generalize W7.setCell ⟨gf, 1, none⟩ (.int .u32 h5) = W8 at *
       refine wpPl_qs 1 _ _ _ (by kernel_rfl) (by kernel_rfl) (by simp) ?_
       unfold clsS
       simp only [qq1, qq2, qq3, qq4, List.filterMap_cons, qq6, qq7, qq8, qq9]
       repeat (first | go_big_quiet_skip | (go_big_quiet_want; go_big_quiet_op; go_big_quiet_on) | refine id (?_ : wpQuiet _ _ _ _ (_ :: _) _))
       refine wpQuiet_nil ?_
       have f1 := bf.cell 2
       have g1 := bf.frozen 2
       refine wpPl_e _ (by rfl) (by kernel_rfl) (fun K hK => ?_)
       go_simp
       replace rw0 := rw0.cell (g := gf) (by omega) 2 (.int .u16 ds)
       replace bp := bp.far (p := ⟨gf, 2, none⟩) (by show gp ≠ gf; omega) (.int .u16 ds)
       replace bf := bf.set_ 2 (.int .u16 ds)
       refine hK _ _ ⟨rw0.bh, bp⟩ ?_
       clear hK K f1 g1 z5 y1 y2 y11 zz
       generalize W8.setCell ⟨gf, 2, none⟩ (.int .u16 ds) = W9 at *
       replace bf : Blk W9 gf 43 (A6 h3 h5 ds) := bf
       unfold wpPl
       refine NoPanic.normal ?_
       have p6 := bp.cell 6
       go_upto_region 11 with fail
       clear p6
       have p2 := bp.cell 2
       have p6 := bp.cell 6
       have p10 := bp.cell 10
       have p12 := bp.cell 12
       go_upto_region 12 with (refine wpList_stRow rfl rfl rfl rfl rfl bf rfl_size rfl (by simp [Value.oneCell']) ?_)
       clear p2 p6 p10 p12
       replace bf := bf.setRow (A6 i3 i5 ds)
       replace rw0 := rw0.row (g := gf) (by omega) (A6 i3 i5 ds)
       replace bp := bp.setRow_far (g' := gf) (by omega) (A6 i3 i5 ds)
       generalize W9.setRow gf (A6 i3 i5 ds) = Wa at *
       go_upto_region 13 with fail
       have z5 : ∀ t : Tw (fun w' => Blk w' gh 52 (A4 h0 h1 h2 h3 h4 h5) ∧ Blk w' gp 54 (A0 pr sr ds fl ki co true isz i1 i2 i3 i4 i5 pat ba)), t.w.cell? ⟨gh, 5, none⟩ = some (.int .u32 h5) := fun t => t.h.1.cell 5
       have y1 : ∀ t : Tw (fun w' => Blk w' gh 52 (A4 h0 h1 h2 h3 h4 h5) ∧ Blk w' gp 54 (A0 pr sr ds fl ki co true isz i1 i2 i3 i4 i5 pat ba)), t.w.cell? ⟨gp, 1, none⟩ = some (.int .u16 sr) := fun t => t.h.2.cell 1
       have y2 : ∀ t : Tw (fun w' => Blk w' gh 52 (A4 h0 h1 h2 h3 h4 h5) ∧ Blk w' gp 54 (A0 pr sr ds fl ki co true isz i1 i2 i3 i4 i5 pat ba)), t.w.cell? ⟨gp, 2, none⟩ = some (.int .u16 ds) := fun t => t.h.2.cell 2
       have y11 : ∀ t : Tw (fun w' => Blk w' gh 52 (A4 h0 h1 h2 h3 h4 h5) ∧ Blk w' gp 54 (A0 pr sr ds fl ki co true isz i1 i2 i3 i4 i5 pat ba)), t.w.cell? ⟨gp, 11, none⟩ = some (.int .u32 i4) := fun t => t.h.2.cell 11
       have zz : Nonempty (Tw (fun w' => Blk w' gh 52 (A4 h0 h1 h2 h3 h4 h5) ∧ Blk w' gp 54 (A0 pr sr ds fl ki co true isz i1 i2 i3 i4 i5 pat ba))) := ⟨⟨_, rw0.bh, bp⟩⟩
       refine wp_region_plan (fun w' => Blk w' gh 52 (A4 h0 h1 h2 h3 h4 h5) ∧ Blk w' gp 54 (A0 pr sr ds fl ki co true isz i1 i2 i3 i4 i5 pat ba)) [(0, true), (1, true), (2, true), (3, true), (4, true), (5, true), (6, false), (7, true), (8, false)] (by kernel_rfl) (by kernel_rfl) (by kernel_rfl) (by kernel_rfl) ⟨rw0.bh.drew, bp.drew⟩ ?_
       replace rw0 := rw0.bel_ (Below.refl _ _).drew
       replace bp := bp.drew
       replace bf := bf.drew
       generalize Wa.drew = W7 at *
       refine wpPl_qs 6 _ _ _ (by kernel_rfl) (by kernel_rfl) (by simp) ?_
       unfold clsS
       simp only [qq1, qq2, qq3, qq4, List.filterMap_cons, qq6, qq7, qq8, qq9]
       repeat (first | go_big_quiet_skip | (go_big_quiet_want; go_big_quiet_op; go_big_quiet_on) | refine id (?_ : wpQuiet _ _ _ _ (_ :: _) _))
       refine wpQuiet_nil ?_
       have f1 := bf.cell 1
       have g1 := bf.frozen 1
       refine wpPl_e _ (by rfl) (by kernel_rfl) (fun K hK => ?_)
       go_simp
       replace rw0 := rw0.cell (g := gf) (by omega) 1 (.int .u32 i4)
       replace bp := bp.far (p := ⟨gf, 1, none⟩) (by show gp ≠ gf; omega) (.int .u32 i4)
       replace bf := bf.set_ 1 (.int .u32 i4)
       refine hK _ _ ⟨rw0.bh, bp⟩ ?_
       clear hK K f1 g1
       generalize W7.setCell ⟨gf, 1, none⟩ (.int .u32 i4) = W8 at *
       refine wpPl_qs 1 _ _ _ (by kernel_rfl) (by kernel_rfl) (by simp) ?_
       unfold clsS
       simp only [qq1, qq2, qq3, qq4, List.filterMap_cons, qq6, qq7, qq8, qq9]
       repeat (first | go_big_quiet_skip | (go_big_quiet_want; go_big_quiet_op; go_big_quiet_on) | refine id (?_ : wpQuiet _ _ _ _ (_ :: _) _))
       refine wpQuiet_nil ?_
       have f1 := bf.cell 2
       have g1 := bf.frozen 2
       refine wpPl_e _ (by rfl) (by kernel_rfl) (fun K hK => ?_)
       go_simp
       replace rw0 := rw0.cell (g := gf) (by omega) 2 (.int .u16 sr)
       replace bp := bp.far (p := ⟨gf, 2, none⟩) (by show gp ≠ gf; omega) (.int .u16 sr)
       replace bf := bf.set_ 2 (.int .u16 sr)
       refine hK _ _ ⟨rw0.bh, bp⟩ ?_
       clear hK K f1 g1 z5 y1 y2 y11 zz
       generalize W8.setCell ⟨gf, 2, none⟩ (.int .u16 sr) = Wb at *
       replace bf : Blk Wb gf 43 (A6 i3 i4 sr) := bf
       unfold wpPl
       refine NoPanic.normal ?_
       have bh := rw0.bh
       have bc := rw0.bc
       have p6 := bp.cell 6
       have t5 := bh.cell 5
       have t1 := bc.cell 1
       have tf := bf.cell 1
       have br := rw0.br
       go_upto_region 16 with fail
       go_wp2_with (first
        | (refine wpList_ldRow rfl rfl rfl bf Tryz.underlying43 rfl_size ?_)
        | (refine wpList_stRow rfl rfl rfl rfl rfl br rfl_size rfl (by simp [Value.oneCell']) ?_))
       exact bodyPost_ret (results_row2 rfl _ rfl (br.setRow _) Tryz.underlying43 rfl_size) rfl ⟨rfl, below_setRow rw0.bel (by omega) _⟩
      ·have d2 : (i4 != ou) = true := by simpa using h2
       rw [if_pos (.inr h2)]
       clear h1 h2
       simp only [WhoR, Fl.cs, Fl.z]
       go_enter Tryz.func9, Tryz.ntmps9
       go_upto_region 1 with fail
       have bc := (Blk.new w 25 (A8 wk ou lo hi bk rg)).alloc (.cells Z2 43)
       have br := Blk.new (w.alloc (.cells (A8 wk ou lo hi bk rg) 25)) 43 Z2
       rw [show (w.alloc (.cells (A8 wk ou lo hi bk rg) 25)).heap.size = w.heap.size + 1 by simp] at br
       have bel : Below w.heap.size w ((w.alloc (.cells (A8 wk ou lo hi bk rg) 25)).alloc (.cells Z2 43)) := (bel_alloc _ _).alloc (by simp) _
       generalize (w.alloc (.cells (A8 wk ou lo hi bk rg) 25)).alloc (.cells Z2 43) = W at *
       go_wp2_with fail
       refine (k1.out _ bel).mono ?_
       rintro e w2 ⟨rfl, hb⟩
       replace bc := bc.bel hb
       replace br := br.bel hb
       replace bel := bel_after bel hb
       clear hb k1
       have hg0 : w.heap.size + 1 < w2.heap.size := br.lt
       have rw0 : RW0 w ((w2.alloc (.cells Z1 52)).setRow w2.heap.size (A4 h0 h1 h2 h3 h4 h5)) (A8 wk ou lo hi bk rg) (A4 h0 h1 h2 h3 h4 h5) w2.heap.size :=
        ⟨(bc.alloc _).setRow_far (by omega) _, (br.alloc _).setRow_far (by omega) _, (Blk.new w2 _ _).setRow _, below_setRow (bel.alloc bel.size _) bel.size _, hg0⟩
       clear bc br bel hg0
       go_upto_region 4 with (refine wpList_stRow rfl rfl rfl rfl rfl (Blk.new w2 _ _) rhd_size rfl (by simp [Value.oneCell']) ?_; generalize (w2.alloc (.cells Z1 52)).setRow w2.heap.size (A4 h0 h1 h2 h3 h4 h5) = W4 at *; generalize w2.heap.size = gh at *)
       have bh := rw0.bh
       go_wp2_with (refine wpList_ldRow rfl rfl rfl bh Tryz.underlying52 rhd_size ?_)
       refine (k2.out _ rw0.bel).mono ?_
       rintro e w3 ⟨rfl, hb⟩
       replace rw0 := rw0.bel_ hb
       clear hb k2 bh
       have hgp : gh < w3.heap.size := rw0.bh.lt
       have bp := (Blk.new w3 54 Z0).setRow (A0 pr sr ds fl ki co true isz i1 i2 i3 i4 i5 pat ba)
       replace rw0 := (rw0.bel_ (bel_alloc w3 (.cells Z0 54))).row hgp (A0 pr sr ds fl ki co true isz i1 i2 i3 i4 i5 pat ba)
       go_upto_region 7 with (refine wpList_stRow rfl rfl rfl rfl rfl (Blk.new w3 _ _) rpt_size rfl (by simp [Value.oneCell']) ?_; generalize (w3.alloc (.cells Z0 54)).setRow w3.heap.size (A0 pr sr ds fl ki co true isz i1 i2 i3 i4 i5 pat ba) = W5 at *; generalize w3.heap.size = gp at *)
       have bh := rw0.bh
       have hW5 := bp.lt
       have q3 := bh.cell 3
       have q4 := bh.cell 4
       have p1 := bp.cell 1
       have bf := (Blk.new W5 43 Z2).setRow (A6 h3 h4 sr)
       replace rw0 := (rw0.bel_ (bel_alloc W5 (.cells Z2 43))).row (g := W5.heap.size) (by omega) (A6 h3 h4 sr)
       replace bp := (bp.alloc (.cells Z2 43)).setRow_far (g' := W5.heap.size) (by omega) (A6 h3 h4 sr)
       go_upto_region 8 with (refine wpList_stRow rfl rfl rfl rfl rfl (Blk.new W5 _ _) rfl_size rfl (by simp [Value.oneCell']) ?_; generalize (W5.alloc (.cells Z2 43)).setRow W5.heap.size (A6 h3 h4 sr) = W6 at *; generalize W5.heap.size = gf at *)
       clear q3 q4 p1 bh
       go_upto_region 9 with fail
       have z5 : ∀ t : Tw (fun w' => Blk w' gh 52 (A4 h0 h1 h2 h3 h4 h5) ∧ Blk w' gp 54 (A0 pr sr ds fl ki co true isz i1 i2 i3 i4 i5 pat ba)), t.w.cell? ⟨gh, 5, none⟩ = some (.int .u32 h5) := fun t => t.h.1.cell 5
       have y1 : ∀ t : Tw (fun w' => Blk w' gh 52 (A4 h0 h1 h2 h3 h4 h5) ∧ Blk w' gp 54 (A0 pr sr ds fl ki co true isz i1 i2 i3 i4 i5 pat ba)), t.w.cell? ⟨gp, 1, none⟩ = some (.int .u16 sr) := fun t => t.h.2.cell 1
       have y2 : ∀ t : Tw (fun w' => Blk w' gh 52 (A4 h0 h1 h2 h3 h4 h5) ∧ Blk w' gp 54 (A0 pr sr ds fl ki co true isz i1 i2 i3 i4 i5 pat ba)), t.w.cell? ⟨gp, 2, none⟩ = some (.int .u16 ds) := fun t => t.h.2.cell 2
       have y11 : ∀ t : Tw (fun w' => Blk w' gh 52 (A4 h0 h1 h2 h3 h4 h5) ∧ Blk w' gp 54 (A0 pr sr ds fl ki co true isz i1 i2 i3 i4 i5 pat ba)), t.w.cell? ⟨gp, 11, none⟩ = some (.int .u32 i4) := fun t => t.h.2.cell 11
       have zz : Nonempty (Tw (fun w' => Blk w' gh 52 (A4 h0 h1 h2 h3 h4 h5) ∧ Blk w' gp 54 (A0 pr sr ds fl ki co true isz i1 i2 i3 i4 i5 pat ba))) := ⟨⟨_, rw0.bh, bp⟩⟩
       refine wp_region_plan (fun w' => Blk w' gh 52 (A4 h0 h1 h2 h3 h4 h5) ∧ Blk w' gp 54 (A0 pr sr ds fl ki co true isz i1 i2 i3 i4 i5 pat ba)) [(0, true), (1, true), (2, true), (3, true), (4, true), (5, false), (6, true), (7, false)] (by kernel_rfl) (by kernel_rfl) (by kernel_rfl) (by kernel_rfl) ⟨rw0.bh.drew, bp.drew⟩ ?_
       replace rw0 := rw0.bel_ (Below.refl _ _).drew
       replace bp := bp.drew
       replace bf := bf.drew
       generalize W6.drew = W7 at *
       refine wpPl_qs 5 _ _ _ (by kernel_rfl) (by kernel_rfl) (by simp) ?_
       unfold clsS
       simp only [qq1, qq2, qq3, qq4, List.filterMap_cons, qq6, qq7, qq8, qq9]
       repeat (first | go_big_quiet_skip | (go_big_quiet_want; go_big_quiet_op; go_big_quiet_on) | refine id (?_ : wpQuiet _ _ _ _ (_ :: _) _))
       refine wpQuiet_nil ?_
       have f1 := bf.cell 1
       have g1 := bf.frozen 1
       refine wpPl_e _ (by rfl) (by kernel_rfl) (fun K hK => ?_)
       go_simp
       replace rw0 := rw0.cell (g := gf) (by omega) 1 (.int .u32 h5)
       replace bp := bp.far (p := ⟨gf, 1, none⟩) (by show gp ≠ gf; omega) (.int .u32 h5)
       replace bf := bf.set_ 1 (.int .u32 h5)
       refine hK _ _ ⟨rw0.bh, bp⟩ ?_
       clear hK K f1 g1
       generalize W7.setCell ⟨gf, 1, none⟩ (.int .u32 h5) = W8 at *
       refine wpPl_qs 1 _ _ _ (by kernel_rfl) (by kernel_rfl) (by simp) ?_
       unfold clsS
       simp only [qq1, qq2, qq3, qq4, List.filterMap_cons, qq6, qq7, qq8, qq9]
       repeat (first | go_big_quiet_skip | (go_big_quiet_want; go_big_quiet_op; go_big_quiet_on) | refine id (?_ : wpQuiet _ _ _ _ (_ :: _) _))
       refine wpQuiet_nil ?_
       have f1 := bf.cell 2
       have g1 := bf.frozen 2
       refine wpPl_e _ (by rfl) (by kernel_rfl) (fun K hK => ?_)
       go_simp
       replace rw0 := rw0.cell (g := gf) (by omega) 2 (.int .u16 ds)
       replace bp := bp.far (p := ⟨gf, 2, none⟩) (by show gp ≠ gf; omega) (.int .u16 ds)
       replace bf := bf.set_ 2 (.int .u16 ds)
       refine hK _ _ ⟨rw0.bh, bp⟩ ?_
       clear hK K f1 g1 z5 y1 y2 y11 zz
       generalize W8.setCell ⟨gf, 2, none⟩ (.int .u16 ds) = W9 at *
       replace bf : Blk W9 gf 43 (A6 h3 h5 ds) := bf
       unfold wpPl
       refine NoPanic.normal ?_
       have p6 := bp.cell 6
       go_upto_region 11 with fail
       clear p6
       have p2 := bp.cell 2
       have p6 := bp.cell 6
       have p10 := bp.cell 10
       have p12 := bp.cell 12
       go_upto_region 12 with (refine wpList_stRow rfl rfl rfl rfl rfl bf rfl_size rfl (by simp [Value.oneCell']) ?_)
       clear p2 p6 p10 p12
       replace bf := bf.setRow (A6 i3 i5 ds)
       replace rw0 := rw0.row (g := gf) (by omega) (A6 i3 i5 ds)
       replace bp := bp.setRow_far (g' := gf) (by omega) (A6 i3 i5 ds)
       generalize W9.setRow gf (A6 i3 i5 ds) = Wa at *
       go_upto_region 13 with fail
       have z5 : ∀ t : Tw (fun w' => Blk w' gh 52 (A4 h0 h1 h2 h3 h4 h5) ∧ Blk w' gp 54 (A0 pr sr ds fl ki co true isz i1 i2 i3 i4 i5 pat ba)), t.w.cell? ⟨gh, 5, none⟩ = some (.int .u32 h5) := fun t => t.h.1.cell 5
       have y1 : ∀ t : Tw (fun w' => Blk w' gh 52 (A4 h0 h1 h2 h3 h4 h5) ∧ Blk w' gp 54 (A0 pr sr ds fl ki co true isz i1 i2 i3 i4 i5 pat ba)), t.w.cell? ⟨gp, 1, none⟩ = some (.int .u16 sr) := fun t => t.h.2.cell 1
       have y2 : ∀ t : Tw (fun w' => Blk w' gh 52 (A4 h0 h1 h2 h3 h4 h5) ∧ Blk w' gp 54 (A0 pr sr ds fl ki co true isz i1 i2 i3 i4 i5 pat ba)), t.w.cell? ⟨gp, 2, none⟩ = some (.int .u16 ds) := fun t => t.h.2.cell 2
       have y11 : ∀ t : Tw (fun w' => Blk w' gh 52 (A4 h0 h1 h2 h3 h4 h5) ∧ Blk w' gp 54 (A0 pr sr ds fl ki co true isz i1 i2 i3 i4 i5 pat ba)), t.w.cell? ⟨gp, 11, none⟩ = some (.int .u32 i4) := fun t => t.h.2.cell 11
       have zz : Nonempty (Tw (fun w' => Blk w' gh 52 (A4 h0 h1 h2 h3 h4 h5) ∧ Blk w' gp 54 (A0 pr sr ds fl ki co true isz i1 i2 i3 i4 i5 pat ba))) := ⟨⟨_, rw0.bh, bp⟩⟩
       refine wp_region_plan (fun w' => Blk w' gh 52 (A4 h0 h1 h2 h3 h4 h5) ∧ Blk w' gp 54 (A0 pr sr ds fl ki co true isz i1 i2 i3 i4 i5 pat ba)) [(0, true), (1, true), (2, true), (3, true), (4, true), (5, true), (6, false), (7, true), (8, false)] (by kernel_rfl) (by kernel_rfl) (by kernel_rfl) (by kernel_rfl) ⟨rw0.bh.drew, bp.drew⟩ ?_
       replace rw0 := rw0.bel_ (Below.refl _ _).drew
       replace bp := bp.drew
       replace bf := bf.drew
       generalize Wa.drew = W7 at *
       refine wpPl_qs 6 _ _ _ (by kernel_rfl) (by kernel_rfl) (by simp) ?_
       unfold clsS
       simp only [qq1, qq2, qq3, qq4, List.filterMap_cons, qq6, qq7, qq8, qq9]
       repeat (first | go_big_quiet_skip | (go_big_quiet_want; go_big_quiet_op; go_big_quiet_on) | refine id (?_ : wpQuiet _ _ _ _ (_ :: _) _))
       refine wpQuiet_nil ?_
       have f1 := bf.cell 1
       have g1 := bf.frozen 1
       refine wpPl_e _ (by rfl) (by kernel_rfl) (fun K hK => ?_)
       go_simp
       replace rw0 := rw0.cell (g := gf) (by omega) 1 (.int .u32 i4)
       replace bp := bp.far (p := ⟨gf, 1, none⟩) (by show gp ≠ gf; omega) (.int .u32 i4)
       replace bf := bf.set_ 1 (.int .u32 i4)
       refine hK _ _ ⟨rw0.bh, bp⟩ ?_
       clear hK K f1 g1
       generalize W7.setCell ⟨gf, 1, none⟩ (.int .u32 i4) = W8 at *
       refine wpPl_qs 1 _ _ _ (by kernel_rfl) (by kernel_rfl) (by simp) ?_
       unfold clsS
       simp only [qq1, qq2, qq3, qq4, List.filterMap_cons, qq6, qq7, qq8, qq9]
       repeat (first | go_big_quiet_skip | (go_big_quiet_want; go_big_quiet_op; go_big_quiet_on) | refine id (?_ : wpQuiet _ _ _ _ (_ :: _) _))
       refine wpQuiet_nil ?_
       have f1 := bf.cell 2
       have g1 := bf.frozen 2
       refine wpPl_e _ (by rfl) (by kernel_rfl) (fun K hK => ?_)
       go_simp
       replace rw0 := rw0.cell (g := gf) (by omega) 2 (.int .u16 sr)
       replace bp := bp.far (p := ⟨gf, 2, none⟩) (by show gp ≠ gf; omega) (.int .u16 sr)
       replace bf := bf.set_ 2 (.int .u16 sr)
       refine hK _ _ ⟨rw0.bh, bp⟩ ?_
       clear hK K f1 g1 z5 y1 y2 y11 zz
       generalize W8.setCell ⟨gf, 2, none⟩ (.int .u16 sr) = Wb at *
       replace bf : Blk Wb gf 43 (A6 i3 i4 sr) := bf
       unfold wpPl
       refine NoPanic.normal ?_
       have bh := rw0.bh
       have bc := rw0.bc
       have p6 := bp.cell 6
       have t5 := bh.cell 5
       have t1 := bc.cell 1
       have tf := bf.cell 1
       have br := rw0.br
       go_upto_region 15 with fail
       go_wp2_with (first
        | (refine wpList_ldRow rfl rfl rfl bf Tryz.underlying43 rfl_size ?_)
        | (refine wpList_stRow rfl rfl rfl rfl rfl br rfl_size rfl (by simp [Value.oneCell']) ?_))
       exact bodyPost_ret (results_row2 rfl _ rfl (br.setRow _) Tryz.underlying43 rfl_size) rfl ⟨rfl, below_setRow rw0.bel (by omega) _⟩
     ·have d1 : (h5 != ou) = true := by simpa using h1
      rw [if_pos (.inl h1)]
      clear h1
      simp only [WhoR, Fl.cs, Fl.z]
      go_enter Tryz.func9, Tryz.ntmps9
      go_upto_region 1 with fail
      have bc := (Blk.new w 25 (A8 wk ou lo hi bk rg)).alloc (.cells Z2 43)
      have br := Blk.new (w.alloc (.cells (A8 wk ou lo hi bk rg) 25)) 43 Z2
      rw [show (w.alloc (.cells (A8 wk ou lo hi bk rg) 25)).heap.size = w.heap.size + 1 by simp] at br
      have bel : Below w.heap.size w ((w.alloc (.cells (A8 wk ou lo hi bk rg) 25)).alloc (.cells Z2 43)) := (bel_alloc _ _).alloc (by simp) _
      generalize (w.alloc (.cells (A8 wk ou lo hi bk rg) 25)).alloc (.cells Z2 43) = W at *
      go_wp2_with fail
      refine (k1.out _ bel).mono ?_
      rintro e w2 ⟨rfl, hb⟩
      replace bc := bc.bel hb
      replace br := br.bel hb
      replace bel := bel_after bel hb
      clear hb k1
      have hg0 : w.heap.size + 1 < w2.heap.size := br.lt
      have rw0 : RW0 w ((w2.alloc (.cells Z1 52)).setRow w2.heap.size (A4 h0 h1 h2 h3 h4 h5)) (A8 wk ou lo hi bk rg) (A4 h0 h1 h2 h3 h4 h5) w2.heap.size :=
       ⟨(bc.alloc _).setRow_far (by omega) _, (br.alloc _).setRow_far (by omega) _, (Blk.new w2 _ _).setRow _, below_setRow (bel.alloc bel.size _) bel.size _, hg0⟩
      clear bc br bel hg0
      go_upto_region 4 with (refine wpList_stRow rfl rfl rfl rfl rfl (Blk.new w2 _ _) rhd_size rfl (by simp [Value.oneCell']) ?_; generalize (w2.alloc (.cells Z1 52)).setRow w2.heap.size (A4 h0 h1 h2 h3 h4 h5) = W4 at *; generalize w2.heap.size = gh at *)
      have bh := rw0.bh
      go_wp2_with (refine wpList_ldRow rfl rfl rfl bh Tryz.underlying52 rhd_size ?_)
      refine (k2.out _ rw0.bel).mono ?_
      rintro e w3 ⟨rfl, hb⟩
      replace rw0 := rw0.bel_ hb
      clear hb k2 bh
      have hgp : gh < w3.heap.size := rw0.bh.lt
      have bp := (Blk.new w3 54 Z0).setRow (A0 pr sr ds fl ki co true isz i1 i2 i3 i4 i5 pat ba)
      replace rw0 := (rw0.bel_ (bel_alloc w3 (.cells Z0 54))).row hgp (A0 pr sr ds fl ki co true isz i1 i2 i3 i4 i5 pat ba)
      go_upto_region 7 with (refine wpList_stRow rfl rfl rfl rfl rfl (Blk.new w3 _ _) rpt_size rfl (by simp [Value.oneCell']) ?_; generalize (w3.alloc (.cells Z0 54)).setRow w3.heap.size (A0 pr sr ds fl ki co true isz i1 i2 i3 i4 i5 pat ba) = W5 at *; generalize w3.heap.size = gp at *)
      have bh := rw0.bh
      have hW5 := bp.lt
      have q3 := bh.cell 3
      have q4 := bh.cell 4
      have p1 := bp.cell 1
      have bf := (Blk.new W5 43 Z2).setRow (A6 h3 h4 sr)
      replace rw0 := (rw0.bel_ (bel_alloc W5 (.cells Z2 43))).row (g := W5.heap.size) (by omega) (A6 h3 h4 sr)
      replace bp := (bp.alloc (.cells Z2 43)).setRow_far (g' := W5.heap.size) (by omega) (A6 h3 h4 sr)
      go_upto_region 8 with (refine wpList_stRow rfl rfl rfl rfl rfl (Blk.new W5 _ _) rfl_size rfl (by simp [Value.oneCell']) ?_; generalize (W5.alloc (.cells Z2 43)).setRow W5.heap.size (A6 h3 h4 sr) = W6 at *; generalize W5.heap.size = gf at *)
      clear q3 q4 p1 bh
      go_upto_region 9 with fail
      have z5 : ∀ t : Tw (fun w' => Blk w' gh 52 (A4 h0 h1 h2 h3 h4 h5) ∧ Blk w' gp 54 (A0 pr sr ds fl ki co true isz i1 i2 i3 i4 i5 pat ba)), t.w.cell? ⟨gh, 5, none⟩ = some (.int .u32 h5) := fun t => t.h.1.cell 5
      have y1 : ∀ t : Tw (fun w' => Blk w' gh 52 (A4 h0 h1 h2 h3 h4 h5) ∧ Blk w' gp 54 (A0 pr sr ds fl ki co true isz i1 i2 i3 i4 i5 pat ba)), t.w.cell? ⟨gp, 1, none⟩ = some (.int .u16 sr) := fun t => t.h.2.cell 1
      have y2 : ∀ t : Tw (fun w' => Blk w' gh 52 (A4 h0 h1 h2 h3 h4 h5) ∧ Blk w' gp 54 (A0 pr sr ds fl ki co true isz i1 i2 i3 i4 i5 pat ba)), t.w.cell? ⟨gp, 2, none⟩ = some (.int .u16 ds) := fun t => t.h.2.cell 2
      have y11 : ∀ t : Tw (fun w' => Blk w' gh 52 (A4 h0 h1 h2 h3 h4 h5) ∧ Blk w' gp 54 (A0 pr sr ds fl ki co true isz i1 i2 i3 i4 i5 pat ba)), t.w.cell? ⟨gp, 11, none⟩ = some (.int .u32 i4) := fun t => t.h.2.cell 11
      have zz : Nonempty (Tw (fun w' => Blk w' gh 52 (A4 h0 h1 h2 h3 h4 h5) ∧ Blk w' gp 54 (A0 pr sr ds fl ki co true isz i1 i2 i3 i4 i5 pat ba))) := ⟨⟨_, rw0.bh, bp⟩⟩
      refine wp_region_plan (fun w' => Blk w' gh 52 (A4 h0 h1 h2 h3 h4 h5) ∧ Blk w' gp 54 (A0 pr sr ds fl ki co true isz i1 i2 i3 i4 i5 pat ba)) [(0, true), (1, true), (2, true), (3, true), (4, true), (5, false), (6, true), (7, false)] (by kernel_rfl) (by kernel_rfl) (by kernel_rfl) (by kernel_rfl) ⟨rw0.bh.drew, bp.drew⟩ ?_
      replace rw0 := rw0.bel_ (Below.refl _ _).drew
      replace bp := bp.drew
      replace bf := bf.drew
      generalize W6.drew = W7 at *
      refine wpPl_qs 5 _ _ _ (by kernel_rfl) (by kernel_rfl) (by simp) ?_
      unfold clsS
      simp only [qq1, qq2, qq3, qq4, List.filterMap_cons, qq6, qq7, qq8, qq9]
      repeat (first | go_big_quiet_skip | (go_big_quiet_want; go_big_quiet_op; go_big_quiet_on) | refine id (?_ : wpQuiet _ _ _ _ (_ :: _) _))
      refine wpQuiet_nil ?_
      have f1 := bf.cell 1
      have g1 := bf.frozen 1
      refine wpPl_e _ (by rfl) (by kernel_rfl) (fun K hK => ?_)
      go_simp
      replace rw0 := rw0.cell (g := gf) (by omega) 1 (.int .u32 h5)
      replace bp := bp.far (p := ⟨gf, 1, none⟩) (by show gp ≠ gf; omega) (.int .u32 h5)
      replace bf := bf.set_ 1 (.int .u32 h5)
      refine hK _ _ ⟨rw0.bh, bp⟩ ?_
      clear hK K f1 g1
      generalize W7.setCell ⟨gf, 1, none⟩ (.int .u32 h5) = W8 at *
      refine wpPl_qs 1 _ _ _ (by kernel_rfl) (by kernel_rfl) (by simp) ?_
      unfold clsS
      simp only [qq1, qq2, qq3, qq4, List.filterMap_cons, qq6, qq7, qq8, qq9]
      repeat (first | go_big_quiet_skip | (go_big_quiet_want; go_big_quiet_op; go_big_quiet_on) | refine id (?_ : wpQuiet _ _ _ _ (_ :: _) _))
      refine wpQuiet_nil ?_
      have f1 := bf.cell 2
      have g1 := bf.frozen 2
      refine wpPl_e _ (by rfl) (by kernel_rfl) (fun K hK => ?_)
      go_simp
      replace rw0 := rw0.cell (g := gf) (by omega) 2 (.int .u16 ds)
      replace bp := bp.far (p := ⟨gf, 2, none⟩) (by show gp ≠ gf; omega) (.int .u16 ds)
      replace bf := bf.set_ 2 (.int .u16 ds)
      refine hK _ _ ⟨rw0.bh, bp⟩ ?_
      clear hK K f1 g1 z5 y1 y2 y11 zz
      generalize W8.setCell ⟨gf, 2, none⟩ (.int .u16 ds) = W9 at *
      replace bf : Blk W9 gf 43 (A6 h3 h5 ds) := bf
      unfold wpPl
      refine NoPanic.normal ?_
      have p6 := bp.cell 6
      go_upto_region 11 with fail
      clear p6
      have p2 := bp.cell 2
      have p6 := bp.cell 6
      have p10 := bp.cell 10
      have p12 := bp.cell 12
      go_upto_region 12 with (refine wpList_stRow rfl rfl rfl rfl rfl bf rfl_size rfl (by simp [Value.oneCell']) ?_)
      clear p2 p6 p10 p12
      replace bf := bf.setRow (A6 i3 i5 ds)
      replace rw0 := rw0.row (g := gf) (by omega) (A6 i3 i5 ds)
      replace bp := bp.setRow_far (g' := gf) (by omega) (A6 i3 i5 ds)
      generalize W9.setRow gf (A6 i3 i5 ds) = Wa at *
      go_upto_region 13 with fail
      have z5 : ∀ t : Tw (fun w' => Blk w' gh 52 (A4 h0 h1 h2 h3 h4 h5) ∧ Blk w' gp 54 (A0 pr sr ds fl ki co true isz i1 i2 i3 i4 i5 pat ba)), t.w.cell? ⟨gh, 5, none⟩ = some (.int .u32 h5) := fun t => t.h.1.cell 5
      have y1 : ∀ t : Tw (fun w' => Blk w' gh 52 (A4 h0 h1 h2 h3 h4 h5) ∧ Blk w' gp 54 (A0 pr sr ds fl ki co true isz i1 i2 i3 i4 i5 pat ba)), t.w.cell? ⟨gp, 1, none⟩ = some (.int .u16 sr) := fun t => t.h.2.cell 1
      have y2 : ∀ t : Tw (fun w' => Blk w' gh 52 (A4 h0 h1 h2 h3 h4 h5) ∧ Blk w' gp 54 (A0 pr sr ds fl ki co true isz i1 i2 i3 i4 i5 pat ba)), t.w.cell? ⟨gp, 2, none⟩ = some (.int .u16 ds) := fun t => t.h.2.cell 2
      have y11 : ∀ t : Tw (fun w' => Blk w' gh 52 (A4 h0 h1 h2 h3 h4 h5) ∧ Blk w' gp 54 (A0 pr sr ds fl ki co true isz i1 i2 i3 i4 i5 pat ba)), t.w.cell? ⟨gp, 11, none⟩ = some (.int .u32 i4) := fun t => t.h.2.cell 11
      have zz : Nonempty (Tw (fun w' => Blk w' gh 52 (A4 h0 h1 h2 h3 h4 h5) ∧ Blk w' gp 54 (A0 pr sr ds fl ki co true isz i1 i2 i3 i4 i5 pat ba))) := ⟨⟨_, rw0.bh, bp⟩⟩
      refine wp_region_plan (fun w' => Blk w' gh 52 (A4 h0 h1 h2 h3 h4 h5) ∧ Blk w' gp 54 (A0 pr sr ds fl ki co true isz i1 i2 i3 i4 i5 pat ba)) [(0, true), (1, true), (2, true), (3, true), (4, true), (5, true), (6, false), (7, true), (8, false)] (by kernel_rfl) (by kernel_rfl) (by kernel_rfl) (by kernel_rfl) ⟨rw0.bh.drew, bp.drew⟩ ?_
      replace rw0 := rw0.bel_ (Below.refl _ _).drew
      replace bp := bp.drew
      replace bf := bf.drew
      generalize Wa.drew = W7 at *
      refine wpPl_qs 6 _ _ _ (by kernel_rfl) (by kernel_rfl) (by simp) ?_
      unfold clsS
      simp only [qq1, qq2, qq3, qq4, List.filterMap_cons, qq6, qq7, qq8, qq9]
      repeat (first | go_big_quiet_skip | (go_big_quiet_want; go_big_quiet_op; go_big_quiet_on) | refine id (?_ : wpQuiet _ _ _ _ (_ :: _) _))
      refine wpQuiet_nil ?_
      have f1 := bf.cell 1
      have g1 := bf.frozen 1
      refine wpPl_e _ (by rfl) (by kernel_rfl) (fun K hK => ?_)
      go_simp
      replace rw0 := rw0.cell (g := gf) (by omega) 1 (.int .u32 i4)
      replace bp := bp.far (p := ⟨gf, 1, none⟩) (by show gp ≠ gf; omega) (.int .u32 i4)
      replace bf := bf.set_ 1 (.int .u32 i4)
      refine hK _ _ ⟨rw0.bh, bp⟩ ?_
      clear hK K f1 g1
      generalize W7.setCell ⟨gf, 1, none⟩ (.int .u32 i4) = W8 at *
      refine wpPl_qs 1 _ _ _ (by kernel_rfl) (by kernel_rfl) (by simp) ?_
      unfold clsS
      simp only [qq1, qq2, qq3, qq4, List.filterMap_cons, qq6, qq7, qq8, qq9]
      repeat (first | go_big_quiet_skip | (go_big_quiet_want; go_big_quiet_op; go_big_quiet_on) | refine id (?_ : wpQuiet _ _ _ _ (_ :: _) _))
      refine wpQuiet_nil ?_
      have f1 := bf.cell 2
      have g1 := bf.frozen 2
      refine wpPl_e _ (by rfl) (by kernel_rfl) (fun K hK => ?_)
      go_simp
      replace rw0 := rw0.cell (g := gf) (by omega) 2 (.int .u16 sr)
      replace bp := bp.far (p := ⟨gf, 2, none⟩) (by show gp ≠ gf; omega) (.int .u16 sr)
      replace bf := bf.set_ 2 (.int .u16 sr)
      refine hK _ _ ⟨rw0.bh, bp⟩ ?_
      clear hK K f1 g1 z5 y1 y2 y11 zz
      generalize W8.setCell ⟨gf, 2, none⟩ (.int .u16 sr) = Wb at *
      replace bf : Blk Wb gf 43 (A6 i3 i4 sr) := bf
      unfold wpPl
      refine NoPanic.normal ?_
      have bh := rw0.bh
      have bc := rw0.bc
      have p6 := bp.cell 6
      have t5 := bh.cell 5
      have t1 := bc.cell 1
      have tf := bf.cell 1
      have br := rw0.br
      go_upto_region 15 with fail
      go_wp2_with (first
       | (refine wpList_ldRow rfl rfl rfl bf Tryz.underlying43 rfl_size ?_)
       | (refine wpList_stRow rfl rfl rfl rfl rfl br rfl_size rfl (by simp [Value.oneCell']) ?_))
      exact bodyPost_ret (results_row2 rfl _ rfl (br.setRow _) Tryz.underlying43 rfl_size) rfl ⟨rfl, below_setRow rw0.bel (by omega) _⟩
  ·have hwho : whoP ou out l = (Fl.z, (getR (hdOf l) l).1) := by unfold whoP; rw [he, if_pos hE2]
   rw [hwho]
   clear hwho he hbb hE hr
   generalize hdOf l = H at *
   generalize getR H l = R at *
   obtain ⟨h0, h1, h2, h3, h4, h5⟩ := H
   obtain ⟨E, pr, sr, ds, fl, ki, co, er, ⟨isz, i1, i2, i3, i4, i5⟩, pat, ba⟩ := R
   simp only [Hd.val, Pt.val, Tells] at k1 k2 hE2
   have d1 : (E != 0) = true := by simpa using hE2
   have d2 : (E == 0) = false := by simpa using hE2
   simp only [WhoR, Fl.cs, Fl.z]
   clear hE2
   replace k1 := Lib.hid k1
   replace k2 := Lib.hid k2
   go_enter Tryz.func9, Tryz.ntmps9
   go_upto_region 1 with fail
   have bc := (Blk.new w 25 (A8 wk ou lo hi bk rg)).alloc (.cells Z2 43)
   have br := Blk.new (w.alloc (.cells (A8 wk ou lo hi bk rg) 25)) 43 Z2
   rw [show (w.alloc (.cells (A8 wk ou lo hi bk rg) 25)).heap.size = w.heap.size + 1 by simp] at br
   have bel : Below w.heap.size w ((w.alloc (.cells (A8 wk ou lo hi bk rg) 25)).alloc (.cells Z2 43)) := (bel_alloc _ _).alloc (by simp) _
   generalize (w.alloc (.cells (A8 wk ou lo hi bk rg) 25)).alloc (.cells Z2 43) = W at *
   go_wp2_with fail
   refine (k1.out _ bel).mono ?_
   rintro e w2 ⟨rfl, hb⟩
   replace bc := bc.bel hb
   replace br := br.bel hb
   replace bel := bel_after bel hb
   clear hb k1
   have hg0 : w.heap.size + 1 < w2.heap.size := br.lt
   have rw0 : RW0 w ((w2.alloc (.cells Z1 52)).setRow w2.heap.size (A4 h0 h1 h2 h3 h4 h5)) (A8 wk ou lo hi bk rg) (A4 h0 h1 h2 h3 h4 h5) w2.heap.size :=
    ⟨(bc.alloc _).setRow_far (by omega) _, (br.alloc _).setRow_far (by omega) _, (Blk.new w2 _ _).setRow _, below_setRow (bel.alloc bel.size _) bel.size _, hg0⟩
   clear bc br bel hg0
   go_upto_region 4 with (refine wpList_stRow rfl rfl rfl rfl rfl (Blk.new w2 _ _) rhd_size rfl (by simp [Value.oneCell']) ?_; generalize (w2.alloc (.cells Z1 52)).setRow w2.heap.size (A4 h0 h1 h2 h3 h4 h5) = W4 at *; generalize w2.heap.size = gh at *)
   have bh := rw0.bh
   go_wp2_with (refine wpList_ldRow rfl rfl rfl bh Tryz.underlying52 rhd_size ?_)
   refine (k2.out _ rw0.bel).mono ?_
   rintro e w3 ⟨rfl, hb⟩
   replace rw0 := rw0.bel_ hb
   clear hb k2 bh
   have hgp : gh < w3.heap.size := rw0.bh.lt
   have bp := (Blk.new w3 54 Z0).setRow (A0 pr sr ds fl ki co er isz i1 i2 i3 i4 i5 pat ba)
   replace rw0 := (rw0.bel_ (bel_alloc w3 (.cells Z0 54))).row hgp (A0 pr sr ds fl ki co er isz i1 i2 i3 i4 i5 pat ba)
   go_upto_region 6 with (refine wpList_stRow rfl rfl rfl rfl rfl (Blk.new w3 _ _) rpt_size rfl (by simp [Value.oneCell']) ?_; generalize (w3.alloc (.cells Z0 54)).setRow w3.heap.size (A0 pr sr ds fl ki co er isz i1 i2 i3 i4 i5 pat ba) = W5 at *; generalize w3.heap.size = gp at *)
   have br := rw0.br
   go_wp2_with (refine wpList_stRow rfl rfl rfl rfl rfl br rfl_size rfl (by simp [Value.oneCell']) ?_)
   exact bodyPost_ret (results_row2 rfl _ rfl (br.setRow _) Tryz.underlying43 rfl_size) rfl ⟨rfl, below_setRow rw0.bel (by omega) _⟩
 ·have he : rdE l = getE l := by unfold rdE; rw [if_neg hE]
  have hz : hdIf l (getE l) = Hd.z := by unfold hdIf; rw [if_neg hE]
  have hwho : whoP ou out l = (Fl.z, getE l) := by unfold whoP; rw [he, if_pos hE]
  rw [hwho]
  rw [hz] at k1
  clear he hz hwho
  generalize getE l = E at *
  have d1 : (E != 0) = true := by simpa using hE
  have d2 : (E == 0) = false := by simpa using hE
  clear hE hr
  obtain ⟨h0, h1, h2, h3, h4, h5, hh⟩ : ∃ h0 h1 h2 h3 h4 h5 : Int, Hd.z = ⟨h0, h1, h2, h3, h4, h5⟩ := ⟨_, _, _, _, _, _, rfl⟩
  rw [hh] at k1
  clear hh
  simp only [Hd.val, WhoR, Fl.cs, Fl.z] at k1 ⊢
  replace k1 := Lib.hid k1
  go_enter Tryz.func9, Tryz.ntmps9
  go_upto_region 1 with fail
  have bc := (Blk.new w 25 (A8 wk ou lo hi bk rg)).alloc (.cells Z2 43)
  have br := Blk.new (w.alloc (.cells (A8 wk ou lo hi bk rg) 25)) 43 Z2
  rw [show (w.alloc (.cells (A8 wk ou lo hi bk rg) 25)).heap.size = w.heap.size + 1 by simp] at br
  have bel : Below w.heap.size w ((w.alloc (.cells (A8 wk ou lo hi bk rg) 25)).alloc (.cells Z2 43)) := (bel_alloc _ _).alloc (by simp) _
  generalize (w.alloc (.cells (A8 wk ou lo hi bk rg) 25)).alloc (.cells Z2 43) = W at *
  go_wp2_with fail
  refine (k1.out _ bel).mono ?_
  rintro e w2 ⟨rfl, hb⟩
  replace bc := bc.bel hb
  replace br := br.bel hb
  replace bel := bel_after bel hb
  clear hb k1
  have hg0 : w.heap.size + 1 < w2.heap.size := br.lt
  have rw0 : RW0 w ((w2.alloc (.cells Z1 52)).setRow w2.heap.size (A4 h0 h1 h2 h3 h4 h5)) (A8 wk ou lo hi bk rg) (A4 h0 h1 h2 h3 h4 h5) w2.heap.size :=
   ⟨(bc.alloc _).setRow_far (by omega) _, (br.alloc _).setRow_far (by omega) _, (Blk.new w2 _ _).setRow _, below_setRow (bel.alloc bel.size _) bel.size _, hg0⟩
  clear bc br bel hg0
  go_upto_region 3 with (refine wpList_stRow rfl rfl rfl rfl rfl (Blk.new w2 _ _) rhd_size rfl (by simp [Value.oneCell']) ?_; generalize (w2.alloc (.cells Z1 52)).setRow w2.heap.size (A4 h0 h1 h2 h3 h4 h5) = W4 at *; generalize w2.heap.size = gh at *)
  have br := rw0.br
  go_wp2_with (refine wpList_stRow rfl rfl rfl rfl rfl br rfl_size rfl (by simp [Value.oneCell']) ?_)
  exact bodyPost_ret (results_row2 rfl _ rfl (br.setRow _) Tryz.underlying43 rfl_size) rfl ⟨rfl, below_setRow rw0.bel (by omega) _⟩
end Go.Proofs.YtbichbdcibchlaaGreat
