/- Contracts and plain facts. -/
import Derived.Test.YtbichbdcibchlaaGreatPf05
import Derived.Test.YtbichbdcibchlaaGreatPf01
import Derived.Test.YtbichbdcibchlaaGreatPf06
import Derived.Maps.OwnOps
import Derived.Maps.OwnSet
import Derived.Maps.Views
import Derived.DeepKeys5
import Derived.Test.YtbichbdcibchlaaGreatProg
import Derived.RegionTactic
import Derived.Deep.DeepCutAuto
import Derived.Deep.CutBlock
namespace Go.Proofs.YtbichbdcibchlaaGreat
set_option linter.unusedVariables false
set_option linter.unusedSimpArgs false
set_option maxRecDepth 100000
set_option maxHeartbeats 16000000
open Go.RowKit
theorem frm_bdh {l : List Int} (hl : ∀ x, x ∈ l → 0 ≤ x ∧ x ≤ 255) (h : getE l = 0) : (0 ≤ (hdOf l).src ∧ (hdOf l).src ≤ 4294967295) ∧ (0 ≤ (hdOf l).dst ∧ (hdOf l).dst ≤ 4294967295) := by
 have h20 : 20 ≤ l.length := by
  rcases Nat.lt_or_ge l.length 20 with hh | hh
  ·exfalso
   unfold getE shapeE at h
   rw [if_pos hh] at h
   simp at h
  ·exact hh
 exact ⟨n4_bd hl (by omega), n4_bd hl (by omega)⟩
def rdE (l : List Int) : Int := if getE l = 0 then (getR (hdOf l) l).1 else getE l
def rdH (l : List Int) : Hd := if rdE l = 0 then hdOf l else Hd.z
def rdP (l : List Int) : Pt := if rdE l = 0 then (getR (hdOf l) l).2 else Pt.z
structure Fl where
 pr : Int
 ad : Int
 po : Int
deriving instance DecidableEq for Fl
def Fl.z : Fl := ⟨0, 0, 0⟩
def Fl.cs (f : Fl) : Array Value := (A6 f.pr f.ad f.po)
def insF (h : Hd) (p : Pt) : Fl := if p.err = true then ⟨p.inner.proto, p.inner.dst, p.dst⟩ else ⟨h.proto, h.src, p.src⟩
def outF (h : Hd) (p : Pt) : Fl := if p.err = true then ⟨p.inner.proto, p.inner.src, p.src⟩ else ⟨h.proto, h.dst, p.dst⟩
def whoP (ou : Int) (out : Bool) (l : List Int) : Fl × Int :=
 if rdE l ≠ 0 then (Fl.z, rdE l) else if out = true then (insF (rdH l) (rdP l), 0) else if (rdH l).dst ≠ ou ∨ (outF (rdH l) (rdP l)).ad ≠ ou then (Fl.z, 7) else (outF (rdH l) (rdP l), 0)
def begP (out : Bool) (l : List Int) : Bool := out && (rdE l == 0) && !(rdP l).err && beginsS (rdP l).proto (rdP l).kind (rdP l).flags
def ReadR (w : World) (l : List Int) (e : Ending) (w' : World) : Prop := e = .returned (.tuple #[(rdH l).val, (rdP l).val, .int .i64 (rdE l)]) ∧ Below w.heap.size w w'
theorem results_row3 {P : Program} {w : World} {fn : Func} {x y z : Tmp} {ty ty' : TypeId} (h : fn.results = #[.cell x ty, .cell y ty', .tmp z]) (tmps : Array Value) {g g' : Nat} (hp : tmps.getD x undef = .pointer (some ⟨g, 0, none⟩)) {tt : TypeId} {cs : Array Value} (hb : Blk w g tt cs) {fs : Array Field} (hu : P.underlying ty = some (.struct fs))
  (hi : (P.info? ty).map (·.size) = some cs.size) (hp' : tmps.getD y undef = .pointer (some ⟨g', 0, none⟩)) {tt' : TypeId} {cs' : Array Value} (hb' : Blk w g' tt' cs') {fs' : Array Field} (hu' : P.underlying ty' = some (.struct fs'))
  (hi' : (P.info? ty').map (·.size) = some cs'.size) : (results fn tmps).run P w = .ok (.tuple #[.agg cs, .agg cs', tmps.getD z undef]) w := by
 have h2 := run_loadVar_row (P := P) w g tt ty cs (0, 0) (.struct fs) hb hu rfl hi
 have h3 := run_loadVar_row (P := P) w g' tt' ty' cs' (0, 0) (.struct fs') hb' hu' rfl hi'
 rw [Array.getD_eq_getD_getElem?] at hp hp'
 simp [results, h, hp, hp', asAddr, h2, h3]
theorem read_any (l : List Int) (A : Option Addr) (len c : Nat) (w : World) (hr : Rd .u8 w w.heap.size A len l) (hlc : len ≤ c) (hcm : c ≤ 9223372036854775807) (hl : len ≤ 60000) :
  Calls Tryz.prog 25 #[.slice A len c] w (ReadR w l) := by
 have k1 := fun W (h : Below w.heap.size w W) => Get_any l A len c _ W ((hr.below h).more h.size) (Nat.le_refl _) hlc hcm (by omega)
 by_cases hE : getE l = 0
 ·have hbb := frm_bdh (fun x hx => inr_u8 (hr.rng x hx)) hE
  have he : rdE l = (getR (hdOf l) l).1 := by unfold rdE; rw [if_pos hE]
  have hH : rdH l = if (getR (hdOf l) l).1 = 0 then hdOf l else Hd.z := by unfold rdH; rw [he]
  have hP : rdP l = if (getR (hdOf l) l).1 = 0 then (getR (hdOf l) l).2 else Pt.z := by unfold rdP; rw [he]
  unfold ReadR
  rw [he, hH, hP]
  rw [hE] at k1
  rw [show hdIf l 0 = hdOf l from rfl] at k1
  have k2 := fun W (h : Below w.heap.size w W) => PGet_any (hdOf l) l A len c _ W ((hr.below h).more h.size) (Nat.le_refl _) hlc hcm (by omega) hbb.1 hbb.2
  clear he hH hP hbb hE hr
  generalize hdOf l = H at *
  generalize getR H l = R at *
  obtain ⟨h0, h1, h2, h3, h4, h5⟩ := H
  obtain ⟨E, pr, sr, ds, fl, ki, co, er, ⟨isz, i1, i2, i3, i4, i5⟩, pat, ba⟩ := R
  simp only [Hd.val, Pt.val, Tells] at k1 k2
  replace k1 := Lib.hid k1
  by_cases hE2 : E = 0
  ·subst hE2
   simp only [if_true, Hd.val, Pt.val]
   replace k2 := Lib.hid k2
   go_enter Tryz.func25, Tryz.ntmps25
   go_upto_region 1 with fail
   have b2 := (Blk.new w 71 Z1).alloc (.cells Z0 76)
   have b3 := Blk.new (w.alloc (.cells Z1 71)) 76 Z0
   rw [show (w.alloc (.cells Z1 71)).heap.size = w.heap.size + 1 by simp] at b3
   have bel : Below w.heap.size w ((w.alloc (.cells Z1 71)).alloc (.cells Z0 76)) := (bel_alloc _ _).alloc (by simp) _
   generalize (w.alloc (.cells Z1 71)).alloc (.cells Z0 76) = W at *
   go_wp2_with fail
   refine (k1.out _ bel).mono ?_
   rintro e w2 ⟨rfl, hb⟩
   replace b2 := b2.bel hb
   replace b3 := b3.bel hb
   replace bel := bel_after bel hb
   clear hb k1
   have hgh0 : w.heap.size + 1 < w2.heap.size := b3.lt
   have bh := (Blk.new w2 71 Z1).setRow (A4 h0 h1 h2 h3 h4 h5)
   replace b2 := (b2.alloc (.cells Z1 71)).setRow_far (g' := w2.heap.size) (by omega) (A4 h0 h1 h2 h3 h4 h5)
   replace b3 := (b3.alloc (.cells Z1 71)).setRow_far (g' := w2.heap.size) (by omega) (A4 h0 h1 h2 h3 h4 h5)
   replace bel := below_setRow (bel.alloc bel.size (.cells Z1 71)) bel.size (A4 h0 h1 h2 h3 h4 h5)
   go_upto_region 4 with (refine wpList_stRow rfl rfl rfl rfl rfl (Blk.new w2 _ _) hd_size rfl (by simp [Value.oneCell']) ?_; generalize (w2.alloc (.cells Z1 71)).setRow w2.heap.size (A4 h0 h1 h2 h3 h4 h5) = W4 at *; generalize w2.heap.size = gh at *)
   go_wp2_with (refine wpList_ldRow rfl rfl rfl bh Tryz.underlying71 hd_size ?_)
   refine (k2.out _ bel).mono ?_
   rintro e w3 ⟨rfl, hb⟩
   replace b2 := b2.bel hb
   replace b3 := b3.bel hb
   replace bh := bh.bel hb
   replace bel := bel_after bel hb
   clear hb k2
   have hgp0 : w.heap.size + 1 < w3.heap.size := b3.lt
   have hgp1 : gh < w3.heap.size := bh.lt
   have bp := (Blk.new w3 76 Z0).setRow (A0 pr sr ds fl ki co er isz i1 i2 i3 i4 i5 pat ba)
   replace b2 := (b2.alloc (.cells Z0 76)).setRow_far (g' := w3.heap.size) (by omega) (A0 pr sr ds fl ki co er isz i1 i2 i3 i4 i5 pat ba)
   replace b3 := (b3.alloc (.cells Z0 76)).setRow_far (g' := w3.heap.size) (by omega) (A0 pr sr ds fl ki co er isz i1 i2 i3 i4 i5 pat ba)
   replace bh := (bh.alloc (.cells Z0 76)).setRow_far (g' := w3.heap.size) (by omega) (A0 pr sr ds fl ki co er isz i1 i2 i3 i4 i5 pat ba)
   replace bel := below_setRow (bel.alloc bel.size (.cells Z0 76)) bel.size (A0 pr sr ds fl ki co er isz i1 i2 i3 i4 i5 pat ba)
   go_upto_region 7 with (refine wpList_stRow rfl rfl rfl rfl rfl (Blk.new w3 _ _) pt_size rfl (by simp [Value.oneCell']) ?_; generalize (w3.alloc (.cells Z0 76)).setRow w3.heap.size (A0 pr sr ds fl ki co er isz i1 i2 i3 i4 i5 pat ba) = W5 at *; generalize w3.heap.size = gp at *)
   have z1 : ∀ w', (∃ t : Tw (fun w' => Blk w' gh 71 (A4 h0 h1 h2 h3 h4 h5) ∧ Blk w' gp 76 (A0 pr sr ds fl ki co er isz i1 i2 i3 i4 i5 pat ba)), w' = t.w) → Blk w' gh 71 (A4 h0 h1 h2 h3 h4 h5) := fun w' ⟨t, ht⟩ => ht ▸ t.h.1
   have z2 : ∀ w', (∃ t : Tw (fun w' => Blk w' gh 71 (A4 h0 h1 h2 h3 h4 h5) ∧ Blk w' gp 76 (A0 pr sr ds fl ki co er isz i1 i2 i3 i4 i5 pat ba)), w' = t.w) → Blk w' gp 76 (A0 pr sr ds fl ki co er isz i1 i2 i3 i4 i5 pat ba) := fun w' ⟨t, ht⟩ => ht ▸ t.h.2
   have zz : Nonempty (Tw (fun w' => Blk w' gh 71 (A4 h0 h1 h2 h3 h4 h5) ∧ Blk w' gp 76 (A0 pr sr ds fl ki co er isz i1 i2 i3 i4 i5 pat ba))) := ⟨⟨_, bh, bp⟩⟩
   refine wp_region_plan (fun w' => Blk w' gh 71 (A4 h0 h1 h2 h3 h4 h5) ∧ Blk w' gp 76 (A0 pr sr ds fl ki co er isz i1 i2 i3 i4 i5 pat ba)) [(0, true), (1, true), (2, false), (3, false), (4, true)] (by kernel_rfl) (by kernel_rfl) (by kernel_rfl) (by kernel_rfl) ⟨bh.drew, bp.drew⟩ ?_
   replace b2 := b2.drew
   replace b3 := b3.drew
   replace bh := bh.drew
   replace bp := bp.drew
   replace bel := bel.drew
   generalize W5.drew = W6 at *
   refine wpPl_qs 2 _ _ _ (by kernel_rfl) (by kernel_rfl) (by simp) ?_
   unfold clsS
   simp only [qq1, qq2, qq3, qq4, List.filterMap_cons, qq6, qq7, qq8, qq9]
   repeat (first
    | go_big_quiet_skip
    | (go_big_quiet_want; first | (refine quiet_ldRow rfl rfl z1 Tryz.underlying71 hd_size ?_; go_simp; go_big_quiet_on) | (refine quiet_ldRow rfl rfl z2 Tryz.underlying76 pt_size ?_; go_simp; go_big_quiet_on) | (go_big_quiet_op; go_big_quiet_on))
    | (refine id (?_ : wpQuiet _ _ _ _ (_ :: _) _); first | go_big_quiet_skip | (go_big_quiet_want; first | (refine quiet_ldRow rfl rfl z1 Tryz.underlying71 hd_size ?_; go_simp; go_big_quiet_on) | (refine quiet_ldRow rfl rfl z2 Tryz.underlying76 pt_size ?_; go_simp; go_big_quiet_on) | (go_big_quiet_op; go_big_quiet_on))))
   refine wpQuiet_nil ?_
   refine wpPl_e _ (by rfl) (by kernel_rfl) (fun K hK => ?_)
   refine wp_stRow rfl rfl rfl rfl b2 hd_size rfl (by simp [Value.oneCell']) ?_
   replace b3 := b3.setRow_far (g' := w.heap.size) (by omega) (A4 h0 h1 h2 h3 h4 h5)
   replace b2 := b2.setRow (A4 h0 h1 h2 h3 h4 h5)
   replace bh := bh.setRow_far (g' := w.heap.size) (by omega) (A4 h0 h1 h2 h3 h4 h5)
   replace bp := bp.setRow_far (g' := w.heap.size) (by omega) (A4 h0 h1 h2 h3 h4 h5)
   replace bel := below_setRow bel (Nat.le_refl _) (A4 h0 h1 h2 h3 h4 h5)
   refine hK _ _ ⟨bh, bp⟩ ?_
   clear hK K
   generalize W6.setRow w.heap.size (A4 h0 h1 h2 h3 h4 h5) = W7 at *
   refine wpPl_e _ (by rfl) (by kernel_rfl) (fun K hK => ?_)
   refine wp_stRow rfl rfl rfl rfl b3 pt_size rfl (by simp [Value.oneCell']) ?_
   replace b2 := b2.setRow_far (g' := w.heap.size + 1) (by omega) (A0 pr sr ds fl ki co er isz i1 i2 i3 i4 i5 pat ba)
   replace b3 := b3.setRow (A0 pr sr ds fl ki co er isz i1 i2 i3 i4 i5 pat ba)
   replace bh := bh.setRow_far (g' := w.heap.size + 1) (by omega) (A0 pr sr ds fl ki co er isz i1 i2 i3 i4 i5 pat ba)
   replace bp := bp.setRow_far (g' := w.heap.size + 1) (by omega) (A0 pr sr ds fl ki co er isz i1 i2 i3 i4 i5 pat ba)
   replace bel := below_setRow (g := w.heap.size + 1) bel (by omega) (A0 pr sr ds fl ki co er isz i1 i2 i3 i4 i5 pat ba)
   refine hK _ _ ⟨bh, bp⟩ ?_
   clear hK K
   generalize W7.setRow (w.heap.size + 1) (A0 pr sr ds fl ki co er isz i1 i2 i3 i4 i5 pat ba) = W8 at *
   refine wpPl_qs 1 _ _ _ (by kernel_rfl) (by kernel_rfl) (by simp) ?_
   unfold clsS
   simp only [qq1, qq2, qq3, qq4, List.filterMap_cons, qq6, qq7, qq8, qq9]
   repeat (first | go_big_quiet_skip | (go_big_quiet_want; go_big_quiet_op; go_big_quiet_on) | refine id (?_ : wpQuiet _ _ _ _ (_ :: _) _))
   refine wpQuiet_nil ?_
   unfold wpPl
   refine NoPanic.normal ?_
   go_wp2_with fail
   exact bodyPost_ret (results_row3 rfl _ rfl b2 Tryz.underlying71 hd_size rfl b3 Tryz.underlying76 pt_size) rfl ⟨rfl, bel⟩
  ·rw [if_neg hE2, if_neg hE2]
   have d1 : (E != 0) = true := by simpa using hE2
   have d2 : (E == 0) = false := by simpa using hE2
   simp only [Hd.val, Pt.val, Pt.z, Hd.z]
   replace k2 := Lib.hid k2
   clear hE2
   go_enter Tryz.func25, Tryz.ntmps25
   go_upto_region 1 with fail
   have b2 := (Blk.new w 71 Z1).alloc (.cells Z0 76)
   have b3 := Blk.new (w.alloc (.cells Z1 71)) 76 Z0
   rw [show (w.alloc (.cells Z1 71)).heap.size = w.heap.size + 1 by simp] at b3
   have bel : Below w.heap.size w ((w.alloc (.cells Z1 71)).alloc (.cells Z0 76)) := (bel_alloc _ _).alloc (by simp) _
   generalize (w.alloc (.cells Z1 71)).alloc (.cells Z0 76) = W at *
   go_wp2_with fail
   refine (k1.out _ bel).mono ?_
   rintro e w2 ⟨rfl, hb⟩
   replace b2 := b2.bel hb
   replace b3 := b3.bel hb
   replace bel := bel_after bel hb
   clear hb k1
   have hgh0 : w.heap.size + 1 < w2.heap.size := b3.lt
   have bh := (Blk.new w2 71 Z1).setRow (A4 h0 h1 h2 h3 h4 h5)
   replace b2 := (b2.alloc (.cells Z1 71)).setRow_far (g' := w2.heap.size) (by omega) (A4 h0 h1 h2 h3 h4 h5)
   replace b3 := (b3.alloc (.cells Z1 71)).setRow_far (g' := w2.heap.size) (by omega) (A4 h0 h1 h2 h3 h4 h5)
   replace bel := below_setRow (bel.alloc bel.size (.cells Z1 71)) bel.size (A4 h0 h1 h2 h3 h4 h5)
   go_upto_region 4 with (refine wpList_stRow rfl rfl rfl rfl rfl (Blk.new w2 _ _) hd_size rfl (by simp [Value.oneCell']) ?_; generalize (w2.alloc (.cells Z1 71)).setRow w2.heap.size (A4 h0 h1 h2 h3 h4 h5) = W4 at *; generalize w2.heap.size = gh at *)
   go_wp2_with (refine wpList_ldRow rfl rfl rfl bh Tryz.underlying71 hd_size ?_)
   refine (k2.out _ bel).mono ?_
   rintro e w3 ⟨rfl, hb⟩
   replace b2 := b2.bel hb
   replace b3 := b3.bel hb
   replace bh := bh.bel hb
   replace bel := bel_after bel hb
   clear hb k2
   have hgp0 : w.heap.size + 1 < w3.heap.size := b3.lt
   have hgp1 : gh < w3.heap.size := bh.lt
   have bp := (Blk.new w3 76 Z0).setRow (A0 pr sr ds fl ki co er isz i1 i2 i3 i4 i5 pat ba)
   replace b2 := (b2.alloc (.cells Z0 76)).setRow_far (g' := w3.heap.size) (by omega) (A0 pr sr ds fl ki co er isz i1 i2 i3 i4 i5 pat ba)
   replace b3 := (b3.alloc (.cells Z0 76)).setRow_far (g' := w3.heap.size) (by omega) (A0 pr sr ds fl ki co er isz i1 i2 i3 i4 i5 pat ba)
   replace bh := (bh.alloc (.cells Z0 76)).setRow_far (g' := w3.heap.size) (by omega) (A0 pr sr ds fl ki co er isz i1 i2 i3 i4 i5 pat ba)
   replace bel := below_setRow (bel.alloc bel.size (.cells Z0 76)) bel.size (A0 pr sr ds fl ki co er isz i1 i2 i3 i4 i5 pat ba)
   go_upto_region 6 with (refine wpList_stRow rfl rfl rfl rfl rfl (Blk.new w3 _ _) pt_size rfl (by simp [Value.oneCell']) ?_; generalize (w3.alloc (.cells Z0 76)).setRow w3.heap.size (A0 pr sr ds fl ki co er isz i1 i2 i3 i4 i5 pat ba) = W5 at *; generalize w3.heap.size = gp at *)
   have b3' := b3.setRow_far (g' := w.heap.size) (by omega) Z1
   have b2' := b2.setRow Z1
   go_wp2_with (first
    | (refine wpList_stRow rfl rfl rfl rfl rfl b2 hd_size rfl (by simp [Value.oneCell']) ?_)
    | (refine wpList_stRow rfl rfl rfl rfl rfl b3' pt_size rfl (by simp [Value.oneCell']) ?_))
   exact bodyPost_ret (results_row3 rfl _ rfl (b2'.setRow_far (g' := w.heap.size + 1) (by omega) Z0) Tryz.underlying71 hd_size rfl (b3'.setRow Z0) Tryz.underlying76 pt_size) rfl ⟨rfl, below_setRow (below_setRow bel (Nat.le_refl _) _) (by omega) _⟩
 ·have he : rdE l = getE l := by unfold rdE; rw [if_neg hE]
  have hH : rdH l = Hd.z := by unfold rdH; rw [he, if_neg hE]
  have hP : rdP l = Pt.z := by unfold rdP; rw [he, if_neg hE]
  have hz : hdIf l (getE l) = Hd.z := by unfold hdIf; rw [if_neg hE]
  unfold ReadR
  rw [he, hH, hP]
  rw [hz] at k1
  clear he hH hP hz
  generalize getE l = E at *
  have d1 : (E != 0) = true := by simpa using hE
  have d2 : (E == 0) = false := by simpa using hE
  clear hE hr
  obtain ⟨h0, h1, h2, h3, h4, h5, hh⟩ : ∃ h0 h1 h2 h3 h4 h5 : Int, Hd.z = ⟨h0, h1, h2, h3, h4, h5⟩ := ⟨_, _, _, _, _, _, rfl⟩
  rw [hh] at k1
  clear hh
  simp only [Hd.val, Pt.val, Pt.z, Hd.z] at k1 ⊢
  replace k1 := Lib.hid k1
  go_enter Tryz.func25, Tryz.ntmps25
  go_upto_region 1 with fail
  have b2 := (Blk.new w 71 Z1).alloc (.cells Z0 76)
  have b3 := Blk.new (w.alloc (.cells Z1 71)) 76 Z0
  rw [show (w.alloc (.cells Z1 71)).heap.size = w.heap.size + 1 by simp] at b3
  have bel : Below w.heap.size w ((w.alloc (.cells Z1 71)).alloc (.cells Z0 76)) := (bel_alloc _ _).alloc (by simp) _
  generalize (w.alloc (.cells Z1 71)).alloc (.cells Z0 76) = W at *
  go_wp2_with fail
  refine (k1.out _ bel).mono ?_
  rintro e w2 ⟨rfl, hb⟩
  replace b2 := b2.bel hb
  replace b3 := b3.bel hb
  replace bel := bel_after bel hb
  clear hb k1
  have hgh0 : w.heap.size + 1 < w2.heap.size := b3.lt
  have bh := (Blk.new w2 71 Z1).setRow (A4 h0 h1 h2 h3 h4 h5)
  replace b2 := (b2.alloc (.cells Z1 71)).setRow_far (g' := w2.heap.size) (by omega) (A4 h0 h1 h2 h3 h4 h5)
  replace b3 := (b3.alloc (.cells Z1 71)).setRow_far (g' := w2.heap.size) (by omega) (A4 h0 h1 h2 h3 h4 h5)
  replace bel := below_setRow (bel.alloc bel.size (.cells Z1 71)) bel.size (A4 h0 h1 h2 h3 h4 h5)
  go_upto_region 3 with (refine wpList_stRow rfl rfl rfl rfl rfl (Blk.new w2 _ _) hd_size rfl (by simp [Value.oneCell']) ?_; generalize (w2.alloc (.cells Z1 71)).setRow w2.heap.size (A4 h0 h1 h2 h3 h4 h5) = W4 at *; generalize w2.heap.size = gh at *)
  have b3' := b3.setRow_far (g' := w.heap.size) (by omega) Z1
  have b2' := b2.setRow Z1
  go_wp2_with (first
   | (refine wpList_stRow rfl rfl rfl rfl rfl b2 hd_size rfl (by simp [Value.oneCell']) ?_)
   | (refine wpList_stRow rfl rfl rfl rfl rfl b3' pt_size rfl (by simp [Value.oneCell']) ?_))
  exact bodyPost_ret (results_row3 rfl _ rfl (b2'.setRow_far (g' := w.heap.size + 1) (by omega) Z0) Tryz.underlying71 hd_size rfl (b3'.setRow Z0) Tryz.underlying76 pt_size) rfl ⟨rfl, below_setRow (below_setRow bel (Nat.le_refl _) _) (by omega) _⟩
theorem fl_size : (Tryz.prog.info? 87).map (·.size) = some 3 := by kernel_rfl
theorem inside_any (h : Hd) (p : Pt) (w : World) : Calls Tryz.prog 52 #[h.val, p.val] w fun e w' => e = .returned (.agg (insF h p).cs) ∧ Below w.heap.size w w' := by
 obtain ⟨h0, h1, h2, h3, h4, h5⟩ := h
 obtain ⟨pr, sr, ds, fl, ki, co, er, ⟨isz, i1, i2, i3, i4, i5⟩, pat, ba⟩ := p
 cases er with
 | true =>
  simp only [Hd.val, Pt.val, insF, Fl.cs, if_true]
  go_enter Tryz.func52, Tryz.ntmps52
  go_upto_region 1 with fail
  have bh := ((Blk.new w 71 (A4 h0 h1 h2 h3 h4 h5)).alloc (.cells (A0 pr sr ds fl ki co true isz i1 i2 i3 i4 i5 pat ba) 76)).alloc (.cells Z2 87)
  have bp := (Blk.new (w.alloc (.cells (A4 h0 h1 h2 h3 h4 h5) 71)) 76 (A0 pr sr ds fl ki co true isz i1 i2 i3 i4 i5 pat ba)).alloc (.cells Z2 87)
  have br := Blk.new ((w.alloc (.cells (A4 h0 h1 h2 h3 h4 h5) 71)).alloc (.cells (A0 pr sr ds fl ki co true isz i1 i2 i3 i4 i5 pat ba) 76)) 87 Z2
  have bel : Below w.heap.size w (((w.alloc (.cells (A4 h0 h1 h2 h3 h4 h5) 71)).alloc (.cells (A0 pr sr ds fl ki co true isz i1 i2 i3 i4 i5 pat ba) 76)).alloc (.cells Z2 87)) := ((bel_alloc w _).alloc (by simp) _).alloc (by simp; omega) _
  rw [show (w.alloc (.cells (A4 h0 h1 h2 h3 h4 h5) 71)).heap.size = w.heap.size + 1 by simp] at bp
  rw [show ((w.alloc (.cells (A4 h0 h1 h2 h3 h4 h5) 71)).alloc (.cells (A0 pr sr ds fl ki co true isz i1 i2 i3 i4 i5 pat ba) 76)).heap.size = w.heap.size + 1 + 1 by simp] at br
  generalize ((w.alloc (.cells (A4 h0 h1 h2 h3 h4 h5) 71)).alloc (.cells (A0 pr sr ds fl ki co true isz i1 i2 i3 i4 i5 pat ba) 76)).alloc (.cells Z2 87) = W at *
  have q3 := bh.cell 3
  have q4 := bh.cell 4
  have q5 := bh.cell 5
  have p1 := bp.cell 1
  have p2 := bp.cell 2
  have p6 := bp.cell 6
  have p10 := bp.cell 10
  have p11 := bp.cell 11
  have p12 := bp.cell 12
  go_wp2_with (refine wpList_stRow rfl rfl rfl rfl rfl br fl_size rfl (by simp [Value.oneCell']) ?_)
  exact bodyPost_ret (results_row rfl _ rfl (br.setRow _) Tryz.underlying87 fl_size) rfl ⟨rfl, below_setRow bel (by omega) _⟩
 | false =>
  simp only [Hd.val, Pt.val, insF, Fl.cs, Bool.false_eq_true, if_false]
  go_enter Tryz.func52, Tryz.ntmps52
  go_upto_region 1 with fail
  have bh := ((Blk.new w 71 (A4 h0 h1 h2 h3 h4 h5)).alloc (.cells (A0 pr sr ds fl ki co false isz i1 i2 i3 i4 i5 pat ba) 76)).alloc (.cells Z2 87)
  have bp := (Blk.new (w.alloc (.cells (A4 h0 h1 h2 h3 h4 h5) 71)) 76 (A0 pr sr ds fl ki co false isz i1 i2 i3 i4 i5 pat ba)).alloc (.cells Z2 87)
  have br := Blk.new ((w.alloc (.cells (A4 h0 h1 h2 h3 h4 h5) 71)).alloc (.cells (A0 pr sr ds fl ki co false isz i1 i2 i3 i4 i5 pat ba) 76)) 87 Z2
  have bel : Below w.heap.size w (((w.alloc (.cells (A4 h0 h1 h2 h3 h4 h5) 71)).alloc (.cells (A0 pr sr ds fl ki co false isz i1 i2 i3 i4 i5 pat ba) 76)).alloc (.cells Z2 87)) := ((bel_alloc w _).alloc (by simp) _).alloc (by simp; omega) _
  rw [show (w.alloc (.cells (A4 h0 h1 h2 h3 h4 h5) 71)).heap.size = w.heap.size + 1 by simp] at bp
  rw [show ((w.alloc (.cells (A4 h0 h1 h2 h3 h4 h5) 71)).alloc (.cells (A0 pr sr ds fl ki co false isz i1 i2 i3 i4 i5 pat ba) 76)).heap.size = w.heap.size + 1 + 1 by simp] at br
  generalize ((w.alloc (.cells (A4 h0 h1 h2 h3 h4 h5) 71)).alloc (.cells (A0 pr sr ds fl ki co false isz i1 i2 i3 i4 i5 pat ba) 76)).alloc (.cells Z2 87) = W at *
  have q3 := bh.cell 3
  have q4 := bh.cell 4
  have q5 := bh.cell 5
  have p1 := bp.cell 1
  have p2 := bp.cell 2
  have p6 := bp.cell 6
  have p10 := bp.cell 10
  have p11 := bp.cell 11
  have p12 := bp.cell 12
  go_wp2_with (refine wpList_stRow rfl rfl rfl rfl rfl br fl_size rfl (by simp [Value.oneCell']) ?_)
  exact bodyPost_ret (results_row rfl _ rfl (br.setRow _) Tryz.underlying87 fl_size) rfl ⟨rfl, below_setRow bel (by omega) _⟩
theorem outside_any (h : Hd) (p : Pt) (w : World) : Calls Tryz.prog 53 #[h.val, p.val] w fun e w' => e = .returned (.agg (outF h p).cs) ∧ Below w.heap.size w w' := by
 obtain ⟨h0, h1, h2, h3, h4, h5⟩ := h
 obtain ⟨pr, sr, ds, fl, ki, co, er, ⟨isz, i1, i2, i3, i4, i5⟩, pat, ba⟩ := p
 cases er with
 | true =>
  simp only [Hd.val, Pt.val, outF, Fl.cs, if_true]
  go_enter Tryz.func53, Tryz.ntmps53
  go_upto_region 1 with fail
  have bh := ((Blk.new w 71 (A4 h0 h1 h2 h3 h4 h5)).alloc (.cells (A0 pr sr ds fl ki co true isz i1 i2 i3 i4 i5 pat ba) 76)).alloc (.cells Z2 87)
  have bp := (Blk.new (w.alloc (.cells (A4 h0 h1 h2 h3 h4 h5) 71)) 76 (A0 pr sr ds fl ki co true isz i1 i2 i3 i4 i5 pat ba)).alloc (.cells Z2 87)
  have br := Blk.new ((w.alloc (.cells (A4 h0 h1 h2 h3 h4 h5) 71)).alloc (.cells (A0 pr sr ds fl ki co true isz i1 i2 i3 i4 i5 pat ba) 76)) 87 Z2
  have bel : Below w.heap.size w (((w.alloc (.cells (A4 h0 h1 h2 h3 h4 h5) 71)).alloc (.cells (A0 pr sr ds fl ki co true isz i1 i2 i3 i4 i5 pat ba) 76)).alloc (.cells Z2 87)) := ((bel_alloc w _).alloc (by simp) _).alloc (by simp; omega) _
  rw [show (w.alloc (.cells (A4 h0 h1 h2 h3 h4 h5) 71)).heap.size = w.heap.size + 1 by simp] at bp
  rw [show ((w.alloc (.cells (A4 h0 h1 h2 h3 h4 h5) 71)).alloc (.cells (A0 pr sr ds fl ki co true isz i1 i2 i3 i4 i5 pat ba) 76)).heap.size = w.heap.size + 1 + 1 by simp] at br
  generalize ((w.alloc (.cells (A4 h0 h1 h2 h3 h4 h5) 71)).alloc (.cells (A0 pr sr ds fl ki co true isz i1 i2 i3 i4 i5 pat ba) 76)).alloc (.cells Z2 87) = W at *
  have q3 := bh.cell 3
  have q4 := bh.cell 4
  have q5 := bh.cell 5
  have p1 := bp.cell 1
  have p2 := bp.cell 2
  have p6 := bp.cell 6
  have p10 := bp.cell 10
  have p11 := bp.cell 11
  have p12 := bp.cell 12
  go_wp2_with (refine wpList_stRow rfl rfl rfl rfl rfl br fl_size rfl (by simp [Value.oneCell']) ?_)
  exact bodyPost_ret (results_row rfl _ rfl (br.setRow _) Tryz.underlying87 fl_size) rfl ⟨rfl, below_setRow bel (by omega) _⟩
 | false =>
  simp only [Hd.val, Pt.val, outF, Fl.cs, Bool.false_eq_true, if_false]
  go_enter Tryz.func53, Tryz.ntmps53
  go_upto_region 1 with fail
  have bh := ((Blk.new w 71 (A4 h0 h1 h2 h3 h4 h5)).alloc (.cells (A0 pr sr ds fl ki co false isz i1 i2 i3 i4 i5 pat ba) 76)).alloc (.cells Z2 87)
  have bp := (Blk.new (w.alloc (.cells (A4 h0 h1 h2 h3 h4 h5) 71)) 76 (A0 pr sr ds fl ki co false isz i1 i2 i3 i4 i5 pat ba)).alloc (.cells Z2 87)
  have br := Blk.new ((w.alloc (.cells (A4 h0 h1 h2 h3 h4 h5) 71)).alloc (.cells (A0 pr sr ds fl ki co false isz i1 i2 i3 i4 i5 pat ba) 76)) 87 Z2
  have bel : Below w.heap.size w (((w.alloc (.cells (A4 h0 h1 h2 h3 h4 h5) 71)).alloc (.cells (A0 pr sr ds fl ki co false isz i1 i2 i3 i4 i5 pat ba) 76)).alloc (.cells Z2 87)) := ((bel_alloc w _).alloc (by simp) _).alloc (by simp; omega) _
  rw [show (w.alloc (.cells (A4 h0 h1 h2 h3 h4 h5) 71)).heap.size = w.heap.size + 1 by simp] at bp
  rw [show ((w.alloc (.cells (A4 h0 h1 h2 h3 h4 h5) 71)).alloc (.cells (A0 pr sr ds fl ki co false isz i1 i2 i3 i4 i5 pat ba) 76)).heap.size = w.heap.size + 1 + 1 by simp] at br
  generalize ((w.alloc (.cells (A4 h0 h1 h2 h3 h4 h5) 71)).alloc (.cells (A0 pr sr ds fl ki co false isz i1 i2 i3 i4 i5 pat ba) 76)).alloc (.cells Z2 87) = W at *
  have q3 := bh.cell 3
  have q4 := bh.cell 4
  have q5 := bh.cell 5
  have p1 := bp.cell 1
  have p2 := bp.cell 2
  have p6 := bp.cell 6
  have p10 := bp.cell 10
  have p11 := bp.cell 11
  have p12 := bp.cell 12
  go_wp2_with (refine wpList_stRow rfl rfl rfl rfl rfl br fl_size rfl (by simp [Value.oneCell']) ?_)
  exact bodyPost_ret (results_row rfl _ rfl (br.setRow _) Tryz.underlying87 fl_size) rfl ⟨rfl, below_setRow bel (by omega) _⟩
def WhoR (w : World) (r : Fl × Int) (e : Ending) (w' : World) : Prop := e = .returned (.tuple #[.agg r.1.cs, .int .i64 r.2]) ∧ Below w.heap.size w w'
theorem Whose_any (wk ou lo hi bk rg : Int) (out : Bool) (l : List Int) (A : Option Addr) (len c : Nat) (w : World) (hr : Rd .u8 w w.heap.size A len l) (hlc : len ≤ c) (hcm : c ≤ 9223372036854775807) (hl : len ≤ 60000) :
  Calls Tryz.prog 24 #[.agg (A8 wk ou lo hi bk rg), .bool out, .slice A len c] w (WhoR w (whoP ou out l)) := by
 have k1 := fun W (h : Below w.heap.size w W) => read_any l A len c W ((hr.below h).more h.size) hlc hcm hl
 unfold whoP
 unfold ReadR at k1
 clear hr
 generalize rdE l = E at *
 generalize rdP l = p at *
 generalize rdH l = h at *
 have kin := fun W => inside_any h p W
 have ko := fun W => outside_any h p W
 obtain ⟨F, hF⟩ : ∃ F, insF h p = F := ⟨_, rfl⟩
 obtain ⟨G, hG⟩ : ∃ G, outF h p = G := ⟨_, rfl⟩
 rw [hF] at kin ⊢
 rw [hG] at ko ⊢
 clear hF hG
 obtain ⟨h0, h1, h2, h3, h4, h5⟩ := h
 obtain ⟨pr, sr, ds, fl, ki, co, er, ⟨isz, i1, i2, i3, i4, i5⟩, pat, ba⟩ := p
 obtain ⟨f1, f2, f3⟩ := F
 obtain ⟨g1, g2, g3⟩ := G
 simp only [Hd.val, Pt.val, Fl.cs] at k1 kin ko ⊢
 replace k1 := Lib.hid k1
 replace kin := Lib.hid kin
 replace ko := Lib.hid ko
 by_cases hE : E = 0
 ·subst hE
  rw [if_neg (by simp)]
  cases out with
  | true =>
   simp only [if_true, WhoR, Fl.cs]
   clear ko
   go_enter Tryz.func24, Tryz.ntmps24
   go_upto_region 1 with fail
   have bc := (Blk.new w 31 (A8 wk ou lo hi bk rg)).alloc (.cells Z2 87)
   have br := Blk.new (w.alloc (.cells (A8 wk ou lo hi bk rg) 31)) 87 Z2
   rw [show (w.alloc (.cells (A8 wk ou lo hi bk rg) 31)).heap.size = w.heap.size + 1 by simp] at br
   have bel : Below w.heap.size w ((w.alloc (.cells (A8 wk ou lo hi bk rg) 31)).alloc (.cells Z2 87)) := (bel_alloc _ _).alloc (by simp) _
   generalize (w.alloc (.cells (A8 wk ou lo hi bk rg) 31)).alloc (.cells Z2 87) = W at *
   go_wp2_with fail
   refine (k1.out _ bel).mono ?_
   rintro e w2 ⟨rfl, hb⟩
   replace bc := bc.bel hb
   replace br := br.bel hb
   replace bel := bel_after bel hb
   clear hb k1
   have hg0 : w.heap.size + 1 < w2.heap.size := br.lt
   have bh1 := (Blk.new w2 71 Z1).alloc (.cells Z0 76)
   have bp1 := Blk.new (w2.alloc (.cells Z1 71)) 76 Z0
   rw [show (w2.alloc (.cells Z1 71)).heap.size = w2.heap.size + 1 by simp] at bp1
   have bh := (bh1.setRow (A4 h0 h1 h2 h3 h4 h5)).setRow_far (g' := w2.heap.size + 1) (by omega) (A0 pr sr ds fl ki co er isz i1 i2 i3 i4 i5 pat ba)
   replace bp1 := bp1.setRow_far (g' := w2.heap.size) (by omega) (A4 h0 h1 h2 h3 h4 h5)
   have bp := bp1.setRow (A0 pr sr ds fl ki co er isz i1 i2 i3 i4 i5 pat ba)
   replace bc := ((((bc.alloc (.cells Z1 71)).alloc (.cells Z0 76)).setRow_far (g' := w2.heap.size) (by omega) (A4 h0 h1 h2 h3 h4 h5)).setRow_far (g' := w2.heap.size + 1) (by omega) (A0 pr sr ds fl ki co er isz i1 i2 i3 i4 i5 pat ba))
   replace br := ((((br.alloc (.cells Z1 71)).alloc (.cells Z0 76)).setRow_far (g' := w2.heap.size) (by omega) (A4 h0 h1 h2 h3 h4 h5)).setRow_far (g' := w2.heap.size + 1) (by omega) (A0 pr sr ds fl ki co er isz i1 i2 i3 i4 i5 pat ba))
   replace bel := below_setRow (g := w2.heap.size + 1) (below_setRow (((bel.alloc bel.size (.cells Z1 71)).alloc (by simp; have := bel.size; omega) (.cells Z0 76))) bel.size (A4 h0 h1 h2 h3 h4 h5)) (by have := bel.size; omega) (A0 pr sr ds fl ki co er isz i1 i2 i3 i4 i5 pat ba)
   go_upto_region 5 with (first | (refine wpList_stRow rfl rfl rfl rfl rfl bh1 hd_size rfl (by simp [Value.oneCell']) ?_) | (refine wpList_stRow rfl rfl rfl rfl rfl bp1 pt_size rfl (by simp [Value.oneCell']) ?_; generalize (((w2.alloc (.cells Z1 71)).alloc (.cells Z0 76)).setRow w2.heap.size (A4 h0 h1 h2 h3 h4 h5)).setRow (w2.heap.size + 1) (A0 pr sr ds fl ki co er isz i1 i2 i3 i4 i5 pat ba) = W4 at *; generalize hgh : w2.heap.size = gh at *; replace hgh := Lib.hid hgh; clear bh1 bp1))
   go_wp2_with (first
    | (refine wpList_ldRow rfl rfl rfl bh Tryz.underlying71 hd_size ?_)
    | (refine wpList_ldRow rfl rfl rfl bp Tryz.underlying76 pt_size ?_))
   refine (kin.out _).mono ?_
   rintro e w3 ⟨rfl, hb⟩
   replace br := br.bel hb
   replace bel := bel_after bel hb
   go_wp2_with (refine wpList_stRow rfl rfl rfl rfl rfl br fl_size rfl (by simp [Value.oneCell']) ?_)
   exact bodyPost_ret (results_row2 rfl _ rfl (br.setRow _) Tryz.underlying87 fl_size) rfl ⟨rfl, below_setRow bel (by omega) _⟩
  | false =>
   simp only [Bool.false_eq_true, if_false]
   clear kin
   have key : ∀ (T : Bool) (r : Fl × Int), ((h5 != ou) = true ∧ T = true ∨ (h5 != ou) = false ∧ (g2 != ou) = T) → r = (if T = true then (Fl.z, 7) else (⟨g1, g2, g3⟩, 0)) → Calls Tryz.prog 24 #[.agg (A8 wk ou lo hi bk rg), .bool false, .slice A len c] w (WhoR w r) := by
    intro T r hT hr
    subst hr
    rcases hT with ⟨hd, rfl⟩ | ⟨hd, hd2⟩
    ·simp only [if_true, WhoR, Fl.cs, Fl.z]
     go_enter Tryz.func24, Tryz.ntmps24
     go_upto_region 1 with fail
     have bc := (Blk.new w 31 (A8 wk ou lo hi bk rg)).alloc (.cells Z2 87)
     have br := Blk.new (w.alloc (.cells (A8 wk ou lo hi bk rg) 31)) 87 Z2
     rw [show (w.alloc (.cells (A8 wk ou lo hi bk rg) 31)).heap.size = w.heap.size + 1 by simp] at br
     have bel : Below w.heap.size w ((w.alloc (.cells (A8 wk ou lo hi bk rg) 31)).alloc (.cells Z2 87)) := (bel_alloc _ _).alloc (by simp) _
     generalize (w.alloc (.cells (A8 wk ou lo hi bk rg) 31)).alloc (.cells Z2 87) = W at *
     go_wp2_with fail
     refine (k1.out _ bel).mono ?_
     rintro e w2 ⟨rfl, hb⟩
     replace bc := bc.bel hb
     replace br := br.bel hb
     replace bel := bel_after bel hb
     clear hb k1
     have hg0 : w.heap.size + 1 < w2.heap.size := br.lt
     have bh1 := (Blk.new w2 71 Z1).alloc (.cells Z0 76)
     have bp1 := Blk.new (w2.alloc (.cells Z1 71)) 76 Z0
     rw [show (w2.alloc (.cells Z1 71)).heap.size = w2.heap.size + 1 by simp] at bp1
     have bh := (bh1.setRow (A4 h0 h1 h2 h3 h4 h5)).setRow_far (g' := w2.heap.size + 1) (by omega) (A0 pr sr ds fl ki co er isz i1 i2 i3 i4 i5 pat ba)
     replace bp1 := bp1.setRow_far (g' := w2.heap.size) (by omega) (A4 h0 h1 h2 h3 h4 h5)
     have bp := bp1.setRow (A0 pr sr ds fl ki co er isz i1 i2 i3 i4 i5 pat ba)
     replace bc := ((((bc.alloc (.cells Z1 71)).alloc (.cells Z0 76)).setRow_far (g' := w2.heap.size) (by omega) (A4 h0 h1 h2 h3 h4 h5)).setRow_far (g' := w2.heap.size + 1) (by omega) (A0 pr sr ds fl ki co er isz i1 i2 i3 i4 i5 pat ba))
     replace br := ((((br.alloc (.cells Z1 71)).alloc (.cells Z0 76)).setRow_far (g' := w2.heap.size) (by omega) (A4 h0 h1 h2 h3 h4 h5)).setRow_far (g' := w2.heap.size + 1) (by omega) (A0 pr sr ds fl ki co er isz i1 i2 i3 i4 i5 pat ba))
     replace bel := below_setRow (g := w2.heap.size + 1) (below_setRow (((bel.alloc bel.size (.cells Z1 71)).alloc (by simp; have := bel.size; omega) (.cells Z0 76))) bel.size (A4 h0 h1 h2 h3 h4 h5)) (by have := bel.size; omega) (A0 pr sr ds fl ki co er isz i1 i2 i3 i4 i5 pat ba)
     go_upto_region 6 with (first | (refine wpList_stRow rfl rfl rfl rfl rfl bh1 hd_size rfl (by simp [Value.oneCell']) ?_) | (refine wpList_stRow rfl rfl rfl rfl rfl bp1 pt_size rfl (by simp [Value.oneCell']) ?_; generalize (((w2.alloc (.cells Z1 71)).alloc (.cells Z0 76)).setRow w2.heap.size (A4 h0 h1 h2 h3 h4 h5)).setRow (w2.heap.size + 1) (A0 pr sr ds fl ki co er isz i1 i2 i3 i4 i5 pat ba) = W4 at *; generalize hgh : w2.heap.size = gh at *; replace hgh := Lib.hid hgh; clear bh1 bp1))
     go_wp2_with (first
      | (refine wpList_ldRow rfl rfl rfl bh Tryz.underlying71 hd_size ?_)
      | (refine wpList_ldRow rfl rfl rfl bp Tryz.underlying76 pt_size ?_))
     refine (ko.out _).mono ?_
     rintro e w3 ⟨rfl, hb⟩
     replace br := br.bel hb
     replace bh := bh.bel hb
     replace bc := bc.bel hb
     replace bel := bel_after bel hb
     have hg3 : w.heap.size + 1 < w3.heap.size := br.lt
     have hg4 : gh < w3.heap.size := bh.lt
     clear hb ko
     have bo := (Blk.new w3 87 Z2).setRow (A6 g1 g2 g3)
     replace br := (br.alloc (.cells Z2 87)).setRow_far (g' := w3.heap.size) (by omega) (A6 g1 g2 g3)
     replace bh := (bh.alloc (.cells Z2 87)).setRow_far (g' := w3.heap.size) (by omega) (A6 g1 g2 g3)
     replace bc := (bc.alloc (.cells Z2 87)).setRow_far (g' := w3.heap.size) (by omega) (A6 g1 g2 g3)
     replace bel := below_setRow (bel.alloc bel.size (.cells Z2 87)) bel.size (A6 g1 g2 g3)
     go_upto_region 7 with (refine wpList_stRow rfl rfl rfl rfl rfl (Blk.new w3 _ _) fl_size rfl (by simp [Value.oneCell']) ?_; generalize (w3.alloc (.cells Z2 87)).setRow w3.heap.size (A6 g1 g2 g3) = W5 at *; generalize w3.heap.size = go at *)
     have q5 := bh.cell 5
     have c1 := bc.cell 1
     have o1 := bo.cell 1
     go_wp2_with (first
      | (refine wpList_ldRow rfl rfl rfl bo Tryz.underlying87 fl_size ?_)
      | (refine wpList_stRow rfl rfl rfl rfl rfl br fl_size rfl (by simp [Value.oneCell']) ?_))
     exact bodyPost_ret (results_row2 rfl _ rfl (br.setRow _) Tryz.underlying87 fl_size) rfl ⟨rfl, below_setRow bel (by omega) _⟩
    ·cases T with
     | true =>
      simp only [if_true, WhoR, Fl.cs, Fl.z]
      go_enter Tryz.func24, Tryz.ntmps24
      go_upto_region 1 with fail
      have bc := (Blk.new w 31 (A8 wk ou lo hi bk rg)).alloc (.cells Z2 87)
      have br := Blk.new (w.alloc (.cells (A8 wk ou lo hi bk rg) 31)) 87 Z2
      rw [show (w.alloc (.cells (A8 wk ou lo hi bk rg) 31)).heap.size = w.heap.size + 1 by simp] at br
      have bel : Below w.heap.size w ((w.alloc (.cells (A8 wk ou lo hi bk rg) 31)).alloc (.cells Z2 87)) := (bel_alloc _ _).alloc (by simp) _
      generalize (w.alloc (.cells (A8 wk ou lo hi bk rg) 31)).alloc (.cells Z2 87) = W at *
      go_wp2_with fail
      refine (k1.out _ bel).mono ?_
      rintro e w2 ⟨rfl, hb⟩
      replace bc := bc.bel hb
      replace br := br.bel hb
      replace bel := bel_after bel hb
      clear hb k1
      have hg0 : w.heap.size + 1 < w2.heap.size := br.lt
      have bh1 := (Blk.new w2 71 Z1).alloc (.cells Z0 76)
      have bp1 := Blk.new (w2.alloc (.cells Z1 71)) 76 Z0
      rw [show (w2.alloc (.cells Z1 71)).heap.size = w2.heap.size + 1 by simp] at bp1
      have bh := (bh1.setRow (A4 h0 h1 h2 h3 h4 h5)).setRow_far (g' := w2.heap.size + 1) (by omega) (A0 pr sr ds fl ki co er isz i1 i2 i3 i4 i5 pat ba)
      replace bp1 := bp1.setRow_far (g' := w2.heap.size) (by omega) (A4 h0 h1 h2 h3 h4 h5)
      have bp := bp1.setRow (A0 pr sr ds fl ki co er isz i1 i2 i3 i4 i5 pat ba)
      replace bc := ((((bc.alloc (.cells Z1 71)).alloc (.cells Z0 76)).setRow_far (g' := w2.heap.size) (by omega) (A4 h0 h1 h2 h3 h4 h5)).setRow_far (g' := w2.heap.size + 1) (by omega) (A0 pr sr ds fl ki co er isz i1 i2 i3 i4 i5 pat ba))
      replace br := ((((br.alloc (.cells Z1 71)).alloc (.cells Z0 76)).setRow_far (g' := w2.heap.size) (by omega) (A4 h0 h1 h2 h3 h4 h5)).setRow_far (g' := w2.heap.size + 1) (by omega) (A0 pr sr ds fl ki co er isz i1 i2 i3 i4 i5 pat ba))
      replace bel := below_setRow (g := w2.heap.size + 1) (below_setRow (((bel.alloc bel.size (.cells Z1 71)).alloc (by simp; have := bel.size; omega) (.cells Z0 76))) bel.size (A4 h0 h1 h2 h3 h4 h5)) (by have := bel.size; omega) (A0 pr sr ds fl ki co er isz i1 i2 i3 i4 i5 pat ba)
      go_upto_region 6 with (first | (refine wpList_stRow rfl rfl rfl rfl rfl bh1 hd_size rfl (by simp [Value.oneCell']) ?_) | (refine wpList_stRow rfl rfl rfl rfl rfl bp1 pt_size rfl (by simp [Value.oneCell']) ?_; generalize (((w2.alloc (.cells Z1 71)).alloc (.cells Z0 76)).setRow w2.heap.size (A4 h0 h1 h2 h3 h4 h5)).setRow (w2.heap.size + 1) (A0 pr sr ds fl ki co er isz i1 i2 i3 i4 i5 pat ba) = W4 at *; generalize hgh : w2.heap.size = gh at *; replace hgh := Lib.hid hgh; clear bh1 bp1))
      go_wp2_with (first
       | (refine wpList_ldRow rfl rfl rfl bh Tryz.underlying71 hd_size ?_)
       | (refine wpList_ldRow rfl rfl rfl bp Tryz.underlying76 pt_size ?_))
      refine (ko.out _).mono ?_
      rintro e w3 ⟨rfl, hb⟩
      replace br := br.bel hb
      replace bh := bh.bel hb
      replace bc := bc.bel hb
      replace bel := bel_after bel hb
      have hg3 : w.heap.size + 1 < w3.heap.size := br.lt
      have hg4 : gh < w3.heap.size := bh.lt
      clear hb ko
      have bo := (Blk.new w3 87 Z2).setRow (A6 g1 g2 g3)
      replace br := (br.alloc (.cells Z2 87)).setRow_far (g' := w3.heap.size) (by omega) (A6 g1 g2 g3)
      replace bh := (bh.alloc (.cells Z2 87)).setRow_far (g' := w3.heap.size) (by omega) (A6 g1 g2 g3)
      replace bc := (bc.alloc (.cells Z2 87)).setRow_far (g' := w3.heap.size) (by omega) (A6 g1 g2 g3)
      replace bel := below_setRow (bel.alloc bel.size (.cells Z2 87)) bel.size (A6 g1 g2 g3)
      go_upto_region 7 with (refine wpList_stRow rfl rfl rfl rfl rfl (Blk.new w3 _ _) fl_size rfl (by simp [Value.oneCell']) ?_; generalize (w3.alloc (.cells Z2 87)).setRow w3.heap.size (A6 g1 g2 g3) = W5 at *; generalize w3.heap.size = go at *)
      have q5 := bh.cell 5
      have c1 := bc.cell 1
      have o1 := bo.cell 1
      go_wp2_with (first
       | (refine wpList_ldRow rfl rfl rfl bo Tryz.underlying87 fl_size ?_)
       | (refine wpList_stRow rfl rfl rfl rfl rfl br fl_size rfl (by simp [Value.oneCell']) ?_))
      exact bodyPost_ret (results_row2 rfl _ rfl (br.setRow _) Tryz.underlying87 fl_size) rfl ⟨rfl, below_setRow bel (by omega) _⟩
     | false =>
      simp only [Bool.false_eq_true, if_false, WhoR, Fl.cs]
      go_enter Tryz.func24, Tryz.ntmps24
      go_upto_region 1 with fail
      have bc := (Blk.new w 31 (A8 wk ou lo hi bk rg)).alloc (.cells Z2 87)
      have br := Blk.new (w.alloc (.cells (A8 wk ou lo hi bk rg) 31)) 87 Z2
      rw [show (w.alloc (.cells (A8 wk ou lo hi bk rg) 31)).heap.size = w.heap.size + 1 by simp] at br
      have bel : Below w.heap.size w ((w.alloc (.cells (A8 wk ou lo hi bk rg) 31)).alloc (.cells Z2 87)) := (bel_alloc _ _).alloc (by simp) _
      generalize (w.alloc (.cells (A8 wk ou lo hi bk rg) 31)).alloc (.cells Z2 87) = W at *
      go_wp2_with fail
      refine (k1.out _ bel).mono ?_
      rintro e w2 ⟨rfl, hb⟩
      replace bc := bc.bel hb
      replace br := br.bel hb
      replace bel := bel_after bel hb
      clear hb k1
      have hg0 : w.heap.size + 1 < w2.heap.size := br.lt
      have bh1 := (Blk.new w2 71 Z1).alloc (.cells Z0 76)
      have bp1 := Blk.new (w2.alloc (.cells Z1 71)) 76 Z0
      rw [show (w2.alloc (.cells Z1 71)).heap.size = w2.heap.size + 1 by simp] at bp1
      have bh := (bh1.setRow (A4 h0 h1 h2 h3 h4 h5)).setRow_far (g' := w2.heap.size + 1) (by omega) (A0 pr sr ds fl ki co er isz i1 i2 i3 i4 i5 pat ba)
      replace bp1 := bp1.setRow_far (g' := w2.heap.size) (by omega) (A4 h0 h1 h2 h3 h4 h5)
      have bp := bp1.setRow (A0 pr sr ds fl ki co er isz i1 i2 i3 i4 i5 pat ba)
      replace bc := ((((bc.alloc (.cells Z1 71)).alloc (.cells Z0 76)).setRow_far (g' := w2.heap.size) (by omega) (A4 h0 h1 h2 h3 h4 h5)).setRow_far (g' := w2.heap.size + 1) (by omega) (A0 pr sr ds fl ki co er isz i1 i2 i3 i4 i5 pat ba))
      replace br := ((((br.alloc (.cells Z1 71)).alloc (.cells Z0 76)).setRow_far (g' := w2.heap.size) (by omega) (A4 h0 h1 h2 h3 h4 h5)).setRow_far (g' := w2.heap.size + 1) (by omega) (A0 pr sr ds fl ki co er isz i1 i2 i3 i4 i5 pat ba))
      replace bel := below_setRow (g := w2.heap.size + 1) (below_setRow (((bel.alloc bel.size (.cells Z1 71)).alloc (by simp; have := bel.size; omega) (.cells Z0 76))) bel.size (A4 h0 h1 h2 h3 h4 h5)) (by have := bel.size; omega) (A0 pr sr ds fl ki co er isz i1 i2 i3 i4 i5 pat ba)
      go_upto_region 6 with (first | (refine wpList_stRow rfl rfl rfl rfl rfl bh1 hd_size rfl (by simp [Value.oneCell']) ?_) | (refine wpList_stRow rfl rfl rfl rfl rfl bp1 pt_size rfl (by simp [Value.oneCell']) ?_; generalize (((w2.alloc (.cells Z1 71)).alloc (.cells Z0 76)).setRow w2.heap.size (A4 h0 h1 h2 h3 h4 h5)).setRow (w2.heap.size + 1) (A0 pr sr ds fl ki co er isz i1 i2 i3 i4 i5 pat ba) = W4 at *; generalize hgh : w2.heap.size = gh at *; replace hgh := Lib.hid hgh; clear bh1 bp1))
      go_wp2_with (first
       | (refine wpList_ldRow rfl rfl rfl bh Tryz.underlying71 hd_size ?_)
       | (refine wpList_ldRow rfl rfl rfl bp Tryz.underlying76 pt_size ?_))
      refine (ko.out _).mono ?_
      rintro e w3 ⟨rfl, hb⟩
      replace br := br.bel hb
      replace bh := bh.bel hb
      replace bc := bc.bel hb
      replace bel := bel_after bel hb
      have hg3 : w.heap.size + 1 < w3.heap.size := br.lt
      have hg4 : gh < w3.heap.size := bh.lt
      clear hb ko
      have bo := (Blk.new w3 87 Z2).setRow (A6 g1 g2 g3)
      replace br := (br.alloc (.cells Z2 87)).setRow_far (g' := w3.heap.size) (by omega) (A6 g1 g2 g3)
      replace bh := (bh.alloc (.cells Z2 87)).setRow_far (g' := w3.heap.size) (by omega) (A6 g1 g2 g3)
      replace bc := (bc.alloc (.cells Z2 87)).setRow_far (g' := w3.heap.size) (by omega) (A6 g1 g2 g3)
      replace bel := below_setRow (bel.alloc bel.size (.cells Z2 87)) bel.size (A6 g1 g2 g3)
      go_upto_region 7 with (refine wpList_stRow rfl rfl rfl rfl rfl (Blk.new w3 _ _) fl_size rfl (by simp [Value.oneCell']) ?_; generalize (w3.alloc (.cells Z2 87)).setRow w3.heap.size (A6 g1 g2 g3) = W5 at *; generalize w3.heap.size = go at *)
      have q5 := bh.cell 5
      have c1 := bc.cell 1
      have o1 := bo.cell 1
      go_wp2_with (first
       | (refine wpList_ldRow rfl rfl rfl bo Tryz.underlying87 fl_size ?_)
       | (refine wpList_stRow rfl rfl rfl rfl rfl br fl_size rfl (by simp [Value.oneCell']) ?_))
      exact bodyPost_ret (results_row2 rfl _ rfl (br.setRow _) Tryz.underlying87 fl_size) rfl ⟨rfl, below_setRow bel (by omega) _⟩
   by_cases h1 : h5 = ou
   ·by_cases h2 : g2 = ou
    ·exact key false _ (.inr ⟨by simpa using h1, by simpa using h2⟩) (by simp [h1, h2])
    ·exact key true _ (.inr ⟨by simpa using h1, by simpa using h2⟩) (by simp [h2])
   ·exact key true _ (.inl ⟨by simpa using h1, rfl⟩) (by simp [h1])
 ·rw [if_pos hE]
  have d1 : (E != 0) = true := by simpa using hE
  have d2 : (E == 0) = false := by simpa using hE
  clear hE kin ko
  simp only [WhoR, Fl.cs, Fl.z]
  go_enter Tryz.func24, Tryz.ntmps24
  go_upto_region 1 with fail
  have bc := (Blk.new w 31 (A8 wk ou lo hi bk rg)).alloc (.cells Z2 87)
  have br := Blk.new (w.alloc (.cells (A8 wk ou lo hi bk rg) 31)) 87 Z2
  rw [show (w.alloc (.cells (A8 wk ou lo hi bk rg) 31)).heap.size = w.heap.size + 1 by simp] at br
  have bel : Below w.heap.size w ((w.alloc (.cells (A8 wk ou lo hi bk rg) 31)).alloc (.cells Z2 87)) := (bel_alloc _ _).alloc (by simp) _
  generalize (w.alloc (.cells (A8 wk ou lo hi bk rg) 31)).alloc (.cells Z2 87) = W at *
  go_wp2_with fail
  refine (k1.out _ bel).mono ?_
  rintro e w2 ⟨rfl, hb⟩
  replace bc := bc.bel hb
  replace br := br.bel hb
  replace bel := bel_after bel hb
  clear hb k1
  have hg0 : w.heap.size + 1 < w2.heap.size := br.lt
  have bh1 := (Blk.new w2 71 Z1).alloc (.cells Z0 76)
  have bp1 := Blk.new (w2.alloc (.cells Z1 71)) 76 Z0
  rw [show (w2.alloc (.cells Z1 71)).heap.size = w2.heap.size + 1 by simp] at bp1
  have bh := (bh1.setRow (A4 h0 h1 h2 h3 h4 h5)).setRow_far (g' := w2.heap.size + 1) (by omega) (A0 pr sr ds fl ki co er isz i1 i2 i3 i4 i5 pat ba)
  replace bp1 := bp1.setRow_far (g' := w2.heap.size) (by omega) (A4 h0 h1 h2 h3 h4 h5)
  have bp := bp1.setRow (A0 pr sr ds fl ki co er isz i1 i2 i3 i4 i5 pat ba)
  replace bc := ((((bc.alloc (.cells Z1 71)).alloc (.cells Z0 76)).setRow_far (g' := w2.heap.size) (by omega) (A4 h0 h1 h2 h3 h4 h5)).setRow_far (g' := w2.heap.size + 1) (by omega) (A0 pr sr ds fl ki co er isz i1 i2 i3 i4 i5 pat ba))
  replace br := ((((br.alloc (.cells Z1 71)).alloc (.cells Z0 76)).setRow_far (g' := w2.heap.size) (by omega) (A4 h0 h1 h2 h3 h4 h5)).setRow_far (g' := w2.heap.size + 1) (by omega) (A0 pr sr ds fl ki co er isz i1 i2 i3 i4 i5 pat ba))
  replace bel := below_setRow (g := w2.heap.size + 1) (below_setRow (((bel.alloc bel.size (.cells Z1 71)).alloc (by simp; have := bel.size; omega) (.cells Z0 76))) bel.size (A4 h0 h1 h2 h3 h4 h5)) (by have := bel.size; omega) (A0 pr sr ds fl ki co er isz i1 i2 i3 i4 i5 pat ba)
  go_upto_region 3 with (first | (refine wpList_stRow rfl rfl rfl rfl rfl bh1 hd_size rfl (by simp [Value.oneCell']) ?_) | (refine wpList_stRow rfl rfl rfl rfl rfl bp1 pt_size rfl (by simp [Value.oneCell']) ?_; generalize (((w2.alloc (.cells Z1 71)).alloc (.cells Z0 76)).setRow w2.heap.size (A4 h0 h1 h2 h3 h4 h5)).setRow (w2.heap.size + 1) (A0 pr sr ds fl ki co er isz i1 i2 i3 i4 i5 pat ba) = W4 at *; generalize hgh : w2.heap.size = gh at *; replace hgh := Lib.hid hgh; clear bh1 bp1))
  go_wp2_with (refine wpList_stRow rfl rfl rfl rfl rfl br fl_size rfl (by simp [Value.oneCell']) ?_)
  exact bodyPost_ret (results_row2 rfl _ rfl (br.setRow _) Tryz.underlying87 fl_size) rfl ⟨rfl, below_setRow bel (by omega) _⟩
section
open Go.RowKit Go.Maps
structure Bd where
 fl : Fl
 po : Int
 tr : Int
 se : Int
def Bd.cs (b : Bd) : Array Value := (A12 b.fl.pr b.fl.ad b.fl.po b.po b.tr b.se)
def keyB (c : Cf) (b : Bd) : Int := placeP c b.fl.pr b.po
def Fl.rng (f : Fl) : Prop := inr .i64 f.pr ∧ inr .u32 f.ad ∧ inr .u16 f.po
theorem Fl.z_rng : Fl.z.rng := ⟨i64_inr (by show _ ≤ (0:Int) ∧ (0:Int) ≤ _; omega), u32_inr (by show (0:Int) ≤ 0 ∧ (0:Int) ≤ _; omega), u16_inr (by show (0:Int) ≤ 0 ∧ (0:Int) ≤ _; omega)⟩
def insB (c : Cf) (b : Bd) : List Bd → List Bd
 | [] => [b]
 | y :: r => if keyB c b < keyB c y then b :: y :: r else y :: insB c b r
def cutB (c : Cf) (k : Int) (L : List Bd) : List Bd := L.filter (fun y => !(keyB c y == k))
def putB (c : Cf) (b : Bd) (L : List Bd) : List Bd := insB c b (cutB c (keyB c b) L)
def atB (c : Cf) (k : Int) (L : List Bd) : Option Bd := L.find? (fun y => keyB c y == k)
def ofB (f : Fl) (L : List Bd) : Option Bd := L.find? (fun y => decide (y.fl = f))
def eB (c : Cf) (L : List Bd) : List (Lit × DataW Value) := L.map fun b => (Lit.int .i64 (keyB c b), DataW.held (Value.agg b.cs))
def rdV (v : Value) : Option (DataW Value × List MemPlace) := some (.held v, [])
theorem same_int (a b : Int) : (Lit.int .i64 a).sameKey (Lit.int .i64 b) = (a == b) := by
 rw [Bool.eq_iff_iff]; simp [Lit.sameKey]
theorem before_int (a b : Int) : (Lit.int .i64 a).before (Lit.int .i64 b) = decide (a < b) := by
 simp [Lit.before]
theorem eB_at (c : Cf) (k : Int) (z : DataW Value) : ∀ L : List Bd, (DataW.map (eB c L)).atKey (.int .i64 k) z = match atB c k L with | some b => .held (.agg b.cs) | none => z
 | [] => rfl
 | b :: L => by
  have ih := eB_at c k z L
  unfold DataW.atKey eB atB at ih ⊢
  simp only [List.map_cons, List.find?_cons, same_int] at ih ⊢
  cases h : (keyB c b == k) with
  | true => rfl
  | false => exact ih
theorem eB_has (c : Cf) (k : Int) : ∀ L : List Bd, Maps.has (DataW.map (eB c L)) (.int .i64 k) = (atB c k L).isSome
 | [] => rfl
 | b :: L => by
  have ih := eB_has c k L
  rw [Maps.has_eq] at ih ⊢
  unfold eB atB at ih ⊢
  simp only [List.map_cons, List.any_cons, List.find?_cons, same_int] at ih ⊢
  cases h : (keyB c b == k) with
  | true => rfl
  | false => simpa using ih
theorem eB_ins (c : Cf) (b : Bd) : ∀ L : List Bd, DataW.insert (Lit.int .i64 (keyB c b), DataW.held (Value.agg b.cs)) (eB c L) = eB c (insB c b L)
 | [] => rfl
 | y :: L => by
  have ih := eB_ins c b L
  unfold eB at ih ⊢
  simp only [List.map_cons, DataW.insert, before_int, insB]
  by_cases h : keyB c b < keyB c y
  ·rw [if_pos (by simpa using h), if_pos h]; rfl
  ·rw [if_neg (by simpa using h), if_neg h, List.map_cons]
   rw [ih]
theorem eB_cut (c : Cf) (k : Int) : ∀ L : List Bd, (eB c L).filter (ChangeMaps.notKey (Lit.int .i64 k)) = eB c (cutB c k L)
 | [] => rfl
 | y :: L => by
  have ih := eB_cut c k L
  unfold eB cutB at ih ⊢
  simp only [List.map_cons, List.filter_cons, ChangeMaps.notKey, same_int] at ih ⊢
  cases h : (keyB c y == k) with
  | true => simpa using ih
  | false => simpa using ih
theorem kint : Keyed Tryz.prog 3 := int_keyed Tryz.underlying3
theorem kflow : Keyed Tryz.prog 87 := Keyed.of_law (deep_law_gate laidOut (by decide +kernel) (by decide +kernel) (by kernel_rfl) (by kernel_rfl))
theorem zeroBd (w : World) : (zeroValue 95).run Tryz.prog w = .ok (.agg Z6) w := by kernel_rfl
theorem zeroInt (w : World) : (zeroValue 3).run Tryz.prog w = .ok (.int .i64 0) w := by kernel_rfl
structure PlM (W : World) (c : Cf) (pb n : Nat) (L : List Bd) : Prop where
 own : W.ownsMap Tryz.prog 3 rdV pb n (.map (eB c L))
section
variable {W W' : World} {c : Cf} {pb n : Nat} {L : List Bd}
theorem PlM.lt (h : PlM W c pb n L) : pb < W.heap.size := h.own.lt
theorem PlM.keep (h : PlM W c pb n L) (hb : W'.heap[pb]? = W.heap[pb]?) : PlM W' c pb n L := by
 obtain ⟨es, clock, h1, F1, hs, hD⟩ := h.own
 exact ⟨es, clock, hb.trans h1, F1, hs, hD⟩
theorem PlM.bel (h : PlM W c pb n L) (hb : Below W.heap.size W W') : PlM W' c pb n L := h.keep (hb.block pb h.lt)
theorem PlM.upd {S : Nat → Prop} (h : PlM W c pb n L) (hu : Upd S W W') (hS : ¬ S pb) : PlM W' c pb n L := h.keep (hu.block pb h.lt hS)
theorem PlM.made (W : World) (c : Cf) : PlM (W.alloc (.map #[] 0)) c W.heap.size 0 [] := ⟨World.ownsMap_made W _ _ _⟩
theorem PlM.len (h : PlM W c pb n L) : L.length ≤ n := by
 have := h.own.size_le
 simpa [Maps.size, eB] using this
def lookB (o : Option Bd) : Value := match o with | some b => .tuple #[.agg b.cs, .bool true] | none => .tuple #[.agg Z6, .bool false]
def lookZ (o : Option Bd) : Value := match o with | some b => .agg b.cs | none => .agg Z6
theorem PlM.look (h : PlM W c pb n L) {k : Int} (hk : inr .i64 k) : (Instr.lookup 65 (.map (some pb)) (.int .i64 k) true).run Tryz.prog W = .ok (lookB (atB c k L)) W := by
 have hkey : keyOf Tryz.prog 3 (.int .i64 k) = some (.int .i64 k) := keyOf_int_mk Tryz.underlying3 hk
 obtain ⟨v, ps, hrun, hv⟩ := h.own.look_ok kint Tryz.underlying65 (zeroBd W) (zd := .held (.agg Z6)) rfl hkey
 rw [eB_at, eB_has] at *
 unfold rdV at hv
 rw [hrun]
 cases hf : atB c k L with
 | none =>
  rw [hf] at hv
  simp only [Option.some.injEq, Prod.mk.injEq, DataW.held.injEq] at hv
  rw [hv.1]; rfl
 | some b =>
  rw [hf] at hv
  simp only [Option.some.injEq, Prod.mk.injEq, DataW.held.injEq] at hv
  rw [hv.1]; rfl
theorem PlM.look0 (h : PlM W c pb n L) {k : Int} (hk : inr .i64 k) : (Instr.lookup 65 (.map (some pb)) (.int .i64 k) false).run Tryz.prog W = .ok (lookZ (atB c k L)) W := by
 have hkey : keyOf Tryz.prog 3 (.int .i64 k) = some (.int .i64 k) := keyOf_int_mk Tryz.underlying3 hk
 obtain ⟨v, ps, hrun, hv⟩ := h.own.lookup kint Tryz.underlying65 (zeroBd W) (zd := .held (.agg Z6)) (zp := []) rfl hkey
 rw [eB_at] at hv
 unfold rdV at hv
 rw [hrun]
 cases hf : atB c k L with
 | none =>
  rw [hf] at hv
  simp only [Option.some.injEq, Prod.mk.injEq, DataW.held.injEq] at hv
  rw [hv.1]; rfl
 | some b =>
  rw [hf] at hv
  simp only [Option.some.injEq, Prod.mk.injEq, DataW.held.injEq] at hv
  rw [hv.1]; rfl
theorem PlM.put (h : PlM W c pb n L) (hn : n < 1000000) (b : Bd) (hk : inr .i64 (keyB c b)) : ∃ W', (Instr.mapUpdate 65 (.map (some pb)) (.int .i64 (keyB c b)) (.agg b.cs)).run Tryz.prog W = .ok () W' ∧ PlM W' c pb (n + 1) (putB c b L) ∧ Upd (fun k => k = pb) W W' := by
 have hkey : keyOf Tryz.prog 3 (.int .i64 (keyB c b)) = some (.int .i64 (keyB c b)) := keyOf_int_mk Tryz.underlying3 hk
 obtain ⟨W', hrun, hown, hg⟩ := h.own.update kint Tryz.underlying65 (by unfold maxLen; omega) hkey (val := .agg b.cs) (d := .held (.agg b.cs)) (ps := []) rfl
 refine ⟨W', hrun, ⟨?_⟩, Upd.of_grown hg (fun g e => by injection e with e; exact e.symm)⟩
 have e : (DataW.map (eB c L)).put (.int .i64 (keyB c b)) (.held (.agg b.cs)) = .map (eB c (putB c b L)) := by
  rw [DataW.put_eq]
  unfold ChangeMaps.putKey
  rw [eB_cut, eB_ins]; rfl
 rw [← e]; exact hown
end
def litF (f : Fl) : Lit := .string (keyBytes [.int .i64 f.pr, .int .u32 f.ad, .int .u16 f.po])
theorem keyOf_flow {f : Fl} (h : f.rng) : keyOf Tryz.prog 87 (.agg f.cs) = some (litF f) := by
 obtain ⟨h1, h2, h3⟩ := h
 unfold inr at h1 h2 h3
 obtain ⟨m, hs⟩ : ∃ m, Tryz.prog.types.size = m + 1 := ⟨Tryz.prog.types.size - 1, by kernel_rfl⟩
 have hk : Tryz.prog.keyType 87 = true := by kernel_rfl
 have c0 : Tryz.prog.cellsOf 3 = 1 := by kernel_rfl
 have c1 : Tryz.prog.cellsOf 23 = 1 := by kernel_rfl
 have c2 : Tryz.prog.cellsOf 41 = 1 := by kernel_rfl
 have c3 : Tryz.prog.cellsOf 87 = 3 := by kernel_rfl
 unfold keyOf
 simp only [Tryz.underlying87]
 rw [if_pos (by simp [hk, Value.formed, Tryz.underlying87, c3, Fl.cs]), hs]
 unfold Program.keyLits
 simp only [Tryz.underlying87, Value.cells]
 rw [if_pos (by simp [c3, Fl.cs])]
 simp [Fl.cs, Program.keyLits, Tryz.underlying3, Tryz.underlying23, Tryz.underlying41, c0, c1, c2, h1, h2, h3, litF]
end
section
open Go.RowKit Go.Maps
section
variable {w w' : World} {b n : Nat} {F : Int → Int}
end
section
variable {ops : Array Oper} {rest : List Oper} {o : Oper} {a : Act} {Q : Exit → Act → World → Prop}
end
end
def putF (F : Int → Int) (a n v : Int) : Int → Int := fun k => if a ≤ k ∧ k < a + n then v else F k
def freeF (h : Hd) (p : Pt) (out : Bool) : Int → Int :=
 let f := putF (fun k => if k = 11 then 3 else if k = 10 then 3 else 0) (if out then 12 else 16) 4 1
 if h.proto = 17 then (if p.bare = true then putF f (h.size + (if out then 0 else 2)) 2 2 else putF (putF f (h.size + (if out then 0 else 2)) 2 2) (h.size + 6) 2 3) else
 if h.proto = 6 then putF (putF f (h.size + (if out then 0 else 2)) 2 2) (h.size + 16) 2 3 else
 if p.err = false then putF (putF f (h.size + 4) 2 2) (h.size + 2) 2 3 else
 if p.inner.proto = 17 then putF (putF (putF (putF (putF f (h.size + 2) 2 3) (p.pat + (if out then 16 else 12)) 4 1) (p.pat + 10) 2 3) (p.pat + p.inner.size + (if out then 2 else 0)) 2 2) (p.pat + p.inner.size + 6) 2 3 else
 if p.inner.proto = 6 then putF (putF (putF (putF (putF f (h.size + 2) 2 3) (p.pat + (if out then 16 else 12)) 4 1) (p.pat + 10) 2 3) (p.pat + p.inner.size + (if out then 2 else 0)) 2 2) (p.pat + p.inner.size + 16) 2 3 else
 if p.inner.proto = 1 then putF (putF (putF (putF (putF f (h.size + 2) 2 3) (p.pat + (if out then 16 else 12)) 4 1) (p.pat + 10) 2 3) (p.pat + p.inner.size + 4) 2 2) (p.pat + p.inner.size + 2) 2 3 else
 putF (putF (putF f (h.size + 2) 2 3) (p.pat + (if out then 16 else 12)) 4 1) (p.pat + 10) 2 3
section
open Go.RowKit Go.Maps
theorem litF_inj {f g : Fl} (hf : f.rng) (hg : g.rng) (h : litF f = litF g) : f = g := by
 have h1 := keyOf_flow hf
 have h2 := keyOf_flow hg
 rw [h] at h1
 have h3 := kflow.inj h1 h2
 obtain ⟨f1, f2, f3⟩ := f
 obtain ⟨g1, g2, g3⟩ := g
 simp [Fl.cs] at h3
 obtain ⟨rfl, rfl, rfl⟩ := h3
 rfl
structure FlG (W : World) (fb n : Nat) (G : Fl → Option Int) : Prop where
 ex : ∃ D : DataW Unit, W.ownsMap Tryz.prog 87 (plainElem Tryz.prog 3) fb n D ∧ IsMap D ∧ ∀ f : Fl, f.rng → Maps.has D (litF f) = (G f).isSome ∧ D.atKey (litF f) (.lit (.int .i64 0)) = .lit (.int .i64 ((G f).getD 0))
section
variable {W W' : World} {fb n : Nat} {G G' : Fl → Option Int}
theorem FlG.lt (h : FlG W fb n G) : fb < W.heap.size := by obtain ⟨D, h1, _⟩ := h.ex; exact h1.lt
theorem FlG.keep (h : FlG W fb n G) (hb : W'.heap[fb]? = W.heap[fb]?) : FlG W' fb n G := by
 obtain ⟨D, ⟨es, clock, h1, F1, hs, hD⟩, h2, h3⟩ := h.ex
 exact ⟨D, ⟨es, clock, hb.trans h1, F1, hs, hD⟩, h2, h3⟩
theorem FlG.bel (h : FlG W fb n G) (hb : Below W.heap.size W W') : FlG W' fb n G := h.keep (hb.block fb h.lt)
theorem FlG.upd {S : Nat → Prop} (h : FlG W fb n G) (hu : Upd S W W') (hS : ¬ S fb) : FlG W' fb n G := h.keep (hu.block fb h.lt hS)
theorem FlG.made (W : World) : FlG (W.alloc (.map #[] 0)) W.heap.size 0 (fun _ => none) := ⟨.map [], World.ownsMap_made W _ _ _, isMap_empty, fun f _ => ⟨rfl, rfl⟩⟩
theorem FlG.congr (h : FlG W fb n G) (he : ∀ f, G f = G' f) : FlG W fb n G' := by
 have : G = G' := funext he
 exact this ▸ h
def lookF (o : Option Int) : Value := .tuple #[.int .i64 (o.getD 0), .bool o.isSome]
theorem FlG.look (h : FlG W fb n G) {f : Fl} (hf : f.rng) : (Instr.lookup 66 (.map (some fb)) (.agg f.cs) true).run Tryz.prog W = .ok (lookF (G f)) W := by
 obtain ⟨D, hD, hM, hx⟩ := h.ex
 obtain ⟨v, ps, hrun, hv⟩ := hD.look_ok kflow Tryz.underlying66 (zeroInt W) (zd := .lit (.int .i64 0)) (zp := []) (plainElem_int Tryz.underlying3 (by decide)) (keyOf_flow hf)
 obtain ⟨h1, h2⟩ := hx f hf
 rw [h2] at hv
 obtain ⟨c, rfl, hc, _⟩ := plainElem_int_inv Tryz.underlying3 hv
 simp only [Prod.mk.injEq, DataW.lit.injEq, Lit.int.injEq, true_and] at hc
 rw [hrun, h1, ← hc.1]; rfl
theorem FlG.put (h : FlG W fb n G) (hn : n < 1000000) {f : Fl} (hf : f.rng) {k : Int} (hk : inr .i64 k) : ∃ W', (Instr.mapUpdate 66 (.map (some fb)) (.agg f.cs) (.int .i64 k)).run Tryz.prog W = .ok () W' ∧ FlG W' fb (n + 1) (fun g => if g = f then some k else G g) ∧ Upd (fun j => j = fb) W W' := by
 obtain ⟨D, hD, hM, hx⟩ := h.ex
 obtain ⟨W', hrun, hown, hg⟩ := hD.update kflow Tryz.underlying66 (by unfold maxLen; omega) (keyOf_flow hf) (plainElem_int (H := Unit) Tryz.underlying3 hk)
 refine ⟨W', hrun, ⟨_, hown, hM.put _ _, fun g hgr => ?_⟩, Upd.of_grown hg (fun g e => by injection e with e; exact e.symm)⟩
 by_cases e : g = f
 ·subst e
  rw [if_pos rfl, has_put_same hM (kflow.key (keyOf_flow hf)), atKey_put_same hM (kflow.key (keyOf_flow hf))]
  exact ⟨rfl, rfl⟩
 ·have hne : litF g ≠ litF f := fun h => e (litF_inj hgr hf h)
  rw [if_neg e, has_put_other hne, atKey_put_other hne]
  exact hx g hgr
end
section
variable {P : Program} {ops : Array Oper} {rest : List Oper} {o : Oper} {a : Act} {Q : Exit → Act → World → Prop} {K : Act → World → Prop} {w w' : World}
theorem wp_look {t : TypeId} {m x : Operand} {ok : Bool} (ho : o.op = .lookup t m x ok) {mv xv v : Value} (hm : a.eval m = mv) (hx : a.eval x = xv) (hr : (Instr.lookup t mv xv ok).run P w = .ok v w) (h : K (a.put o.dst v) w) : o.wp P a w K Q := by
 unfold Oper.wp
 simp [execOp, ho, hm, hx, hr, Result.andThen]
 exact h
theorem wpList_look (hg : o.guard = none) {t : TypeId} {m x : Operand} {ok : Bool} (ho : o.op = .lookup t m x ok) {mv xv v : Value} (hm : a.eval m = mv) (hx : a.eval x = xv) (hr : (Instr.lookup t mv xv ok).run P w = .ok v w) (h : wpList P ops Q rest (a.put o.dst v) w) : wpList P ops Q (o :: rest) a w :=
 wpList_plain hg fun _ hK => wp_look ho hm hx hr (hK _ _ h)
theorem wp_upd {t : TypeId} {m x y : Operand} (ho : o.op = .mapUpdate t m x y) {mv xv yv : Value} (hm : a.eval m = mv) (hx : a.eval x = xv) (hy : a.eval y = yv) (hr : (Instr.mapUpdate t mv xv yv).run P w = .ok () w') (h : K (a.put o.dst undef) w') : o.wp P a w K Q := by
 unfold Oper.wp
 simp [execOp, ho, hm, hx, hy, hr, Result.andThen]
 exact h
end
end
section
variable {c : Cf} {L : List Bd} {b b' : Bd} {k : Int}
structure BdOk (c : Cf) (b : Bd) : Prop where
 rng : b.fl.rng
 key : 0 ≤ keyB c b
 tr : 0 ≤ b.tr ∧ b.tr ≤ 4
 se : 0 ≤ b.se ∧ b.se ≤ 4294967295
structure LInv (c : Cf) (L : List Bd) : Prop where
 srt : L.Pairwise fun a b => keyB c a < keyB c b
 ok : ∀ b, b ∈ L → BdOk c b
 dif : ∀ a b, a ∈ L → b ∈ L → a.fl = b.fl → a = b
theorem LInv.nil (c : Cf) : LInv c [] := ⟨List.Pairwise.nil, by simp, by simp⟩
theorem mem_insB {x : Bd} : ∀ L : List Bd, x ∈ insB c b L ↔ x = b ∨ x ∈ L
 | [] => by simp [insB]
 | y :: L => by
  unfold insB
  split
  ·simp
  ·simp only [List.mem_cons, mem_insB L]
   constructor
   ·rintro (h | h | h)
    ·exact .inr (.inl h)
    ·exact .inl h
    ·exact .inr (.inr h)
   ·rintro (h | h | h)
    ·exact .inr (.inl h)
    ·exact .inl h
    ·exact .inr (.inr h)
theorem mem_cutB {x : Bd} : x ∈ cutB c k L ↔ x ∈ L ∧ keyB c x ≠ k := by simp [cutB]
theorem insB_srt : ∀ {L : List Bd}, L.Pairwise (fun a b => keyB c a < keyB c b) → (∀ y, y ∈ L → keyB c y ≠ keyB c b) → (insB c b L).Pairwise fun a b => keyB c a < keyB c b
 | [], _, _ => by simp [insB]
 | y :: L, h, hn => by
  rw [List.pairwise_cons] at h
  unfold insB
  split
  ·rename_i hlt
   refine List.pairwise_cons.2 ⟨fun z hz => ?_, List.pairwise_cons.2 h⟩
   rcases List.mem_cons.1 hz with rfl | hz
   ·exact hlt
   ·have := h.1 z hz; omega
  ·rename_i hlt
   refine List.pairwise_cons.2 ⟨fun z hz => ?_, insB_srt h.2 (fun z hz => hn z (List.mem_cons_of_mem _ hz))⟩
   rcases (mem_insB L).1 hz with rfl | hz
   ·have := hn y (by simp); omega
   ·exact h.1 z hz
theorem cutB_srt (h : L.Pairwise fun a b => keyB c a < keyB c b) : (cutB c k L).Pairwise fun a b => keyB c a < keyB c b := h.filter _
theorem cutB_none (h : ∀ y, y ∈ L → keyB c y ≠ k) : cutB c k L = L := by
 unfold cutB
 rw [List.filter_eq_self]
 intro y hy
 simpa using h y hy
theorem LInv.key_inj (h : LInv c L) {a b : Bd} (ha : a ∈ L) (hb : b ∈ L) (e : keyB c a = keyB c b) : a = b := by
 have := h.srt
 clear h
 induction L with
 | nil => simp at ha
 | cons y L ih =>
  rw [List.pairwise_cons] at this
  rcases List.mem_cons.1 ha with ha1 | ha1
  ·rcases List.mem_cons.1 hb with hb1 | hb1
   ·rw [ha1, hb1]
   ·have := this.1 b hb1; rw [← ha1] at this; omega
  ·rcases List.mem_cons.1 hb with hb1 | hb1
   ·have := this.1 a ha1; rw [← hb1] at this; omega
   ·exact ih ha1 hb1 this.2
theorem atB_some (h : atB c k L = some b) : b ∈ L ∧ keyB c b = k := by
 unfold atB at h
 exact ⟨List.mem_of_find?_eq_some h, by simpa using List.find?_some h⟩
theorem atB_none (h : atB c k L = none) : ∀ y, y ∈ L → keyB c y ≠ k := by
 unfold atB at h
 rw [List.find?_eq_none] at h
 intro y hy
 simpa using h y hy
theorem atB_of (h : LInv c L) (hb : b ∈ L) : atB c (keyB c b) L = some b := by
 cases hf : atB c (keyB c b) L with
 | none => exact absurd rfl (atB_none hf b hb)
 | some x =>
  obtain ⟨h1, h2⟩ := atB_some hf
  rw [h.key_inj h1 hb h2]
theorem ofB_some {f : Fl} (h : ofB f L = some b) : b ∈ L ∧ b.fl = f := by
 unfold ofB at h
 exact ⟨List.mem_of_find?_eq_some h, by simpa using List.find?_some h⟩
theorem ofB_none {f : Fl} (h : ofB f L = none) : ∀ y, y ∈ L → y.fl ≠ f := by
 unfold ofB at h
 rw [List.find?_eq_none] at h
 intro y hy
 simpa using h y hy
theorem ofB_of (h : LInv c L) (hb : b ∈ L) : ofB b.fl L = some b := by
 cases hf : ofB b.fl L with
 | none => exact absurd rfl (ofB_none hf b hb)
 | some x =>
  obtain ⟨h1, h2⟩ := ofB_some hf
  rw [h.dif x b h1 hb h2]
theorem mem_putB {x : Bd} : x ∈ putB c b L ↔ x = b ∨ (x ∈ L ∧ keyB c x ≠ keyB c b) := by
 unfold putB
 rw [mem_insB, mem_cutB]
theorem LInv.put_old (h : LInv c L) (hb : b ∈ L) (hf : b'.fl = b.fl) (hp : b'.po = b.po) (ho : BdOk c b') : LInv c (putB c b' L) := by
 have hk : keyB c b' = keyB c b := by unfold keyB; rw [hf, hp]
 refine ⟨insB_srt (cutB_srt h.srt) (fun y hy => (mem_cutB.1 hy).2), fun x hx => ?_, fun x y hx hy e => ?_⟩
 ·rcases mem_putB.1 hx with rfl | ⟨hx, _⟩
  ·exact ho
  ·exact h.ok x hx
 ·rcases mem_putB.1 hx with hx1 | ⟨hx1, hxk⟩
  ·rcases mem_putB.1 hy with hy1 | ⟨hy1, hyk⟩
   ·rw [hx1, hy1]
   ·have := h.dif y b hy1 hb (by rw [← e, hx1, hf])
    exact absurd (by rw [this, hk]) hyk
  ·rcases mem_putB.1 hy with hy1 | ⟨hy1, hyk⟩
   ·have := h.dif x b hx1 hb (by rw [e, hy1, hf])
    exact absurd (by rw [this, hk]) hxk
   ·exact h.dif x y hx1 hy1 e
theorem LInv.put_new (h : LInv c L) (hk : ∀ y, y ∈ L → keyB c y ≠ keyB c b) (hf : ∀ y, y ∈ L → y.fl ≠ b.fl) (ho : BdOk c b) : LInv c (putB c b L) := by
 refine ⟨insB_srt (cutB_srt h.srt) (fun y hy => (mem_cutB.1 hy).2), fun x hx => ?_, fun x y hx hy e => ?_⟩
 ·rcases mem_putB.1 hx with rfl | ⟨hx, _⟩
  ·exact ho
  ·exact h.ok x hx
 ·rcases mem_putB.1 hx with hx1 | ⟨hx1, hxk⟩
  ·rcases mem_putB.1 hy with hy1 | ⟨hy1, hyk⟩
   ·rw [hx1, hy1]
   ·exact absurd (by rw [← e, hx1]) (hf y hy1)
  ·rcases mem_putB.1 hy with hy1 | ⟨hy1, hyk⟩
   ·exact absurd (by rw [e, hy1]) (hf x hx1)
   ·exact h.dif x y hx1 hy1 e
def plOf (c : Cf) (L : List Bd) (f : Fl) : Option Int := (ofB f L).map (keyB c)
theorem plOf_some (h : LInv c L) {f : Fl} : plOf c L f = some k ↔ ∃ b, b ∈ L ∧ b.fl = f ∧ keyB c b = k := by
 unfold plOf
 constructor
 ·intro e
  cases hf : ofB f L with
  | none => rw [hf] at e; cases e
  | some x =>
   rw [hf] at e
   obtain ⟨h1, h2⟩ := ofB_some hf
   exact ⟨x, h1, h2, by simpa using e⟩
 ·rintro ⟨b, hb, rfl, rfl⟩
  rw [ofB_of h hb]; rfl
theorem plOf_ext {L L' : List Bd} (h : LInv c L) {G : Option Int} {f : Fl} (he : ∀ k, (∃ b, b ∈ L ∧ b.fl = f ∧ keyB c b = k) ↔ G = some k) : plOf c L f = G := by
 cases hg : G with
 | some k => exact (plOf_some h).2 ((he k).2 hg)
 | none =>
  cases hp : plOf c L f with
  | none => rfl
  | some k => have := (he k).1 ((plOf_some h).1 hp); rw [hg] at this; cases this
theorem plOf_put_old (h : LInv c L) (hb : b ∈ L) (hf : b'.fl = b.fl) (hp : b'.po = b.po) (ho : BdOk c b') (f : Fl) : plOf c (putB c b' L) f = plOf c L f := by
 have hk : keyB c b' = keyB c b := by unfold keyB; rw [hf, hp]
 refine plOf_ext (L' := L) (h.put_old hb hf hp ho) fun k => ?_
 rw [plOf_some h]
 constructor
 ·rintro ⟨x, hx, rfl, rfl⟩
  rcases mem_putB.1 hx with rfl | ⟨hx, _⟩
  ·exact ⟨b, hb, hf.symm, hk.symm⟩
  ·exact ⟨x, hx, rfl, rfl⟩
 ·rintro ⟨x, hx, rfl, rfl⟩
  by_cases e : keyB c x = keyB c b'
  ·have := h.key_inj hx hb (e.trans hk)
   subst this
   exact ⟨b', mem_putB.2 (.inl rfl), hf, hk⟩
  ·exact ⟨x, mem_putB.2 (.inr ⟨hx, e⟩), rfl, rfl⟩
theorem plOf_put_new (h : LInv c L) (hk : ∀ y, y ∈ L → keyB c y ≠ keyB c b) (hf : ∀ y, y ∈ L → y.fl ≠ b.fl) (ho : BdOk c b) (f : Fl) : plOf c (putB c b L) f = if f = b.fl then some (keyB c b) else plOf c L f := by
 refine plOf_ext (L' := L) (h.put_new hk hf ho) fun k => ?_
 by_cases e : f = b.fl
 ·subst e
  rw [if_pos rfl]
  constructor
  ·rintro ⟨x, hx, hxf, rfl⟩
   rcases mem_putB.1 hx with rfl | ⟨hx, _⟩
   ·rfl
   ·exact absurd hxf (hf x hx)
  ·intro e; injection e with e
   exact ⟨b, mem_putB.2 (.inl rfl), rfl, e⟩
 ·rw [if_neg e, plOf_some h]
  constructor
  ·rintro ⟨x, hx, hxf, rfl⟩
   rcases mem_putB.1 hx with rfl | ⟨hx, _⟩
   ·exact absurd hxf.symm e
   ·exact ⟨x, hx, hxf, rfl⟩
  ·rintro ⟨x, hx, hxf, rfl⟩
   exact ⟨x, mem_putB.2 (.inr ⟨hx, hk x hx⟩), hxf, rfl⟩
end
section
open Go.RowKit Go.Maps
theorem nxt_bd (p st : Int) (o r f s k : Bool) (h : 0 ≤ st ∧ st ≤ 4) : 0 ≤ nxt p st o r f s k ∧ nxt p st o r f s k ≤ 4 := by
 unfold nxt endd
 have := clampS_bd st
 repeat' split
 all_goals omega
structure NatM (W : World) (c : Cf) (gn pb fm np nf : Nat) (L : List Bd) : Prop where
 obj : Blk W gn 68 (A14 c.wk c.ou c.lo c.hi c.bk c.rg (some pb) (some fm))
 pl : PlM W c pb np L
 fl : FlG W fm nf (plOf c L)
 ne : pb ≠ fm
 inv : LInv c L
section
variable {W W' : World} {c : Cf} {gn pb fm np nf : Nat} {L : List Bd}
theorem NatM.bel_ (h : NatM W c gn pb fm np nf L) (hb : Below W.heap.size W W') : NatM W' c gn pb fm np nf L := ⟨h.obj.bel hb, h.pl.bel hb, h.fl.bel hb, h.ne, h.inv⟩
theorem NatM.drew (h : NatM W c gn pb fm np nf L) : NatM W.drew c gn pb fm np nf L := h.bel_ (Below.refl _ _).drew
theorem NatM.alloc (h : NatM W c gn pb fm np nf L) (o : Obj) : NatM (W.alloc o) c gn pb fm np nf L := h.bel_ (bel_alloc _ _)
theorem PlM.notBlk (h : PlM W c pb np L) {g : Nat} {t : TypeId} {cs : Array Value} (hb : Blk W g t cs) : g ≠ pb := fun e => by
 obtain ⟨es, clock, h1, _⟩ := h.own
 have h2 : W.heap[g]? = some (.cells cs t (0, 0)) := hb
 rw [e, h1] at h2
 cases h2
theorem FlG.notBlk {G : Fl → Option Int} (h : FlG W fm nf G) {g : Nat} {t : TypeId} {cs : Array Value} (hb : Blk W g t cs) : g ≠ fm := fun e => by
 obtain ⟨D, ⟨es, clock, h1, _⟩, _⟩ := h.ex
 have h2 : W.heap[g]? = some (.cells cs t (0, 0)) := hb
 rw [e, h1] at h2
 cases h2
end
theorem bd_size : (Tryz.prog.info? 95).map (·.size) = some 6 := by kernel_rfl
theorem ml_size : (Tryz.prog.info? 50).map (·.size) = some 4 := by kernel_rfl
def NewR (w : World) (c : Cf) (e : Ending) (w' : World) : Prop := ∃ gn pb fm, e = .returned (.tuple #[.pointer (some ⟨gn, 0, none⟩), .int .i64 0]) ∧ NatM w' c gn pb fm 0 0 [] ∧ Below w.heap.size w w' ∧ w.heap.size ≤ gn ∧ w.heap.size ≤ pb ∧ w.heap.size ≤ fm
theorem New_ok (c : Cf) (w : World) (hc : c.ok) : Calls Tryz.prog 5 #[.agg (A8 c.wk c.ou c.lo c.hi c.bk c.rg)] w (NewR w c) := by
 have kw := fun W => Wrong_ok c W hc
 replace kw := Lib.hid kw
 go_enter Tryz.func5, Tryz.ntmps5
 go_upto_region 1 with fail
 have bx := Blk.new w 31 (A8 c.wk c.ou c.lo c.hi c.bk c.rg)
 have bel := bel_alloc w (.cells (A8 c.wk c.ou c.lo c.hi c.bk c.rg) 31)
 generalize w.alloc (.cells (A8 c.wk c.ou c.lo c.hi c.bk c.rg) 31) = W at *
 go_wp2_with (refine wpList_ldRow rfl rfl rfl bx Tryz.underlying31 cf_size ?_)
 refine (kw.out _).mono ?_
 rintro e w2 ⟨rfl, hb⟩
 replace bx := bx.bel hb
 replace bel := bel_after bel hb
 have hmm := @run_makeMap Tryz.prog
 have hp := PlM.made w2 c
 have hf := FlG.made (w2.alloc (.map #[] 0))
 rw [show (w2.alloc (.map #[] 0)).heap.size = w2.heap.size + 1 by simp] at hf
 replace hp := hp.bel (bel_alloc (w2.alloc (.map #[] 0)) (.map #[] 0))
 have bel2 : Below w.heap.size w ((w2.alloc (.map #[] 0)).alloc (.map #[] 0)) := (bel.alloc bel.size _).alloc (by simp; have := bel.size; omega) _
 have hsz := bel.size
 go_wp2_with (refine wpList_ldRow rfl rfl rfl bx Tryz.underlying31 cf_size ?_)
 go_ret2
 have ho := Blk.new ((w2.alloc (.map #[] 0)).alloc (.map #[] 0)) 68 (A14 c.wk c.ou c.lo c.hi c.bk c.rg (some w2.heap.size) (some (w2.heap.size + 1)))
 have bel3 := bel2.alloc (by simp; omega) (.cells (A14 c.wk c.ou c.lo c.hi c.bk c.rg (some w2.heap.size) (some (w2.heap.size + 1))) 68)
 rw [show ((w2.alloc (.map #[] 0)).alloc (.map #[] 0)).heap.size = w2.heap.size + 1 + 1 by simp] at ho
 exact ⟨_, _, _, rfl, ⟨ho, hp.bel (bel_alloc _ _), (hf.bel (bel_alloc _ _)).congr (fun f => rfl), by omega, LInv.nil c⟩, bel3, by omega, by omega, by omega⟩
def seenB (b : Bd) (p : Pt) (out : Bool) (tick : Int) : Bd :=
 { b with tr := nxt p.proto b.tr out (fb p.flags 4) (fb p.flags 1) (fb p.flags 2) (fb p.flags 16), se := if renewsS p.proto out = true then (if b.se < tick then tick else b.se) else b.se }
theorem seenB_ok {c : Cf} {b : Bd} (h : BdOk c b) (p : Pt) (out : Bool) {tick : Int} (ht : 0 ≤ tick ∧ tick ≤ 4294967295) : BdOk c (seenB b p out tick) :=
 ⟨h.rng, h.key, nxt_bd _ _ _ _ _ _ _ h.tr, by
  show 0 ≤ (if renewsS p.proto out = true then (if b.se < tick then tick else b.se) else b.se) ∧ _ ≤ (4294967295 : Int)
  have := h.se
  show 0 ≤ (if renewsS p.proto out = true then (if b.se < tick then tick else b.se) else b.se) ∧ (if renewsS p.proto out = true then (if b.se < tick then tick else b.se) else b.se) ≤ (4294967295 : Int)
  split
  ·split <;> omega
  ·omega⟩
def SeenR (w : World) (c : Cf) (gn pb fm np nf : Nat) (L : List Bd) (e : Ending) (w' : World) : Prop := e = .returned (.tuple #[]) ∧ NatM w' c gn pb fm np nf L ∧ Upd (fun k => k = pb) w w'
end
theorem Begins2_any (out : Bool) (l : List Int) (A : Option Addr) (len c : Nat) (w : World) (hr : Rd .u8 w w.heap.size A len l) (hlc : len ≤ c) (hcm : c ≤ 9223372036854775807) (hl : len ≤ 60000) :
  Calls Tryz.prog 55 #[.bool out, .slice A len c] w fun e w' => e = .returned (.bool (begP out l)) ∧ Below w.heap.size w w' := by
 have k1 := fun W (h : Below w.heap.size w W) => read_any l A len c W ((hr.below h).more h.size) hlc hcm hl
 unfold begP
 unfold ReadR at k1
 clear hr
 generalize rdE l = E at *
 generalize rdP l = p at *
 generalize rdH l = h at *
 obtain ⟨h0, h1, h2, h3, h4, h5⟩ := h
 obtain ⟨pr, sr, ds, fl, ki, co, er, ⟨isz, i1, i2, i3, i4, i5⟩, pat, ba⟩ := p
 simp only [Hd.val, Pt.val] at k1 ⊢
 have kb := fun W => Begins_any pr ki fl W
 generalize beginsS pr ki fl = B at *
 replace k1 := Lib.hid k1
 replace kb := Lib.hid kb
 cases out with
 | false =>
  simp only [Bool.false_and]
  go_enter Tryz.func55, Tryz.ntmps55
  have bel := Below.refl w.heap.size w
  go_wp2_with fail
  refine (k1.out _ bel).mono ?_
  rintro e w2 ⟨rfl, hb⟩
  replace bel := bel_after bel hb
  clear hb k1
  have bh1 := (Blk.new w2 71 Z1).alloc (.cells Z0 76)
  have bp1 := Blk.new (w2.alloc (.cells Z1 71)) 76 Z0
  rw [show (w2.alloc (.cells Z1 71)).heap.size = w2.heap.size + 1 by simp] at bp1
  replace bp1 := bp1.setRow_far (g' := w2.heap.size) (by omega) (A4 h0 h1 h2 h3 h4 h5)
  have bp := bp1.setRow (A0 pr sr ds fl ki co er isz i1 i2 i3 i4 i5 pat ba)
  replace bel := below_setRow (g := w2.heap.size + 1) (below_setRow (((bel.alloc bel.size (.cells Z1 71)).alloc (by simp; have := bel.size; omega) (.cells Z0 76))) bel.size (A4 h0 h1 h2 h3 h4 h5)) (by have := bel.size; omega) (A0 pr sr ds fl ki co er isz i1 i2 i3 i4 i5 pat ba)
  go_upto_region 2 with (first | (refine wpList_stRow rfl rfl rfl rfl rfl bh1 hd_size rfl (by simp [Value.oneCell']) ?_) | (refine wpList_stRow rfl rfl rfl rfl rfl bp1 pt_size rfl (by simp [Value.oneCell']) ?_; generalize (((w2.alloc (.cells Z1 71)).alloc (.cells Z0 76)).setRow w2.heap.size (A4 h0 h1 h2 h3 h4 h5)).setRow (w2.heap.size + 1) (A0 pr sr ds fl ki co er isz i1 i2 i3 i4 i5 pat ba) = W4 at *; generalize w2.heap.size = gh at *; clear bh1 bp1))
  have p0 := bp.cell 0
  have p3 := bp.cell 3
  have p4 := bp.cell 4
  have p6 := bp.cell 6
  go_wp2_with fail
  go_ret
  exact ⟨rfl, bel⟩
 | true =>
  by_cases hE : E = 0
  ·subst hE
   cases er with
   | true =>
    simp only [Bool.not_true, Bool.and_false, Bool.false_and]
    go_enter Tryz.func55, Tryz.ntmps55
    have bel := Below.refl w.heap.size w
    go_wp2_with fail
    refine (k1.out _ bel).mono ?_
    rintro e w2 ⟨rfl, hb⟩
    replace bel := bel_after bel hb
    clear hb k1
    have bh1 := (Blk.new w2 71 Z1).alloc (.cells Z0 76)
    have bp1 := Blk.new (w2.alloc (.cells Z1 71)) 76 Z0
    rw [show (w2.alloc (.cells Z1 71)).heap.size = w2.heap.size + 1 by simp] at bp1
    replace bp1 := bp1.setRow_far (g' := w2.heap.size) (by omega) (A4 h0 h1 h2 h3 h4 h5)
    have bp := bp1.setRow (A0 pr sr ds fl ki co true isz i1 i2 i3 i4 i5 pat ba)
    replace bel := below_setRow (g := w2.heap.size + 1) (below_setRow (((bel.alloc bel.size (.cells Z1 71)).alloc (by simp; have := bel.size; omega) (.cells Z0 76))) bel.size (A4 h0 h1 h2 h3 h4 h5)) (by have := bel.size; omega) (A0 pr sr ds fl ki co true isz i1 i2 i3 i4 i5 pat ba)
    go_upto_region 2 with (first | (refine wpList_stRow rfl rfl rfl rfl rfl bh1 hd_size rfl (by simp [Value.oneCell']) ?_) | (refine wpList_stRow rfl rfl rfl rfl rfl bp1 pt_size rfl (by simp [Value.oneCell']) ?_; generalize (((w2.alloc (.cells Z1 71)).alloc (.cells Z0 76)).setRow w2.heap.size (A4 h0 h1 h2 h3 h4 h5)).setRow (w2.heap.size + 1) (A0 pr sr ds fl ki co true isz i1 i2 i3 i4 i5 pat ba) = W4 at *; generalize w2.heap.size = gh at *; clear bh1 bp1))
    have p0 := bp.cell 0
    have p3 := bp.cell 3
    have p4 := bp.cell 4
    have p6 := bp.cell 6
    go_wp2_with fail
    go_ret
    exact ⟨rfl, bel⟩
   | false =>
    simp only [Bool.not_false, Bool.and_true, Bool.true_and, BEq.rfl]
    go_enter Tryz.func55, Tryz.ntmps55
    have bel := Below.refl w.heap.size w
    go_wp2_with fail
    refine (k1.out _ bel).mono ?_
    rintro e w2 ⟨rfl, hb⟩
    replace bel := bel_after bel hb
    clear hb k1
    have bh1 := (Blk.new w2 71 Z1).alloc (.cells Z0 76)
    have bp1 := Blk.new (w2.alloc (.cells Z1 71)) 76 Z0
    rw [show (w2.alloc (.cells Z1 71)).heap.size = w2.heap.size + 1 by simp] at bp1
    replace bp1 := bp1.setRow_far (g' := w2.heap.size) (by omega) (A4 h0 h1 h2 h3 h4 h5)
    have bp := bp1.setRow (A0 pr sr ds fl ki co false isz i1 i2 i3 i4 i5 pat ba)
    replace bel := below_setRow (g := w2.heap.size + 1) (below_setRow (((bel.alloc bel.size (.cells Z1 71)).alloc (by simp; have := bel.size; omega) (.cells Z0 76))) bel.size (A4 h0 h1 h2 h3 h4 h5)) (by have := bel.size; omega) (A0 pr sr ds fl ki co false isz i1 i2 i3 i4 i5 pat ba)
    go_upto_region 2 with (first | (refine wpList_stRow rfl rfl rfl rfl rfl bh1 hd_size rfl (by simp [Value.oneCell']) ?_) | (refine wpList_stRow rfl rfl rfl rfl rfl bp1 pt_size rfl (by simp [Value.oneCell']) ?_; generalize (((w2.alloc (.cells Z1 71)).alloc (.cells Z0 76)).setRow w2.heap.size (A4 h0 h1 h2 h3 h4 h5)).setRow (w2.heap.size + 1) (A0 pr sr ds fl ki co false isz i1 i2 i3 i4 i5 pat ba) = W4 at *; generalize w2.heap.size = gh at *; clear bh1 bp1))
    have p0 := bp.cell 0
    have p3 := bp.cell 3
    have p4 := bp.cell 4
    have p6 := bp.cell 6
    go_wp2_with fail
    refine (kb.out _).mono ?_
    rintro e w' ⟨rfl, rfl⟩
    go_wp2_with fail
    go_ret
    exact ⟨rfl, bel⟩
  ·have d1 : (E == 0) = false := by simpa using hE
   rw [d1]
   simp only [Bool.and_false, Bool.false_and]
   clear hE
   go_enter Tryz.func55, Tryz.ntmps55
   have bel := Below.refl w.heap.size w
   go_wp2_with fail
   refine (k1.out _ bel).mono ?_
   rintro e w2 ⟨rfl, hb⟩
   replace bel := bel_after bel hb
   clear hb k1
   have bh1 := (Blk.new w2 71 Z1).alloc (.cells Z0 76)
   have bp1 := Blk.new (w2.alloc (.cells Z1 71)) 76 Z0
   rw [show (w2.alloc (.cells Z1 71)).heap.size = w2.heap.size + 1 by simp] at bp1
   replace bp1 := bp1.setRow_far (g' := w2.heap.size) (by omega) (A4 h0 h1 h2 h3 h4 h5)
   have bp := bp1.setRow (A0 pr sr ds fl ki co er isz i1 i2 i3 i4 i5 pat ba)
   replace bel := below_setRow (g := w2.heap.size + 1) (below_setRow (((bel.alloc bel.size (.cells Z1 71)).alloc (by simp; have := bel.size; omega) (.cells Z0 76))) bel.size (A4 h0 h1 h2 h3 h4 h5)) (by have := bel.size; omega) (A0 pr sr ds fl ki co er isz i1 i2 i3 i4 i5 pat ba)
   go_upto_region 2 with (first | (refine wpList_stRow rfl rfl rfl rfl rfl bh1 hd_size rfl (by simp [Value.oneCell']) ?_) | (refine wpList_stRow rfl rfl rfl rfl rfl bp1 pt_size rfl (by simp [Value.oneCell']) ?_; generalize (((w2.alloc (.cells Z1 71)).alloc (.cells Z0 76)).setRow w2.heap.size (A4 h0 h1 h2 h3 h4 h5)).setRow (w2.heap.size + 1) (A0 pr sr ds fl ki co er isz i1 i2 i3 i4 i5 pat ba) = W4 at *; generalize w2.heap.size = gh at *; clear bh1 bp1))
   have p0 := bp.cell 0
   have p3 := bp.cell 3
   have p4 := bp.cell 4
   have p6 := bp.cell 6
   go_wp2_with fail
   go_ret
   exact ⟨rfl, bel⟩
section
open Go.RowKit Go.Maps
theorem keyB_rng {c : Cf} (hc : c.ok) (b : Bd) : inr .i64 (keyB c b) := by
 unfold keyB placeP
 have h1 := kindP_bd b.fl.pr
 have h2 := hc.lo
 have h3 := hc.hi
 split
 ·exact i64_inr (by omega)
 ·rename_i h
  have h4 : kindP b.fl.pr = 0 ∨ kindP b.fl.pr = 1 ∨ kindP b.fl.pr = 2 := by omega
  unfold Cf.n
  rcases h4 with h4 | h4 | h4 <;> rw [h4] <;> exact i64_inr (by omega)
theorem seen_err (c : Cf) (gn pb fm np nf : Nat) (L : List Bd) (at_ : Int) (ou : Bool) (xA : Option Addr) (xn xc : Nat) (ti po : Int) (p : Pt) (w : World) (hm : NatM w c gn pb fm np nf L) (he : p.err = true) :
  Calls Tryz.prog 28 #[.pointer (some ⟨gn, 0, none⟩), .int .i64 at_, .agg (A9 ou xA xn xc ti po), p.val] w (SeenR w c gn pb fm np nf L) := by
 obtain ⟨pr, sr, ds, fl, ki, co, er, ⟨isz, i1, i2, i3, i4, i5⟩, pat, ba⟩ := p
 simp only at he
 subst he
 simp only [Pt.val]
 go_enter Tryz.func28, Tryz.ntmps28
 go_upto_region 1 with fail
 have bp := Blk.new (w.alloc (.cells (A9 ou xA xn xc ti po) 50)) 76 (A0 pr sr ds fl ki co true isz i1 i2 i3 i4 i5 pat ba)
 rw [show (w.alloc (.cells (A9 ou xA xn xc ti po) 50)).heap.size = w.heap.size + 1 by simp] at bp
 have bel : Below w.heap.size w ((w.alloc (.cells (A9 ou xA xn xc ti po) 50)).alloc (.cells (A0 pr sr ds fl ki co true isz i1 i2 i3 i4 i5 pat ba) 76)) := (bel_alloc _ _).alloc (by simp) _
 generalize (w.alloc (.cells (A9 ou xA xn xc ti po) 50)).alloc (.cells (A0 pr sr ds fl ki co true isz i1 i2 i3 i4 i5 pat ba) 76) = W at *
 have p6 := bp.cell 6
 go_wp2_with fail
 go_end0
 exact ⟨rfl, hm.bel_ bel, Upd.of_below bel _⟩
theorem seen_any (c : Cf) (gn pb fm np nf : Nat) (L : List Bd) (b : Bd) (ou : Bool) (xA : Option Addr) (xn xc : Nat) (ti po : Int) (p : Pt) (w : World) (hm : NatM w c gn pb fm np nf L) (hc : c.ok) (hb : b ∈ L) (hn : np < 900000) (ht : 0 ≤ ti ∧ ti ≤ 4294967295) (he : p.err = false) :
  Calls Tryz.prog 28 #[.pointer (some ⟨gn, 0, none⟩), .int .i64 (keyB c b), .agg (A9 ou xA xn xc ti po), p.val] w (SeenR w c gn pb fm (np + 1) nf (putB c (seenB b p ou ti) L)) := by
 have hok := hm.inv.ok b hb
 have hok2 := seenB_ok hok p ou ht
 have hinv := hm.inv.put_old hb (b' := seenB b p ou ti) rfl rfl hok2
 have hpl := fun f => plOf_put_old hm.inv hb (b' := seenB b p ou ti) rfl rfl hok2 f
 have hat := atB_of hm.inv hb
 have hkr := keyB_rng hc b
 have hkk : keyB c (seenB b p ou ti) = keyB c b := rfl
 have kn := fun W => Next_any p.proto b.tr ou p.flags W
 have kr := fun W => Renews_any p.proto ou W
 obtain ⟨S, hS⟩ : ∃ S, seenB b p ou ti = S := ⟨_, rfl⟩
 have hScs : S.cs = (A12 b.fl.pr b.fl.ad b.fl.po b.po (nxt p.proto b.tr ou (fb p.flags 4) (fb p.flags 1) (fb p.flags 2) (fb p.flags 16)) (if renewsS p.proto ou = true then (if b.se < ti then ti else b.se) else b.se)) := by rw [← hS]; rfl
 rw [hS] at hinv hpl hkk ⊢
 clear hS hok hok2
 obtain ⟨k, hk⟩ : ∃ k, keyB c b = k := ⟨_, rfl⟩
 rw [hk] at hat hkr hkk ⊢
 have hlk : lookZ (atB c k L) = .agg b.cs := by rw [hat]; rfl
 clear hk hat
 obtain ⟨⟨b0, b1, b2⟩, b3, b4, b5⟩ := b
 obtain ⟨pr, sr, ds, fl, ki, co, er, ⟨isz, i1, i2, i3, i4, i5⟩, pat, ba⟩ := p
 simp only at he
 subst he
 simp only [Pt.val, Bd.cs] at *
 generalize nxt pr b4 ou (fb fl 4) (fb fl 1) (fb fl 2) (fb fl 16) = nx at *
 generalize hrn : renewsS pr ou = rn at *
 clear hrn
 have q1 := hm.obj.cell 6
 have hgl := hm.obj.lt
 have hob := hm.obj
 replace hinv := Lib.hid hinv
 replace hpl := Lib.hid hpl
 replace hScs := Lib.hid hScs
 replace hlk := Lib.hid hlk
 replace hkk := Lib.hid hkk
 replace kn := Lib.hid kn
 replace kr := Lib.hid kr
 go_enter Tryz.func28, Tryz.ntmps28
 go_upto_region 1 with fail
 have bx := (Blk.new w 50 (A9 ou xA xn xc ti po)).alloc (.cells (A0 pr sr ds fl ki co false isz i1 i2 i3 i4 i5 pat ba) 76)
 have bp := Blk.new (w.alloc (.cells (A9 ou xA xn xc ti po) 50)) 76 (A0 pr sr ds fl ki co false isz i1 i2 i3 i4 i5 pat ba)
 rw [show (w.alloc (.cells (A9 ou xA xn xc ti po) 50)).heap.size = w.heap.size + 1 by simp] at bp
 have bel : Below w.heap.size w ((w.alloc (.cells (A9 ou xA xn xc ti po) 50)).alloc (.cells (A0 pr sr ds fl ki co false isz i1 i2 i3 i4 i5 pat ba) 76)) := (bel_alloc _ _).alloc (by simp) _
 generalize (w.alloc (.cells (A9 ou xA xn xc ti po) 50)).alloc (.cells (A0 pr sr ds fl ki co false isz i1 i2 i3 i4 i5 pat ba) 76) = W at *
 have hM := hm.bel_ bel
 clear q1 hob
 have q6 := hM.obj.cell 6
 have p6 := bp.cell 6
 have hlt := bp.lt
 have bb := (Blk.new W 95 Z6).setRow (A12 b0 b1 b2 b3 b4 b5)
 have belb : Below W.heap.size W ((W.alloc (.cells Z6 95)).setRow W.heap.size (A12 b0 b1 b2 b3 b4 b5)) := below_setRow (bel_alloc W _) (Nat.le_refl _) _
 have hM2 := hM.bel_ belb
 have bx2 := bx.bel belb
 have bp2 := bp.bel belb
 have bel2 := bel_after bel belb
 have hgb0 : w.heap.size + 1 < W.heap.size := bp.lt
 have hlook := hM.pl.look0 hkr
 rw [hlk.out] at hlook
 go_upto_region 3 with (first
  | (refine wpList_look rfl rfl rfl rfl hlook ?_)
  | (refine wpList_stRow rfl rfl rfl rfl rfl (Blk.new W _ _) bd_size rfl (by simp [Value.oneCell']) ?_; generalize (W.alloc (.cells Z6 95)).setRow W.heap.size (A12 b0 b1 b2 b3 b4 b5) = W2 at *; generalize W.heap.size = gb at *))
 clear hlook q6 p6 hM bx bp bel belb hlt
 have x0 := bx2.cell 0
 have p0 := bp2.cell 0
 have p3 := bp2.cell 3
 have c4 := bb.cell 4
 have f4 := bb.frozen 4
 go_wp2_with fail
 refine (kn.out _).mono ?_
 rintro e w' ⟨rfl, rfl⟩
 go_upto_region 4 with fail
 clear x0 p0 p3 c4 f4 kn
 have hu := Upd.one W2 gb 4 (.int .i64 nx)
 have hM3 : NatM (W2.setCell ⟨gb, 4, none⟩ (.int .i64 nx)) c gn pb fm np nf L := ⟨hM2.obj.upd hu (fun e => by have := hM2.obj; rw [e] at this; have h2 : W2.heap[gb]? = _ := this; rw [show W2.heap[gb]? = _ from bb] at h2; cases h2), hM2.pl.upd hu (fun e => hM2.pl.notBlk bb e.symm), hM2.fl.upd hu (fun e => hM2.fl.notBlk bb e.symm), hM2.ne, hM2.inv⟩
 have bel3 := bel2.setCell (p := ⟨gb, 4, none⟩) (by show w.heap.size ≤ gb; omega) (.int .i64 nx)
 have bx3 := bx2.far (p := ⟨gb, 4, none⟩) (by show w.heap.size ≠ gb; omega) (.int .i64 nx)
 have bp3 := bp2.far (p := ⟨gb, 4, none⟩) (by show w.heap.size + 1 ≠ gb; omega) (.int .i64 nx)
 have bb3 : Blk (W2.setCell ⟨gb, 4, none⟩ (.int .i64 nx)) gb 95 (A12 b0 b1 b2 b3 nx b5) := bb.set_ 4 (.int .i64 nx)
 clear hu hM2 bel2 bx2 bp2 bb
 generalize W2.setCell ⟨gb, 4, none⟩ (.int .i64 nx) = W3 at *
 have x0 := bx3.cell 0
 have p0 := bp3.cell 0
 go_wp2_with fail
 refine (kr.out _).mono ?_
 rintro e w' ⟨rfl, rfl⟩
 clear x0 p0 kr
 obtain ⟨V, hV⟩ : ∃ V, (if rn = true then (if b5 < ti then ti else b5) else b5) = V := ⟨_, rfl⟩
 have hScs2 := hScs.out
 rw [hV] at hScs2
 replace hScs2 := Lib.hid hScs2
 cases rn with
 | true =>
  simp only [if_true] at hV
  have x2 := bx3.cell 2
  have c5 := bb3.cell 5
  have f5 := bb3.frozen 5
  go_upto_region 6 with fail
  clear x2 c5 f5
  have hu := Upd.one W3 gb 5 (.int .i64 V)
  have hM4 : NatM (W3.setCell ⟨gb, 5, none⟩ (.int .i64 V)) c gn pb fm np nf L := ⟨hM3.obj.upd hu (fun e => by have := hM3.obj; rw [e] at this; have h2 : W3.heap[gb]? = _ := this; rw [show W3.heap[gb]? = _ from bb3] at h2; cases h2), hM3.pl.upd hu (fun e => hM3.pl.notBlk bb3 e.symm), hM3.fl.upd hu (fun e => hM3.fl.notBlk bb3 e.symm), hM3.ne, hM3.inv⟩
  have bel4 := bel3.setCell (p := ⟨gb, 5, none⟩) (by show w.heap.size ≤ gb; omega) (.int .i64 V)
  have bb4 : Blk (W3.setCell ⟨gb, 5, none⟩ (.int .i64 V)) gb 95 (A12 b0 b1 b2 b3 nx V) := bb3.set_ 5 (.int .i64 V)
  clear hu hM3 bel3 bx3 bp3 bb3 hV
  generalize W3.setCell ⟨gb, 5, none⟩ (.int .i64 V) = W4 at *
  have z6 : ∀ t : Tw (fun w' => Blk w' gn 68 (A14 c.wk c.ou c.lo c.hi c.bk c.rg (some pb) (some fm)) ∧ Blk w' gb 95 (A12 b0 b1 b2 b3 nx V)), t.w.cell? ⟨gn, 6, none⟩ = some (.map (some pb)) := fun t => t.h.1.cell 6
  have z8 : ∀ w', (∃ t : Tw (fun w' => Blk w' gn 68 (A14 c.wk c.ou c.lo c.hi c.bk c.rg (some pb) (some fm)) ∧ Blk w' gb 95 (A12 b0 b1 b2 b3 nx V)), w' = t.w) → Blk w' gb 95 (A12 b0 b1 b2 b3 nx V) := fun w' ⟨t, ht⟩ => ht ▸ t.h.2
  have zz : Nonempty (Tw (fun w' => Blk w' gn 68 (A14 c.wk c.ou c.lo c.hi c.bk c.rg (some pb) (some fm)) ∧ Blk w' gb 95 (A12 b0 b1 b2 b3 nx V))) := ⟨⟨_, hM4.obj, bb4⟩⟩
  refine wp_region_plan (fun w' => Blk w' gn 68 (A14 c.wk c.ou c.lo c.hi c.bk c.rg (some pb) (some fm)) ∧ Blk w' gb 95 (A12 b0 b1 b2 b3 nx V)) [(0, true), (1, true), (2, true), (3, true), (4, true), (5, true), (6, false)] (by kernel_rfl) (by kernel_rfl) (by kernel_rfl) (by kernel_rfl) ⟨hM4.obj.drew, bb4.drew⟩ ?_
  replace hM4 := hM4.drew
  replace bb4 := bb4.drew
  replace bel4 := bel4.drew
  generalize W4.drew = W5 at *
  refine wpPl_qs 6 _ _ _ (by kernel_rfl) (by kernel_rfl) (by simp) ?_
  unfold clsS
  simp only [qq1, qq2, qq3, qq4, List.filterMap_cons, qq6, qq7, qq8, qq9]
  repeat (first
   | go_big_quiet_skip
   | (go_big_quiet_want; first | (refine quiet_ldRow rfl rfl z8 Tryz.underlying95 bd_size ?_; go_simp; go_big_quiet_on) | (go_big_quiet_op; go_big_quiet_on))
   | (refine id (?_ : wpQuiet _ _ _ _ (_ :: _) _); first | go_big_quiet_skip | (go_big_quiet_want; first | (refine quiet_ldRow rfl rfl z8 Tryz.underlying95 bd_size ?_; go_simp; go_big_quiet_on) | (go_big_quiet_op; go_big_quiet_on))))
  refine wpQuiet_nil ?_
  obtain ⟨W6, hrun, hpl6, hup⟩ := hM4.pl.put (by omega) S (by rw [hkk.out]; exact hkr)
  have hS2 : S.cs = (A12 b0 b1 b2 b3 nx V) := hScs2.out
  rw [hkk.out, hS2] at hrun
  refine wpPl_e _ (by rfl) (by kernel_rfl) (fun K hK => ?_)
  refine wp_upd rfl rfl rfl rfl hrun ?_
  refine hK _ _ ⟨hM4.obj.upd hup (fun e => hM4.pl.notBlk hM4.obj e), bb4.upd hup (fun e => hM4.pl.notBlk bb4 e)⟩ ?_
  clear hK K
  unfold wpPl
  refine NoPanic.normal ?_
  go_wp2_with fail
  go_end0
  exact ⟨rfl, ⟨hM4.obj.upd hup (fun e => hM4.pl.notBlk hM4.obj e), hpl6, (hM4.fl.upd hup (fun e => hM4.ne e.symm)).congr (fun f => (hpl.out f).symm), hM4.ne, hinv.out⟩, (Upd.of_below bel4 _).trans hup⟩
 | false =>
  simp only [Bool.false_eq_true, if_false] at hV
  subst hV
  go_upto_region 6 with fail
  have hM4 := hM3
  have bel4 := bel3
  have bb4 := bb3
  clear hM3 bel3 bx3 bp3 bb3
  have z6 : ∀ t : Tw (fun w' => Blk w' gn 68 (A14 c.wk c.ou c.lo c.hi c.bk c.rg (some pb) (some fm)) ∧ Blk w' gb 95 (A12 b0 b1 b2 b3 nx b5)), t.w.cell? ⟨gn, 6, none⟩ = some (.map (some pb)) := fun t => t.h.1.cell 6
  have z8 : ∀ w', (∃ t : Tw (fun w' => Blk w' gn 68 (A14 c.wk c.ou c.lo c.hi c.bk c.rg (some pb) (some fm)) ∧ Blk w' gb 95 (A12 b0 b1 b2 b3 nx b5)), w' = t.w) → Blk w' gb 95 (A12 b0 b1 b2 b3 nx b5) := fun w' ⟨t, ht⟩ => ht ▸ t.h.2
  have zz : Nonempty (Tw (fun w' => Blk w' gn 68 (A14 c.wk c.ou c.lo c.hi c.bk c.rg (some pb) (some fm)) ∧ Blk w' gb 95 (A12 b0 b1 b2 b3 nx b5))) := ⟨⟨_, hM4.obj, bb4⟩⟩
  refine wp_region_plan (fun w' => Blk w' gn 68 (A14 c.wk c.ou c.lo c.hi c.bk c.rg (some pb) (some fm)) ∧ Blk w' gb 95 (A12 b0 b1 b2 b3 nx b5)) [(0, true), (1, true), (2, true), (3, true), (4, true), (5, true), (6, false)] (by kernel_rfl) (by kernel_rfl) (by kernel_rfl) (by kernel_rfl) ⟨hM4.obj.drew, bb4.drew⟩ ?_
  replace hM4 := hM4.drew
  replace bb4 := bb4.drew
  replace bel4 := bel4.drew
  generalize W3.drew = W5 at *
  refine wpPl_qs 6 _ _ _ (by kernel_rfl) (by kernel_rfl) (by simp) ?_
  unfold clsS
  simp only [qq1, qq2, qq3, qq4, List.filterMap_cons, qq6, qq7, qq8, qq9]
  repeat (first
   | go_big_quiet_skip
   | (go_big_quiet_want; first | (refine quiet_ldRow rfl rfl z8 Tryz.underlying95 bd_size ?_; go_simp; go_big_quiet_on) | (go_big_quiet_op; go_big_quiet_on))
   | (refine id (?_ : wpQuiet _ _ _ _ (_ :: _) _); first | go_big_quiet_skip | (go_big_quiet_want; first | (refine quiet_ldRow rfl rfl z8 Tryz.underlying95 bd_size ?_; go_simp; go_big_quiet_on) | (go_big_quiet_op; go_big_quiet_on))))
  refine wpQuiet_nil ?_
  obtain ⟨W6, hrun, hpl6, hup⟩ := hM4.pl.put (by omega) S (by rw [hkk.out]; exact hkr)
  have hS2 : S.cs = (A12 b0 b1 b2 b3 nx b5) := hScs2.out
  rw [hkk.out, hS2] at hrun
  refine wpPl_e _ (by rfl) (by kernel_rfl) (fun K hK => ?_)
  refine wp_upd rfl rfl rfl rfl hrun ?_
  refine hK _ _ ⟨hM4.obj.upd hup (fun e => hM4.pl.notBlk hM4.obj e), bb4.upd hup (fun e => hM4.pl.notBlk bb4 e)⟩ ?_
  clear hK K
  unfold wpPl
  refine NoPanic.normal ?_
  go_wp2_with fail
  go_end0
  exact ⟨rfl, ⟨hM4.obj.upd hup (fun e => hM4.pl.notBlk hM4.obj e), hpl6, (hM4.fl.upd hup (fun e => hM4.ne e.symm)).congr (fun f => (hpl.out f).symm), hM4.ne, hinv.out⟩, (Upd.of_below bel4 _).trans hup⟩
end
section
open Go.RowKit Go.Maps
structure KSpec (P : Program) (K mt V : TypeId) (z : Value) {α : Type} (kv : α → Value) (ok : α → Prop) (lit : α → Lit) : Prop where
 keyed : Keyed P K
 key : ∀ f, ok f → keyOf P K (kv f) = some (lit f)
 inj : ∀ f g, ok f → ok g → lit f = lit g → f = g
 um : P.underlying mt = some (.map K V)
 zv : ∀ w, (zeroValue V).run P w = .ok z w
structure KmG (P : Program) (K : TypeId) {α : Type} (ok : α → Prop) (lit : α → Lit) (W : World) (fb n : Nat) (G : α → Option Value) : Prop where
 ex : ∃ D : DataW Value, W.ownsMap P K rdV fb n D ∧ IsMap D ∧ ∀ f, ok f → Maps.has D (lit f) = (G f).isSome ∧ ∀ z, D.atKey (lit f) (.held z) = .held ((G f).getD z)
section
variable {P : Program} {K mt V : TypeId} {z : Value} {α : Type} [DecidableEq α] {kv : α → Value} {ok : α → Prop} {lit : α → Lit} {W W' : World} {fb n : Nat} {G G' : α → Option Value}
omit [DecidableEq α] in
theorem KmG.lt (h : KmG P K ok lit W fb n G) : fb < W.heap.size := by obtain ⟨D, h1, _⟩ := h.ex; exact h1.lt
omit [DecidableEq α] in
theorem KmG.notBlk (h : KmG P K ok lit W fb n G) {g : Nat} {t : TypeId} {cs : Array Value} (hb : Blk W g t cs) : g ≠ fb := fun e => by
 obtain ⟨D, ⟨es, clock, h1, _⟩, _⟩ := h.ex
 have h2 : W.heap[g]? = some (.cells cs t (0, 0)) := hb
 rw [e, h1] at h2
 cases h2
omit [DecidableEq α] in
theorem KmG.look2 (S : KSpec P K mt V z kv ok lit) (h : KmG P K ok lit W fb n G) {f : α} (hf : ok f) : (Instr.lookup mt (.map (some fb)) (kv f) true).run P W = .ok (.tuple #[(G f).getD z, .bool (G f).isSome]) W := by
 obtain ⟨D, hD, hM, hx⟩ := h.ex
 obtain ⟨v, ps, hrun, hv⟩ := hD.look_ok S.keyed S.um (S.zv W) (zd := .held z) rfl (S.key f hf)
 obtain ⟨h1, h2⟩ := hx f hf
 rw [h2 z] at hv
 unfold rdV at hv
 simp only [Option.some.injEq, Prod.mk.injEq, DataW.held.injEq] at hv
 rw [hrun, h1, hv.1]
omit [DecidableEq α] in
theorem KmG.look0 (S : KSpec P K mt V z kv ok lit) (h : KmG P K ok lit W fb n G) {f : α} (hf : ok f) : (Instr.lookup mt (.map (some fb)) (kv f) false).run P W = .ok ((G f).getD z) W := by
 obtain ⟨D, hD, hM, hx⟩ := h.ex
 obtain ⟨v, ps, hrun, hv⟩ := hD.lookup S.keyed S.um (S.zv W) (zd := .held z) (zp := []) rfl (S.key f hf)
 obtain ⟨h1, h2⟩ := hx f hf
 rw [h2 z] at hv
 unfold rdV at hv
 simp only [Option.some.injEq, Prod.mk.injEq, DataW.held.injEq] at hv
 rw [hrun, hv.1]
end
theorem krf : Keyed Tryz.prog 43 := Keyed.of_law (deep_law_gate laidOut (by decide +kernel) (by decide +kernel) (by kernel_rfl) (by kernel_rfl))
theorem keyOf_rflow {f : Fl} (h : f.rng) : keyOf Tryz.prog 43 (.agg f.cs) = some (litF f) := by
 obtain ⟨h1, h2, h3⟩ := h
 unfold inr at h1 h2 h3
 obtain ⟨m, hs⟩ : ∃ m, Tryz.prog.types.size = m + 1 := ⟨Tryz.prog.types.size - 1, by kernel_rfl⟩
 have hk : Tryz.prog.keyType 43 = true := by kernel_rfl
 have c0 : Tryz.prog.cellsOf 3 = 1 := by kernel_rfl
 have c1 : Tryz.prog.cellsOf 23 = 1 := by kernel_rfl
 have c2 : Tryz.prog.cellsOf 41 = 1 := by kernel_rfl
 have c3 : Tryz.prog.cellsOf 43 = 3 := by kernel_rfl
 unfold keyOf
 simp only [Tryz.underlying43]
 rw [if_pos (by simp [hk, Value.formed, Tryz.underlying43, c3, Fl.cs]), hs]
 unfold Program.keyLits
 simp only [Tryz.underlying43, Value.cells]
 rw [if_pos (by simp [c3, Fl.cs])]
 simp [Fl.cs, Program.keyLits, Tryz.underlying3, Tryz.underlying23, Tryz.underlying41, c0, c1, c2, h1, h2, h3, litF]
theorem rflow_int : KSpec Tryz.prog 43 34 3 (.int .i64 0) (fun f : Fl => .agg f.cs) Fl.rng litF :=
 ⟨krf, fun f h => keyOf_rflow h, fun f g hf hg h => litF_inj hf hg h, Tryz.underlying34, zeroInt⟩
def prV (x : Int × Int) : Value := .agg #[.int .i64 x.1, .int .i64 x.2]
def prOk (x : Int × Int) : Prop := inr .i64 x.1 ∧ inr .i64 x.2
def litP (x : Int × Int) : Lit := .string (keyBytes [.int .i64 x.1, .int .i64 x.2])
theorem kpr : Keyed Tryz.prog 57 := Keyed.of_law (deep_law_gate laidOut (by decide +kernel) (by decide +kernel) (by kernel_rfl) (by kernel_rfl))
theorem keyOf_pr {x : Int × Int} (h : prOk x) : keyOf Tryz.prog 57 (prV x) = some (litP x) := by
 obtain ⟨h1, h2⟩ := h
 unfold inr at h1 h2
 obtain ⟨m, hs⟩ : ∃ m, Tryz.prog.types.size = m + 1 := ⟨Tryz.prog.types.size - 1, by kernel_rfl⟩
 have hk : Tryz.prog.keyType 57 = true := by kernel_rfl
 have c0 : Tryz.prog.cellsOf 3 = 1 := by kernel_rfl
 have c3 : Tryz.prog.cellsOf 57 = 2 := by kernel_rfl
 unfold keyOf prV
 simp only [Tryz.underlying57]
 rw [if_pos (by simp [hk, Value.formed, Tryz.underlying57, c3]), hs]
 unfold Program.keyLits
 simp only [Tryz.underlying57, Value.cells]
 rw [if_pos (by simp [c3])]
 have hr2 : List.range 2 = [0, 1] := rfl
 simp [Program.keyLits, Tryz.underlying3, c0, h1, h2, litP, hr2]
theorem litP_inj {f g : Int × Int} (hf : prOk f) (hg : prOk g) (h : litP f = litP g) : f = g := by
 have h1 := keyOf_pr hf
 have h2 := keyOf_pr hg
 rw [h] at h1
 have h3 := kpr.inj h1 h2
 obtain ⟨f1, f2⟩ := f
 obtain ⟨g1, g2⟩ := g
 simp [prV] at h3
 obtain ⟨rfl, rfl⟩ := h3
 rfl
section
variable {P : Program} {ops : Array Oper} {rest : List Oper} {o : Oper} {a : Act} {Q : Exit → Act → World → Prop} {w : World}
theorem wpList_lookG (hg : Region.wanted o (yielded ops a.tmps) = true) {t : TypeId} {m x : Operand} {ok : Bool} (ho : o.op = .lookup t m x ok) {mv xv v : Value} (hm : a.eval m = mv) (hx : a.eval x = xv) (hr : (Instr.lookup t mv xv ok).run P w = .ok v w) (h : wpList P ops Q rest (a.put o.dst v) w) : wpList P ops Q (o :: rest) a w := by
 refine wpList_step fun K hK => ?_
 rw [if_pos hg]
 exact wp_look ho hm hx hr (hK _ _ h)
theorem wpList_lookX {t : TypeId} {mv xv v : Value} {ok : Bool} (hr : (Instr.lookup t mv xv ok).run P w = .ok v w) : ∀ (ops : Array Oper) (rest : List Oper) (o : Oper) (a : Act) (Q : Exit → Act → World → Prop),
  (∃ m x, o.op = .lookup t m x ok ∧ a.eval m = mv ∧ a.eval x = xv ∧ Region.wanted o (yielded ops a.tmps) = true) → wpList P ops Q rest (a.put o.dst v) w → wpList P ops Q (o :: rest) a w :=
 fun _ _ _ _ _ ⟨_, _, ho, hm, hx, hg⟩ h => wpList_lookG hg ho hm hx hr h
theorem wpList_ldX {t : TypeId} {g : Nat} {tt : TypeId} {cs : Array Value} (hb : Blk w g tt cs) {fs : Array Field} (hu : P.underlying t = some (.struct fs)) (hi : (P.info? t).map (·.size) = some cs.size) : ∀ (ops : Array Oper) (rest : List Oper) (o : Oper) (a : Act) (Q : Exit → Act → World → Prop),
  (∃ p, o.op = .load t p ∧ a.eval p = .pointer (some ⟨g, 0, none⟩) ∧ Region.wanted o (yielded ops a.tmps) = true) → wpList P ops Q rest (a.put o.dst (.agg cs)) w → wpList P ops Q (o :: rest) a w :=
 fun ops rest o a Q ⟨p, ho, hp, hg⟩ h => by
  refine wpList_step fun K hK => ?_
  rw [if_pos hg]
  have hr : (execOp a.eval o).run P w = .ok (.value (.agg cs)) w := by
   have h2 := run_loadVar_row (P := P) w g tt t cs (0, 0) (.struct fs) hb hu rfl hi
   simp only [execOp, ho, hp, Instr.loadAt, Instr.sureAddr, Sem.run_bind, Sem.run_pure, Result.andThen, h2]
  unfold Oper.wp
  rw [hr, Oper.upon_value]
  exact hK _ _ h
end
end
section
open Go.RowKit Go.Maps
structure KmS (P : Program) (K : TypeId) {α : Type} (ok : α → Prop) (lit : α → Lit) (W : World) (fb n : Nat) (G : α → Option Value) (s : Nat) : Prop where
 ex : ∃ D : DataW Value, W.ownsMap P K rdV fb n D ∧ IsMap D ∧ (∀ f, ok f → Maps.has D (lit f) = (G f).isSome ∧ ∀ z, D.atKey (lit f) (.held z) = .held ((G f).getD z)) ∧ Maps.size D = s
section
variable {P : Program} {K mt V : TypeId} {z : Value} {α : Type} [DecidableEq α] {kv : α → Value} {ok : α → Prop} {lit : α → Lit} {W W' : World} {fb n s : Nat} {G G' : α → Option Value}
omit [DecidableEq α] in
theorem KmS.km (h : KmS P K ok lit W fb n G s) : KmG P K ok lit W fb n G := by
 obtain ⟨D, h1, h2, h3, _⟩ := h.ex
 exact ⟨D, h1, h2, h3⟩
omit [DecidableEq α] in
theorem KmS.lt (h : KmS P K ok lit W fb n G s) : fb < W.heap.size := h.km.lt
omit [DecidableEq α] in
theorem KmS.keep (h : KmS P K ok lit W fb n G s) (hb : W'.heap[fb]? = W.heap[fb]?) : KmS P K ok lit W' fb n G s := by
 obtain ⟨D, ⟨es, clock, h1, F1, hs, hD⟩, h2, h3, h4⟩ := h.ex
 exact ⟨D, ⟨es, clock, hb.trans h1, F1, hs, hD⟩, h2, h3, h4⟩
omit [DecidableEq α] in
theorem KmS.bel (h : KmS P K ok lit W fb n G s) (hb : Below W.heap.size W W') : KmS P K ok lit W' fb n G s := h.keep (hb.block fb h.lt)
omit [DecidableEq α] in
theorem KmS.upd {S : Nat → Prop} (h : KmS P K ok lit W fb n G s) (hu : Upd S W W') (hS : ¬ S fb) : KmS P K ok lit W' fb n G s := h.keep (hu.block fb h.lt hS)
omit [DecidableEq α] in
theorem KmS.made (P : Program) (K : TypeId) (ok : α → Prop) (lit : α → Lit) (W : World) : KmS P K ok lit (W.alloc (.map #[] 0)) W.heap.size 0 (fun _ => none) 0 := ⟨.map [], World.ownsMap_made W _ _ _, isMap_empty, fun f _ => ⟨rfl, fun _ => rfl⟩, rfl⟩
omit [DecidableEq α] in
theorem KmS.ext (h : KmS P K ok lit W fb n G s) (he : ∀ f, ok f → G f = G' f) : KmS P K ok lit W fb n G' s := by
 obtain ⟨D, h1, h2, h3, h4⟩ := h.ex
 exact ⟨D, h1, h2, fun f hf => by rw [← he f hf]; exact h3 f hf, h4⟩
omit [DecidableEq α] in
theorem KmS.notBlk (h : KmS P K ok lit W fb n G s) {g : Nat} {t : TypeId} {cs : Array Value} (hb : Blk W g t cs) : g ≠ fb := h.km.notBlk hb
theorem KmS.put (S : KSpec P K mt V z kv ok lit) (h : KmS P K ok lit W fb n G s) (hn : n < 1000000) {f : α} (hf : ok f) (hG : G f = none) (v : Value) : ∃ W', (Instr.mapUpdate mt (.map (some fb)) (kv f) v).run P W = .ok () W' ∧ KmS P K ok lit W' fb (n + 1) (fun g => if g = f then some v else G g) (s + 1) ∧ Upd (fun j => j = fb) W W' := by
 obtain ⟨D, hD, hM, hx, hs⟩ := h.ex
 obtain ⟨W', hrun, hown, hg⟩ := hD.update S.keyed S.um (by unfold maxLen; omega) (S.key f hf) (val := v) (d := .held v) (ps := []) rfl
 refine ⟨W', hrun, ⟨_, hown, hM.put _ _, fun g hgr => ?_, ?_⟩, Upd.of_grown hg (fun g e => by injection e with e; exact e.symm)⟩
 ·by_cases e : g = f
  ·subst e
   rw [if_pos rfl, has_put_same hM (S.keyed.key (S.key g hf))]
   exact ⟨rfl, fun z => by rw [atKey_put_same hM (S.keyed.key (S.key g hf))]; rfl⟩
  ·have hne : lit g ≠ lit f := fun h => e (S.inj g f hgr hf h)
   rw [if_neg e, has_put_other hne]
   exact ⟨(hx g hgr).1, fun z => by rw [atKey_put_other hne]; exact (hx g hgr).2 z⟩
 ·rw [size_put (hD.tidy S.keyed), (hx f hf).1, hG, hs]; rfl
omit [DecidableEq α] in
theorem KmS.len (S : KSpec P K mt V z kv ok lit) (h : KmS P K ok lit W fb n G s) (ty : TypeId) : (Builtin.len_ #[mt] ty #[.map (some fb)]).run P W = .ok (.int .i64 s) W := by
 obtain ⟨D, hD, _, _, hs⟩ := h.ex
 rw [hD.len S.um ty, hs]
end
end
end Go.Proofs.YtbichbdcibchlaaGreat
