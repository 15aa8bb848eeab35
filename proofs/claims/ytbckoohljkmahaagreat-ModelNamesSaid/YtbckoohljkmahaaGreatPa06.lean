/- What the laws' proofs lean on: plain facts and contracts of the program's functions, laid together (6). -/
import Derived.Test.YtbckoohljkmahaaGreatPa01
import Derived.Test.YtbckoohljkmahaaGreatPa02
import Derived.Test.YtbckoohljkmahaaGreatPa05
namespace Go.Proofs.YtbckoohljkmahaaGreat
set_option linter.unusedVariables false
set_option linter.unusedSimpArgs false
open Go.RowKit
theorem frm_bdh {l : List Int} (hl : ∀ x, x ∈ l → 0 ≤ x ∧ x ≤ 255) (h : getE l = 0) : (0 ≤ (hdOf l).src ∧ (hdOf l).src ≤ 4294967295) ∧ (0 ≤ (hdOf l).dst ∧ (hdOf l).dst ≤ 4294967295) := by
  have h20 : 20 ≤ l.length := by
    rcases Nat.lt_or_ge l.length 20 with hh | hh
    · exfalso
      unfold getE shapeE at h
      rw [if_pos hh] at h
      simp at h
    · exact hh
  exact ⟨n4_bd hl (by omega), n4_bd hl (by omega)⟩
/-- what is read of a frame: the error, the head, what it carries -/
def rdE (l : List Int) : Int := if getE l = 0 then (getR (hdOf l) l).1 else getE l
def rdH (l : List Int) : Hd := if rdE l = 0 then hdOf l else Hd.z
def rdP (l : List Int) : Pt := if rdE l = 0 then (getR (hdOf l) l).2 else Pt.z
/-- who speaks -/
structure Fl where
  pr : Int
  ad : Int
  po : Int
deriving instance DecidableEq for Fl
def Fl.z : Fl := ⟨0, 0, 0⟩
def Fl.cs (f : Fl) : Array Value := #[.int .i64 f.pr, .int .u32 f.ad, .int .u16 f.po]
def insF (h : Hd) (p : Pt) : Fl := if p.err = true then ⟨p.inner.proto, p.inner.dst, p.dst⟩ else ⟨h.proto, h.src, p.src⟩
def outF (h : Hd) (p : Pt) : Fl := if p.err = true then ⟨p.inner.proto, p.inner.src, p.src⟩ else ⟨h.proto, h.dst, p.dst⟩
def whoP (ou : Int) (out : Bool) (l : List Int) : Fl × Int :=
  if rdE l ≠ 0 then (Fl.z, rdE l) else if out = true then (insF (rdH l) (rdP l), 0) else if (rdH l).dst ≠ ou ∨ (outF (rdH l) (rdP l)).ad ≠ ou then (Fl.z, 7) else (outF (rdH l) (rdP l), 0)
def begP (out : Bool) (l : List Int) : Bool := out && (rdE l == 0) && !(rdP l).err && beginsS (rdP l).proto (rdP l).kind (rdP l).flags
def ReadR (w : World) (l : List Int) (e : Ending) (w' : World) : Prop := e = .returned (.tuple #[(rdH l).val, (rdP l).val, .int .i64 (rdE l)]) ∧ Below w.heap.size w w'
theorem results_row3 {P : Program} {w : World} {fn : Func} {x y z : Tmp} {ty ty' : TypeId} (h : fn.results = #[.cell x ty, .cell y ty', .tmp z]) (tmps : Array Value) {g g' : Nat} (hp : tmps.getD x undef = .pointer (some ⟨g, 0, none⟩)) {tt : TypeId} {cs : Array Value} (hb : Blk w g tt cs) {fs : Array Field} (hu : P.underlying ty = some (.struct fs))
    (hi : (P.info? ty).map (·.size) = some cs.size) (hp' : tmps.getD y undef = .pointer (some ⟨g', 0, none⟩)) {tt' : TypeId} {cs' : Array Value} (hb' : Blk w g' tt' cs') {fs' : Array Field} (hu' : P.underlying ty' = some (.struct fs'))
    (hi' : (P.info? ty').map (·.size) = some cs'.size) : (results fn tmps).run P w = .ok (.tuple #[.agg cs, .agg cs', tmps.getD z undef]) w := by
  have h2 := run_loadVar_row (P := P) w g tt ty cs (0, 0) (.struct fs) hb hu rfl hi
  have h3 := run_loadVar_row (P := P) w g' tt' ty' cs' (0, 0) (.struct fs') hb' hu' rfl hi'
  rw [Array.getD_eq_getD_getElem?] at hp hp'
  simp [results, h, hp, hp', asAddr, h2, h3]
set_option maxRecDepth 100000 in
set_option maxHeartbeats 4000000 in
theorem read_any (l : List Int) (A : Option Addr) (len c : Nat) (w : World) (hr : Rd .u8 w w.heap.size A len l) (hlc : len ≤ c) (hcm : c ≤ 9223372036854775807) (hl : len ≤ 60000) :
    Calls Tryz.prog 40 #[.slice A len c] w (ReadR w l) := by
  have k1 := fun W (h : Below w.heap.size w W) => Get_any l A len c _ W ((hr.below h).more h.size) (Nat.le_refl _) hlc hcm (by omega)
  by_cases hE : getE l = 0
  · have hbb := frm_bdh (fun x hx => inr_u8 (hr.rng x hx)) hE
    have he : rdE l = (getR (hdOf l) l).1 := by unfold rdE; rw [if_pos hE]
    have hH : rdH l = if (getR (hdOf l) l).1 = 0 then hdOf l else Hd.z := by unfold rdH; rw [he]
    have hP : rdP l = if (getR (hdOf l) l).1 = 0 then (getR (hdOf l) l).2 else Pt.z := by unfold rdP; rw [he]
    unfold ReadR
    rw [he, hH, hP]
    rw [hE] at k1
    rw [show hdIf l 0 = hdOf l from rfl] at k1
    have k2 := fun W (h : Below w.heap.size w W) => PGet_any (hdOf l) l A len c _ W ((hr.below h).more h.size) (Nat.le_refl _) hlc hcm (by omega) hbb.1 hbb.2
    clear he hH hP hbb hE hr
    generalize hdOf l = H at *
    generalize getR H l = R at *
    obtain ⟨h0, h1, h2, h3, h4, h5⟩ := H
    obtain ⟨E, pr, sr, ds, fl, ki, co, er, ⟨isz, i1, i2, i3, i4, i5⟩, pat, ba⟩ := R
    simp only [Hd.val, Pt.val, Tells] at k1 k2
    replace k1 := Lib.hid k1
    by_cases hE2 : E = 0
    · subst hE2
      simp only [if_true, Hd.val, Pt.val]
      replace k2 := Lib.hid k2
      go_enter Tryz.func40, Tryz.ntmps40
      go_upto_region 1 with fail
      have b2 := (Blk.new w 105 #[.int .i64 0, .int .i64 0, .int .i64 0, .int .i64 0, .int .u32 0, .int .u32 0]).alloc (.cells #[.int .i64 0, .int .u16 0, .int .u16 0, .int .i64 0, .int .i64 0, .int .i64 0, .bool false, .int .i64 0, .int .i64 0, .int .i64 0, .int .i64 0, .int .u32 0, .int .u32 0, .int .i64 0, .bool false] 107)
      have b3 := Blk.new (w.alloc (.cells #[.int .i64 0, .int .i64 0, .int .i64 0, .int .i64 0, .int .u32 0, .int .u32 0] 105)) 107 #[.int .i64 0, .int .u16 0, .int .u16 0, .int .i64 0, .int .i64 0, .int .i64 0, .bool false, .int .i64 0, .int .i64 0, .int .i64 0, .int .i64 0, .int .u32 0, .int .u32 0, .int .i64 0, .bool false]
      rw [show (w.alloc (.cells #[.int .i64 0, .int .i64 0, .int .i64 0, .int .i64 0, .int .u32 0, .int .u32 0] 105)).heap.size = w.heap.size + 1 by simp] at b3
      have bel : Below w.heap.size w ((w.alloc (.cells #[.int .i64 0, .int .i64 0, .int .i64 0, .int .i64 0, .int .u32 0, .int .u32 0] 105)).alloc (.cells #[.int .i64 0, .int .u16 0, .int .u16 0, .int .i64 0, .int .i64 0, .int .i64 0, .bool false, .int .i64 0, .int .i64 0, .int .i64 0, .int .i64 0, .int .u32 0, .int .u32 0, .int .i64 0, .bool false] 107)) := (bel_alloc _ _).alloc (by simp) _
      generalize (w.alloc (.cells #[.int .i64 0, .int .i64 0, .int .i64 0, .int .i64 0, .int .u32 0, .int .u32 0] 105)).alloc (.cells #[.int .i64 0, .int .u16 0, .int .u16 0, .int .i64 0, .int .i64 0, .int .i64 0, .bool false, .int .i64 0, .int .i64 0, .int .i64 0, .int .i64 0, .int .u32 0, .int .u32 0, .int .i64 0, .bool false] 107) = W at *
      go_wp2_with fail
      refine (k1.out _ bel).mono ?_
      rintro e w2 ⟨rfl, hb⟩
      replace b2 := b2.bel hb
      replace b3 := b3.bel hb
      replace bel := bel_after bel hb
      clear hb k1
      have hgh0 : w.heap.size + 1 < w2.heap.size := b3.lt
      have bh := (Blk.new w2 105 #[.int .i64 0, .int .i64 0, .int .i64 0, .int .i64 0, .int .u32 0, .int .u32 0]).setRow #[.int .i64 h0, .int .i64 h1, .int .i64 h2, .int .i64 h3, .int .u32 h4, .int .u32 h5]
      replace b2 := (b2.alloc (.cells #[.int .i64 0, .int .i64 0, .int .i64 0, .int .i64 0, .int .u32 0, .int .u32 0] 105)).setRow_far (g' := w2.heap.size) (by omega) #[.int .i64 h0, .int .i64 h1, .int .i64 h2, .int .i64 h3, .int .u32 h4, .int .u32 h5]
      replace b3 := (b3.alloc (.cells #[.int .i64 0, .int .i64 0, .int .i64 0, .int .i64 0, .int .u32 0, .int .u32 0] 105)).setRow_far (g' := w2.heap.size) (by omega) #[.int .i64 h0, .int .i64 h1, .int .i64 h2, .int .i64 h3, .int .u32 h4, .int .u32 h5]
      replace bel := below_setRow (bel.alloc bel.size (.cells #[.int .i64 0, .int .i64 0, .int .i64 0, .int .i64 0, .int .u32 0, .int .u32 0] 105)) bel.size #[.int .i64 h0, .int .i64 h1, .int .i64 h2, .int .i64 h3, .int .u32 h4, .int .u32 h5]
      go_upto_region 4 with (refine wpList_stRow rfl rfl rfl rfl rfl (Blk.new w2 _ _) hd_size rfl (by simp [Value.oneCell']) ?_; generalize (w2.alloc (.cells #[.int .i64 0, .int .i64 0, .int .i64 0, .int .i64 0, .int .u32 0, .int .u32 0] 105)).setRow w2.heap.size #[.int .i64 h0, .int .i64 h1, .int .i64 h2, .int .i64 h3, .int .u32 h4, .int .u32 h5] = W4 at *; generalize w2.heap.size = gh at *)
      go_wp2_with (refine wpList_ldRow rfl rfl rfl bh Tryz.underlying105 hd_size ?_)
      refine (k2.out _ bel).mono ?_
      rintro e w3 ⟨rfl, hb⟩
      replace b2 := b2.bel hb
      replace b3 := b3.bel hb
      replace bh := bh.bel hb
      replace bel := bel_after bel hb
      clear hb k2
      have hgp0 : w.heap.size + 1 < w3.heap.size := b3.lt
      have hgp1 : gh < w3.heap.size := bh.lt
      have bp := (Blk.new w3 107 #[.int .i64 0, .int .u16 0, .int .u16 0, .int .i64 0, .int .i64 0, .int .i64 0, .bool false, .int .i64 0, .int .i64 0, .int .i64 0, .int .i64 0, .int .u32 0, .int .u32 0, .int .i64 0, .bool false]).setRow #[.int .i64 pr, .int .u16 sr, .int .u16 ds, .int .i64 fl, .int .i64 ki, .int .i64 co, .bool er, .int .i64 isz, .int .i64 i1, .int .i64 i2, .int .i64 i3, .int .u32 i4, .int .u32 i5, .int .i64 pat, .bool ba]
      replace b2 := (b2.alloc (.cells #[.int .i64 0, .int .u16 0, .int .u16 0, .int .i64 0, .int .i64 0, .int .i64 0, .bool false, .int .i64 0, .int .i64 0, .int .i64 0, .int .i64 0, .int .u32 0, .int .u32 0, .int .i64 0, .bool false] 107)).setRow_far (g' := w3.heap.size) (by omega) #[.int .i64 pr, .int .u16 sr, .int .u16 ds, .int .i64 fl, .int .i64 ki, .int .i64 co, .bool er, .int .i64 isz, .int .i64 i1, .int .i64 i2, .int .i64 i3, .int .u32 i4, .int .u32 i5, .int .i64 pat, .bool ba]
      replace b3 := (b3.alloc (.cells #[.int .i64 0, .int .u16 0, .int .u16 0, .int .i64 0, .int .i64 0, .int .i64 0, .bool false, .int .i64 0, .int .i64 0, .int .i64 0, .int .i64 0, .int .u32 0, .int .u32 0, .int .i64 0, .bool false] 107)).setRow_far (g' := w3.heap.size) (by omega) #[.int .i64 pr, .int .u16 sr, .int .u16 ds, .int .i64 fl, .int .i64 ki, .int .i64 co, .bool er, .int .i64 isz, .int .i64 i1, .int .i64 i2, .int .i64 i3, .int .u32 i4, .int .u32 i5, .int .i64 pat, .bool ba]
      replace bh := (bh.alloc (.cells #[.int .i64 0, .int .u16 0, .int .u16 0, .int .i64 0, .int .i64 0, .int .i64 0, .bool false, .int .i64 0, .int .i64 0, .int .i64 0, .int .i64 0, .int .u32 0, .int .u32 0, .int .i64 0, .bool false] 107)).setRow_far (g' := w3.heap.size) (by omega) #[.int .i64 pr, .int .u16 sr, .int .u16 ds, .int .i64 fl, .int .i64 ki, .int .i64 co, .bool er, .int .i64 isz, .int .i64 i1, .int .i64 i2, .int .i64 i3, .int .u32 i4, .int .u32 i5, .int .i64 pat, .bool ba]
      replace bel := below_setRow (bel.alloc bel.size (.cells #[.int .i64 0, .int .u16 0, .int .u16 0, .int .i64 0, .int .i64 0, .int .i64 0, .bool false, .int .i64 0, .int .i64 0, .int .i64 0, .int .i64 0, .int .u32 0, .int .u32 0, .int .i64 0, .bool false] 107)) bel.size #[.int .i64 pr, .int .u16 sr, .int .u16 ds, .int .i64 fl, .int .i64 ki, .int .i64 co, .bool er, .int .i64 isz, .int .i64 i1, .int .i64 i2, .int .i64 i3, .int .u32 i4, .int .u32 i5, .int .i64 pat, .bool ba]
      go_upto_region 7 with (refine wpList_stRow rfl rfl rfl rfl rfl (Blk.new w3 _ _) pt_size rfl (by simp [Value.oneCell']) ?_; generalize (w3.alloc (.cells #[.int .i64 0, .int .u16 0, .int .u16 0, .int .i64 0, .int .i64 0, .int .i64 0, .bool false, .int .i64 0, .int .i64 0, .int .i64 0, .int .i64 0, .int .u32 0, .int .u32 0, .int .i64 0, .bool false] 107)).setRow w3.heap.size #[.int .i64 pr, .int .u16 sr, .int .u16 ds, .int .i64 fl, .int .i64 ki, .int .i64 co, .bool er, .int .i64 isz, .int .i64 i1, .int .i64 i2, .int .i64 i3, .int .u32 i4, .int .u32 i5, .int .i64 pat, .bool ba] = W5 at *; generalize w3.heap.size = gp at *)
      have z1 : ∀ w', (∃ t : Tw (fun w' => Blk w' gh 105 #[.int .i64 h0, .int .i64 h1, .int .i64 h2, .int .i64 h3, .int .u32 h4, .int .u32 h5] ∧ Blk w' gp 107 #[.int .i64 pr, .int .u16 sr, .int .u16 ds, .int .i64 fl, .int .i64 ki, .int .i64 co, .bool er, .int .i64 isz, .int .i64 i1, .int .i64 i2, .int .i64 i3, .int .u32 i4, .int .u32 i5, .int .i64 pat, .bool ba]), w' = t.w) → Blk w' gh 105 #[.int .i64 h0, .int .i64 h1, .int .i64 h2, .int .i64 h3, .int .u32 h4, .int .u32 h5] := fun w' ⟨t, ht⟩ => ht ▸ t.h.1
      have z2 : ∀ w', (∃ t : Tw (fun w' => Blk w' gh 105 #[.int .i64 h0, .int .i64 h1, .int .i64 h2, .int .i64 h3, .int .u32 h4, .int .u32 h5] ∧ Blk w' gp 107 #[.int .i64 pr, .int .u16 sr, .int .u16 ds, .int .i64 fl, .int .i64 ki, .int .i64 co, .bool er, .int .i64 isz, .int .i64 i1, .int .i64 i2, .int .i64 i3, .int .u32 i4, .int .u32 i5, .int .i64 pat, .bool ba]), w' = t.w) → Blk w' gp 107 #[.int .i64 pr, .int .u16 sr, .int .u16 ds, .int .i64 fl, .int .i64 ki, .int .i64 co, .bool er, .int .i64 isz, .int .i64 i1, .int .i64 i2, .int .i64 i3, .int .u32 i4, .int .u32 i5, .int .i64 pat, .bool ba] := fun w' ⟨t, ht⟩ => ht ▸ t.h.2
      have zz : Nonempty (Tw (fun w' => Blk w' gh 105 #[.int .i64 h0, .int .i64 h1, .int .i64 h2, .int .i64 h3, .int .u32 h4, .int .u32 h5] ∧ Blk w' gp 107 #[.int .i64 pr, .int .u16 sr, .int .u16 ds, .int .i64 fl, .int .i64 ki, .int .i64 co, .bool er, .int .i64 isz, .int .i64 i1, .int .i64 i2, .int .i64 i3, .int .u32 i4, .int .u32 i5, .int .i64 pat, .bool ba])) := ⟨⟨_, bh, bp⟩⟩
      refine wp_region_plan (fun w' => Blk w' gh 105 #[.int .i64 h0, .int .i64 h1, .int .i64 h2, .int .i64 h3, .int .u32 h4, .int .u32 h5] ∧ Blk w' gp 107 #[.int .i64 pr, .int .u16 sr, .int .u16 ds, .int .i64 fl, .int .i64 ki, .int .i64 co, .bool er, .int .i64 isz, .int .i64 i1, .int .i64 i2, .int .i64 i3, .int .u32 i4, .int .u32 i5, .int .i64 pat, .bool ba]) [(0, true), (1, true), (2, false), (3, false), (4, true)] (by kernel_rfl) (by kernel_rfl) (by kernel_rfl) (by kernel_rfl) ⟨bh.drew, bp.drew⟩ ?_
      replace b2 := b2.drew
      replace b3 := b3.drew
      replace bh := bh.drew
      replace bp := bp.drew
      replace bel := bel.drew
      generalize W5.drew = W6 at *
      refine wpPl_qs 2 _ _ _ (by kernel_rfl) (by kernel_rfl) (by simp) ?_
      unfold clsS
      simp only [List.take_succ_cons, List.take_zero, List.drop_succ_cons, List.drop_zero, List.filterMap_cons, List.filterMap_nil, List.getElem?_toArray, List.getElem?_cons_zero, List.getElem?_cons_succ]
      repeat (first
        | go_big_quiet_skip
        | (go_big_quiet_want; first | (refine quiet_ldRow rfl rfl z1 Tryz.underlying105 hd_size ?_; go_simp; go_big_quiet_on) | (refine quiet_ldRow rfl rfl z2 Tryz.underlying107 pt_size ?_; go_simp; go_big_quiet_on) | (go_big_quiet_op; go_big_quiet_on))
        | (refine id (?_ : wpQuiet _ _ _ _ (_ :: _) _); first | go_big_quiet_skip | (go_big_quiet_want; first | (refine quiet_ldRow rfl rfl z1 Tryz.underlying105 hd_size ?_; go_simp; go_big_quiet_on) | (refine quiet_ldRow rfl rfl z2 Tryz.underlying107 pt_size ?_; go_simp; go_big_quiet_on) | (go_big_quiet_op; go_big_quiet_on))))
      refine wpQuiet_nil ?_
      refine wpPl_e _ (by rfl) (by kernel_rfl) (fun K hK => ?_)
      refine wp_stRow rfl rfl rfl rfl b2 hd_size rfl (by simp [Value.oneCell']) ?_
      replace b3 := b3.setRow_far (g' := w.heap.size) (by omega) #[.int .i64 h0, .int .i64 h1, .int .i64 h2, .int .i64 h3, .int .u32 h4, .int .u32 h5]
      replace b2 := b2.setRow #[.int .i64 h0, .int .i64 h1, .int .i64 h2, .int .i64 h3, .int .u32 h4, .int .u32 h5]
      replace bh := bh.setRow_far (g' := w.heap.size) (by omega) #[.int .i64 h0, .int .i64 h1, .int .i64 h2, .int .i64 h3, .int .u32 h4, .int .u32 h5]
      replace bp := bp.setRow_far (g' := w.heap.size) (by omega) #[.int .i64 h0, .int .i64 h1, .int .i64 h2, .int .i64 h3, .int .u32 h4, .int .u32 h5]
      replace bel := below_setRow bel (Nat.le_refl _) #[.int .i64 h0, .int .i64 h1, .int .i64 h2, .int .i64 h3, .int .u32 h4, .int .u32 h5]
      refine hK _ _ ⟨bh, bp⟩ ?_
      clear hK K
      generalize W6.setRow w.heap.size #[.int .i64 h0, .int .i64 h1, .int .i64 h2, .int .i64 h3, .int .u32 h4, .int .u32 h5] = W7 at *
      refine wpPl_e _ (by rfl) (by kernel_rfl) (fun K hK => ?_)
      refine wp_stRow rfl rfl rfl rfl b3 pt_size rfl (by simp [Value.oneCell']) ?_
      replace b2 := b2.setRow_far (g' := w.heap.size + 1) (by omega) #[.int .i64 pr, .int .u16 sr, .int .u16 ds, .int .i64 fl, .int .i64 ki, .int .i64 co, .bool er, .int .i64 isz, .int .i64 i1, .int .i64 i2, .int .i64 i3, .int .u32 i4, .int .u32 i5, .int .i64 pat, .bool ba]
      replace b3 := b3.setRow #[.int .i64 pr, .int .u16 sr, .int .u16 ds, .int .i64 fl, .int .i64 ki, .int .i64 co, .bool er, .int .i64 isz, .int .i64 i1, .int .i64 i2, .int .i64 i3, .int .u32 i4, .int .u32 i5, .int .i64 pat, .bool ba]
      replace bh := bh.setRow_far (g' := w.heap.size + 1) (by omega) #[.int .i64 pr, .int .u16 sr, .int .u16 ds, .int .i64 fl, .int .i64 ki, .int .i64 co, .bool er, .int .i64 isz, .int .i64 i1, .int .i64 i2, .int .i64 i3, .int .u32 i4, .int .u32 i5, .int .i64 pat, .bool ba]
      replace bp := bp.setRow_far (g' := w.heap.size + 1) (by omega) #[.int .i64 pr, .int .u16 sr, .int .u16 ds, .int .i64 fl, .int .i64 ki, .int .i64 co, .bool er, .int .i64 isz, .int .i64 i1, .int .i64 i2, .int .i64 i3, .int .u32 i4, .int .u32 i5, .int .i64 pat, .bool ba]
      replace bel := below_setRow (g := w.heap.size + 1) bel (by omega) #[.int .i64 pr, .int .u16 sr, .int .u16 ds, .int .i64 fl, .int .i64 ki, .int .i64 co, .bool er, .int .i64 isz, .int .i64 i1, .int .i64 i2, .int .i64 i3, .int .u32 i4, .int .u32 i5, .int .i64 pat, .bool ba]
      refine hK _ _ ⟨bh, bp⟩ ?_
      clear hK K
      generalize W7.setRow (w.heap.size + 1) #[.int .i64 pr, .int .u16 sr, .int .u16 ds, .int .i64 fl, .int .i64 ki, .int .i64 co, .bool er, .int .i64 isz, .int .i64 i1, .int .i64 i2, .int .i64 i3, .int .u32 i4, .int .u32 i5, .int .i64 pat, .bool ba] = W8 at *
      refine wpPl_qs 1 _ _ _ (by kernel_rfl) (by kernel_rfl) (by simp) ?_
      unfold clsS
      simp only [List.take_succ_cons, List.take_zero, List.drop_succ_cons, List.drop_zero, List.filterMap_cons, List.filterMap_nil, List.getElem?_toArray, List.getElem?_cons_zero, List.getElem?_cons_succ]
      repeat (first
        | go_big_quiet_skip
        | (go_big_quiet_want; go_big_quiet_op; go_big_quiet_on)
        | (refine id (?_ : wpQuiet _ _ _ _ (_ :: _) _); first | go_big_quiet_skip | (go_big_quiet_want; go_big_quiet_op; go_big_quiet_on)))
      refine wpQuiet_nil ?_
      unfold wpPl
      refine NoPanic.normal ?_
      go_wp2_with fail
      exact bodyPost_ret (results_row3 rfl _ rfl b2 Tryz.underlying105 hd_size rfl b3 Tryz.underlying107 pt_size) rfl ⟨rfl, bel⟩
    · rw [if_neg hE2, if_neg hE2]
      have d1 : (E != 0) = true := by simpa using hE2
      have d2 : (E == 0) = false := by simpa using hE2
      simp only [Hd.val, Pt.val, Pt.z, Hd.z]
      replace k2 := Lib.hid k2
      clear hE2
      go_enter Tryz.func40, Tryz.ntmps40
      go_upto_region 1 with fail
      have b2 := (Blk.new w 105 #[.int .i64 0, .int .i64 0, .int .i64 0, .int .i64 0, .int .u32 0, .int .u32 0]).alloc (.cells #[.int .i64 0, .int .u16 0, .int .u16 0, .int .i64 0, .int .i64 0, .int .i64 0, .bool false, .int .i64 0, .int .i64 0, .int .i64 0, .int .i64 0, .int .u32 0, .int .u32 0, .int .i64 0, .bool false] 107)
      have b3 := Blk.new (w.alloc (.cells #[.int .i64 0, .int .i64 0, .int .i64 0, .int .i64 0, .int .u32 0, .int .u32 0] 105)) 107 #[.int .i64 0, .int .u16 0, .int .u16 0, .int .i64 0, .int .i64 0, .int .i64 0, .bool false, .int .i64 0, .int .i64 0, .int .i64 0, .int .i64 0, .int .u32 0, .int .u32 0, .int .i64 0, .bool false]
      rw [show (w.alloc (.cells #[.int .i64 0, .int .i64 0, .int .i64 0, .int .i64 0, .int .u32 0, .int .u32 0] 105)).heap.size = w.heap.size + 1 by simp] at b3
      have bel : Below w.heap.size w ((w.alloc (.cells #[.int .i64 0, .int .i64 0, .int .i64 0, .int .i64 0, .int .u32 0, .int .u32 0] 105)).alloc (.cells #[.int .i64 0, .int .u16 0, .int .u16 0, .int .i64 0, .int .i64 0, .int .i64 0, .bool false, .int .i64 0, .int .i64 0, .int .i64 0, .int .i64 0, .int .u32 0, .int .u32 0, .int .i64 0, .bool false] 107)) := (bel_alloc _ _).alloc (by simp) _
      generalize (w.alloc (.cells #[.int .i64 0, .int .i64 0, .int .i64 0, .int .i64 0, .int .u32 0, .int .u32 0] 105)).alloc (.cells #[.int .i64 0, .int .u16 0, .int .u16 0, .int .i64 0, .int .i64 0, .int .i64 0, .bool false, .int .i64 0, .int .i64 0, .int .i64 0, .int .i64 0, .int .u32 0, .int .u32 0, .int .i64 0, .bool false] 107) = W at *
      go_wp2_with fail
      refine (k1.out _ bel).mono ?_
      rintro e w2 ⟨rfl, hb⟩
      replace b2 := b2.bel hb
      replace b3 := b3.bel hb
      replace bel := bel_after bel hb
      clear hb k1
      have hgh0 : w.heap.size + 1 < w2.heap.size := b3.lt
      have bh := (Blk.new w2 105 #[.int .i64 0, .int .i64 0, .int .i64 0, .int .i64 0, .int .u32 0, .int .u32 0]).setRow #[.int .i64 h0, .int .i64 h1, .int .i64 h2, .int .i64 h3, .int .u32 h4, .int .u32 h5]
      replace b2 := (b2.alloc (.cells #[.int .i64 0, .int .i64 0, .int .i64 0, .int .i64 0, .int .u32 0, .int .u32 0] 105)).setRow_far (g' := w2.heap.size) (by omega) #[.int .i64 h0, .int .i64 h1, .int .i64 h2, .int .i64 h3, .int .u32 h4, .int .u32 h5]
      replace b3 := (b3.alloc (.cells #[.int .i64 0, .int .i64 0, .int .i64 0, .int .i64 0, .int .u32 0, .int .u32 0] 105)).setRow_far (g' := w2.heap.size) (by omega) #[.int .i64 h0, .int .i64 h1, .int .i64 h2, .int .i64 h3, .int .u32 h4, .int .u32 h5]
      replace bel := below_setRow (bel.alloc bel.size (.cells #[.int .i64 0, .int .i64 0, .int .i64 0, .int .i64 0, .int .u32 0, .int .u32 0] 105)) bel.size #[.int .i64 h0, .int .i64 h1, .int .i64 h2, .int .i64 h3, .int .u32 h4, .int .u32 h5]
      go_upto_region 4 with (refine wpList_stRow rfl rfl rfl rfl rfl (Blk.new w2 _ _) hd_size rfl (by simp [Value.oneCell']) ?_; generalize (w2.alloc (.cells #[.int .i64 0, .int .i64 0, .int .i64 0, .int .i64 0, .int .u32 0, .int .u32 0] 105)).setRow w2.heap.size #[.int .i64 h0, .int .i64 h1, .int .i64 h2, .int .i64 h3, .int .u32 h4, .int .u32 h5] = W4 at *; generalize w2.heap.size = gh at *)
      go_wp2_with (refine wpList_ldRow rfl rfl rfl bh Tryz.underlying105 hd_size ?_)
      refine (k2.out _ bel).mono ?_
      rintro e w3 ⟨rfl, hb⟩
      replace b2 := b2.bel hb
      replace b3 := b3.bel hb
      replace bh := bh.bel hb
      replace bel := bel_after bel hb
      clear hb k2
      have hgp0 : w.heap.size + 1 < w3.heap.size := b3.lt
      have hgp1 : gh < w3.heap.size := bh.lt
      have bp := (Blk.new w3 107 #[.int .i64 0, .int .u16 0, .int .u16 0, .int .i64 0, .int .i64 0, .int .i64 0, .bool false, .int .i64 0, .int .i64 0, .int .i64 0, .int .i64 0, .int .u32 0, .int .u32 0, .int .i64 0, .bool false]).setRow #[.int .i64 pr, .int .u16 sr, .int .u16 ds, .int .i64 fl, .int .i64 ki, .int .i64 co, .bool er, .int .i64 isz, .int .i64 i1, .int .i64 i2, .int .i64 i3, .int .u32 i4, .int .u32 i5, .int .i64 pat, .bool ba]
      replace b2 := (b2.alloc (.cells #[.int .i64 0, .int .u16 0, .int .u16 0, .int .i64 0, .int .i64 0, .int .i64 0, .bool false, .int .i64 0, .int .i64 0, .int .i64 0, .int .i64 0, .int .u32 0, .int .u32 0, .int .i64 0, .bool false] 107)).setRow_far (g' := w3.heap.size) (by omega) #[.int .i64 pr, .int .u16 sr, .int .u16 ds, .int .i64 fl, .int .i64 ki, .int .i64 co, .bool er, .int .i64 isz, .int .i64 i1, .int .i64 i2, .int .i64 i3, .int .u32 i4, .int .u32 i5, .int .i64 pat, .bool ba]
      replace b3 := (b3.alloc (.cells #[.int .i64 0, .int .u16 0, .int .u16 0, .int .i64 0, .int .i64 0, .int .i64 0, .bool false, .int .i64 0, .int .i64 0, .int .i64 0, .int .i64 0, .int .u32 0, .int .u32 0, .int .i64 0, .bool false] 107)).setRow_far (g' := w3.heap.size) (by omega) #[.int .i64 pr, .int .u16 sr, .int .u16 ds, .int .i64 fl, .int .i64 ki, .int .i64 co, .bool er, .int .i64 isz, .int .i64 i1, .int .i64 i2, .int .i64 i3, .int .u32 i4, .int .u32 i5, .int .i64 pat, .bool ba]
      replace bh := (bh.alloc (.cells #[.int .i64 0, .int .u16 0, .int .u16 0, .int .i64 0, .int .i64 0, .int .i64 0, .bool false, .int .i64 0, .int .i64 0, .int .i64 0, .int .i64 0, .int .u32 0, .int .u32 0, .int .i64 0, .bool false] 107)).setRow_far (g' := w3.heap.size) (by omega) #[.int .i64 pr, .int .u16 sr, .int .u16 ds, .int .i64 fl, .int .i64 ki, .int .i64 co, .bool er, .int .i64 isz, .int .i64 i1, .int .i64 i2, .int .i64 i3, .int .u32 i4, .int .u32 i5, .int .i64 pat, .bool ba]
      replace bel := below_setRow (bel.alloc bel.size (.cells #[.int .i64 0, .int .u16 0, .int .u16 0, .int .i64 0, .int .i64 0, .int .i64 0, .bool false, .int .i64 0, .int .i64 0, .int .i64 0, .int .i64 0, .int .u32 0, .int .u32 0, .int .i64 0, .bool false] 107)) bel.size #[.int .i64 pr, .int .u16 sr, .int .u16 ds, .int .i64 fl, .int .i64 ki, .int .i64 co, .bool er, .int .i64 isz, .int .i64 i1, .int .i64 i2, .int .i64 i3, .int .u32 i4, .int .u32 i5, .int .i64 pat, .bool ba]
      go_upto_region 6 with (refine wpList_stRow rfl rfl rfl rfl rfl (Blk.new w3 _ _) pt_size rfl (by simp [Value.oneCell']) ?_; generalize (w3.alloc (.cells #[.int .i64 0, .int .u16 0, .int .u16 0, .int .i64 0, .int .i64 0, .int .i64 0, .bool false, .int .i64 0, .int .i64 0, .int .i64 0, .int .i64 0, .int .u32 0, .int .u32 0, .int .i64 0, .bool false] 107)).setRow w3.heap.size #[.int .i64 pr, .int .u16 sr, .int .u16 ds, .int .i64 fl, .int .i64 ki, .int .i64 co, .bool er, .int .i64 isz, .int .i64 i1, .int .i64 i2, .int .i64 i3, .int .u32 i4, .int .u32 i5, .int .i64 pat, .bool ba] = W5 at *; generalize w3.heap.size = gp at *)
      have b3' := b3.setRow_far (g' := w.heap.size) (by omega) #[.int .i64 0, .int .i64 0, .int .i64 0, .int .i64 0, .int .u32 0, .int .u32 0]
      have b2' := b2.setRow #[.int .i64 0, .int .i64 0, .int .i64 0, .int .i64 0, .int .u32 0, .int .u32 0]
      go_wp2_with (first
        | (refine wpList_stRow rfl rfl rfl rfl rfl b2 hd_size rfl (by simp [Value.oneCell']) ?_)
        | (refine wpList_stRow rfl rfl rfl rfl rfl b3' pt_size rfl (by simp [Value.oneCell']) ?_))
      exact bodyPost_ret (results_row3 rfl _ rfl (b2'.setRow_far (g' := w.heap.size + 1) (by omega) #[.int .i64 0, .int .u16 0, .int .u16 0, .int .i64 0, .int .i64 0, .int .i64 0, .bool false, .int .i64 0, .int .i64 0, .int .i64 0, .int .i64 0, .int .u32 0, .int .u32 0, .int .i64 0, .bool false]) Tryz.underlying105 hd_size rfl (b3'.setRow #[.int .i64 0, .int .u16 0, .int .u16 0, .int .i64 0, .int .i64 0, .int .i64 0, .bool false, .int .i64 0, .int .i64 0, .int .i64 0, .int .i64 0, .int .u32 0, .int .u32 0, .int .i64 0, .bool false]) Tryz.underlying107 pt_size) rfl ⟨rfl, below_setRow (below_setRow bel (Nat.le_refl _) _) (by omega) _⟩
  · have he : rdE l = getE l := by unfold rdE; rw [if_neg hE]
    have hH : rdH l = Hd.z := by unfold rdH; rw [he, if_neg hE]
    have hP : rdP l = Pt.z := by unfold rdP; rw [he, if_neg hE]
    have hz : hdIf l (getE l) = Hd.z := by unfold hdIf; rw [if_neg hE]
    unfold ReadR
    rw [he, hH, hP]
    rw [hz] at k1
    clear he hH hP hz
    generalize getE l = E at *
    have d1 : (E != 0) = true := by simpa using hE
    have d2 : (E == 0) = false := by simpa using hE
    clear hE hr
    obtain ⟨h0, h1, h2, h3, h4, h5, hh⟩ : ∃ h0 h1 h2 h3 h4 h5 : Int, Hd.z = ⟨h0, h1, h2, h3, h4, h5⟩ := ⟨_, _, _, _, _, _, rfl⟩
    rw [hh] at k1
    clear hh
    simp only [Hd.val, Pt.val, Pt.z, Hd.z] at k1 ⊢
    replace k1 := Lib.hid k1
    go_enter Tryz.func40, Tryz.ntmps40
    go_upto_region 1 with fail
    have b2 := (Blk.new w 105 #[.int .i64 0, .int .i64 0, .int .i64 0, .int .i64 0, .int .u32 0, .int .u32 0]).alloc (.cells #[.int .i64 0, .int .u16 0, .int .u16 0, .int .i64 0, .int .i64 0, .int .i64 0, .bool false, .int .i64 0, .int .i64 0, .int .i64 0, .int .i64 0, .int .u32 0, .int .u32 0, .int .i64 0, .bool false] 107)
    have b3 := Blk.new (w.alloc (.cells #[.int .i64 0, .int .i64 0, .int .i64 0, .int .i64 0, .int .u32 0, .int .u32 0] 105)) 107 #[.int .i64 0, .int .u16 0, .int .u16 0, .int .i64 0, .int .i64 0, .int .i64 0, .bool false, .int .i64 0, .int .i64 0, .int .i64 0, .int .i64 0, .int .u32 0, .int .u32 0, .int .i64 0, .bool false]
    rw [show (w.alloc (.cells #[.int .i64 0, .int .i64 0, .int .i64 0, .int .i64 0, .int .u32 0, .int .u32 0] 105)).heap.size = w.heap.size + 1 by simp] at b3
    have bel : Below w.heap.size w ((w.alloc (.cells #[.int .i64 0, .int .i64 0, .int .i64 0, .int .i64 0, .int .u32 0, .int .u32 0] 105)).alloc (.cells #[.int .i64 0, .int .u16 0, .int .u16 0, .int .i64 0, .int .i64 0, .int .i64 0, .bool false, .int .i64 0, .int .i64 0, .int .i64 0, .int .i64 0, .int .u32 0, .int .u32 0, .int .i64 0, .bool false] 107)) := (bel_alloc _ _).alloc (by simp) _
    generalize (w.alloc (.cells #[.int .i64 0, .int .i64 0, .int .i64 0, .int .i64 0, .int .u32 0, .int .u32 0] 105)).alloc (.cells #[.int .i64 0, .int .u16 0, .int .u16 0, .int .i64 0, .int .i64 0, .int .i64 0, .bool false, .int .i64 0, .int .i64 0, .int .i64 0, .int .i64 0, .int .u32 0, .int .u32 0, .int .i64 0, .bool false] 107) = W at *
    go_wp2_with fail
    refine (k1.out _ bel).mono ?_
    rintro e w2 ⟨rfl, hb⟩
    replace b2 := b2.bel hb
    replace b3 := b3.bel hb
    replace bel := bel_after bel hb
    clear hb k1
    have hgh0 : w.heap.size + 1 < w2.heap.size := b3.lt
    have bh := (Blk.new w2 105 #[.int .i64 0, .int .i64 0, .int .i64 0, .int .i64 0, .int .u32 0, .int .u32 0]).setRow #[.int .i64 h0, .int .i64 h1, .int .i64 h2, .int .i64 h3, .int .u32 h4, .int .u32 h5]
    replace b2 := (b2.alloc (.cells #[.int .i64 0, .int .i64 0, .int .i64 0, .int .i64 0, .int .u32 0, .int .u32 0] 105)).setRow_far (g' := w2.heap.size) (by omega) #[.int .i64 h0, .int .i64 h1, .int .i64 h2, .int .i64 h3, .int .u32 h4, .int .u32 h5]
    replace b3 := (b3.alloc (.cells #[.int .i64 0, .int .i64 0, .int .i64 0, .int .i64 0, .int .u32 0, .int .u32 0] 105)).setRow_far (g' := w2.heap.size) (by omega) #[.int .i64 h0, .int .i64 h1, .int .i64 h2, .int .i64 h3, .int .u32 h4, .int .u32 h5]
    replace bel := below_setRow (bel.alloc bel.size (.cells #[.int .i64 0, .int .i64 0, .int .i64 0, .int .i64 0, .int .u32 0, .int .u32 0] 105)) bel.size #[.int .i64 h0, .int .i64 h1, .int .i64 h2, .int .i64 h3, .int .u32 h4, .int .u32 h5]
    go_upto_region 3 with (refine wpList_stRow rfl rfl rfl rfl rfl (Blk.new w2 _ _) hd_size rfl (by simp [Value.oneCell']) ?_; generalize (w2.alloc (.cells #[.int .i64 0, .int .i64 0, .int .i64 0, .int .i64 0, .int .u32 0, .int .u32 0] 105)).setRow w2.heap.size #[.int .i64 h0, .int .i64 h1, .int .i64 h2, .int .i64 h3, .int .u32 h4, .int .u32 h5] = W4 at *; generalize w2.heap.size = gh at *)
    have b3' := b3.setRow_far (g' := w.heap.size) (by omega) #[.int .i64 0, .int .i64 0, .int .i64 0, .int .i64 0, .int .u32 0, .int .u32 0]
    have b2' := b2.setRow #[.int .i64 0, .int .i64 0, .int .i64 0, .int .i64 0, .int .u32 0, .int .u32 0]
    go_wp2_with (first
      | (refine wpList_stRow rfl rfl rfl rfl rfl b2 hd_size rfl (by simp [Value.oneCell']) ?_)
      | (refine wpList_stRow rfl rfl rfl rfl rfl b3' pt_size rfl (by simp [Value.oneCell']) ?_))
    exact bodyPost_ret (results_row3 rfl _ rfl (b2'.setRow_far (g' := w.heap.size + 1) (by omega) #[.int .i64 0, .int .u16 0, .int .u16 0, .int .i64 0, .int .i64 0, .int .i64 0, .bool false, .int .i64 0, .int .i64 0, .int .i64 0, .int .i64 0, .int .u32 0, .int .u32 0, .int .i64 0, .bool false]) Tryz.underlying105 hd_size rfl (b3'.setRow #[.int .i64 0, .int .u16 0, .int .u16 0, .int .i64 0, .int .i64 0, .int .i64 0, .bool false, .int .i64 0, .int .i64 0, .int .i64 0, .int .i64 0, .int .u32 0, .int .u32 0, .int .i64 0, .bool false]) Tryz.underlying107 pt_size) rfl ⟨rfl, below_setRow (below_setRow bel (Nat.le_refl _) _) (by omega) _⟩
end Go.Proofs.YtbckoohljkmahaaGreat
namespace Go.Proofs.YtbckoohljkmahaaGreat
set_option linter.unusedVariables false
set_option linter.unusedSimpArgs false
open Go.RowKit
theorem fl_size : (Tryz.prog.info? 32).map (·.size) = some 3 := by kernel_rfl
set_option maxRecDepth 100000 in
set_option maxHeartbeats 2000000 in
theorem inside_any (h : Hd) (p : Pt) (w : World) : Calls Tryz.prog 41 #[h.val, p.val] w fun e w' => e = .returned (.agg (insF h p).cs) ∧ Below w.heap.size w w' := by
  obtain ⟨h0, h1, h2, h3, h4, h5⟩ := h
  obtain ⟨pr, sr, ds, fl, ki, co, er, ⟨isz, i1, i2, i3, i4, i5⟩, pat, ba⟩ := p
  cases er with
  | true =>
    simp only [Hd.val, Pt.val, insF, Fl.cs, if_true]
    go_enter Tryz.func41, Tryz.ntmps41
    go_upto_region 1 with fail
    have bh := ((Blk.new w 105 #[.int .i64 h0, .int .i64 h1, .int .i64 h2, .int .i64 h3, .int .u32 h4, .int .u32 h5]).alloc (.cells #[.int .i64 pr, .int .u16 sr, .int .u16 ds, .int .i64 fl, .int .i64 ki, .int .i64 co, .bool true, .int .i64 isz, .int .i64 i1, .int .i64 i2, .int .i64 i3, .int .u32 i4, .int .u32 i5, .int .i64 pat, .bool ba] 107)).alloc (.cells #[.int .i64 0, .int .u32 0, .int .u16 0] 32)
    have bp := (Blk.new (w.alloc (.cells #[.int .i64 h0, .int .i64 h1, .int .i64 h2, .int .i64 h3, .int .u32 h4, .int .u32 h5] 105)) 107 #[.int .i64 pr, .int .u16 sr, .int .u16 ds, .int .i64 fl, .int .i64 ki, .int .i64 co, .bool true, .int .i64 isz, .int .i64 i1, .int .i64 i2, .int .i64 i3, .int .u32 i4, .int .u32 i5, .int .i64 pat, .bool ba]).alloc (.cells #[.int .i64 0, .int .u32 0, .int .u16 0] 32)
    have br := Blk.new ((w.alloc (.cells #[.int .i64 h0, .int .i64 h1, .int .i64 h2, .int .i64 h3, .int .u32 h4, .int .u32 h5] 105)).alloc (.cells #[.int .i64 pr, .int .u16 sr, .int .u16 ds, .int .i64 fl, .int .i64 ki, .int .i64 co, .bool true, .int .i64 isz, .int .i64 i1, .int .i64 i2, .int .i64 i3, .int .u32 i4, .int .u32 i5, .int .i64 pat, .bool ba] 107)) 32 #[.int .i64 0, .int .u32 0, .int .u16 0]
    have bel : Below w.heap.size w (((w.alloc (.cells #[.int .i64 h0, .int .i64 h1, .int .i64 h2, .int .i64 h3, .int .u32 h4, .int .u32 h5] 105)).alloc (.cells #[.int .i64 pr, .int .u16 sr, .int .u16 ds, .int .i64 fl, .int .i64 ki, .int .i64 co, .bool true, .int .i64 isz, .int .i64 i1, .int .i64 i2, .int .i64 i3, .int .u32 i4, .int .u32 i5, .int .i64 pat, .bool ba] 107)).alloc (.cells #[.int .i64 0, .int .u32 0, .int .u16 0] 32)) := ((bel_alloc w _).alloc (by simp) _).alloc (by simp; omega) _
    rw [show (w.alloc (.cells #[.int .i64 h0, .int .i64 h1, .int .i64 h2, .int .i64 h3, .int .u32 h4, .int .u32 h5] 105)).heap.size = w.heap.size + 1 by simp] at bp
    rw [show ((w.alloc (.cells #[.int .i64 h0, .int .i64 h1, .int .i64 h2, .int .i64 h3, .int .u32 h4, .int .u32 h5] 105)).alloc (.cells #[.int .i64 pr, .int .u16 sr, .int .u16 ds, .int .i64 fl, .int .i64 ki, .int .i64 co, .bool true, .int .i64 isz, .int .i64 i1, .int .i64 i2, .int .i64 i3, .int .u32 i4, .int .u32 i5, .int .i64 pat, .bool ba] 107)).heap.size = w.heap.size + 1 + 1 by simp] at br
    generalize ((w.alloc (.cells #[.int .i64 h0, .int .i64 h1, .int .i64 h2, .int .i64 h3, .int .u32 h4, .int .u32 h5] 105)).alloc (.cells #[.int .i64 pr, .int .u16 sr, .int .u16 ds, .int .i64 fl, .int .i64 ki, .int .i64 co, .bool true, .int .i64 isz, .int .i64 i1, .int .i64 i2, .int .i64 i3, .int .u32 i4, .int .u32 i5, .int .i64 pat, .bool ba] 107)).alloc (.cells #[.int .i64 0, .int .u32 0, .int .u16 0] 32) = W at *
    have q3 := bh.cell 3
    have q4 := bh.cell 4
    have q5 := bh.cell 5
    have p1 := bp.cell 1
    have p2 := bp.cell 2
    have p6 := bp.cell 6
    have p10 := bp.cell 10
    have p11 := bp.cell 11
    have p12 := bp.cell 12
    go_wp2_with (refine wpList_stRow rfl rfl rfl rfl rfl br fl_size rfl (by simp [Value.oneCell']) ?_)
    exact bodyPost_ret (results_row rfl _ rfl (br.setRow _) Tryz.underlying32 fl_size) rfl ⟨rfl, below_setRow bel (by omega) _⟩
  | false =>
    simp only [Hd.val, Pt.val, insF, Fl.cs, Bool.false_eq_true, if_false]
    go_enter Tryz.func41, Tryz.ntmps41
    go_upto_region 1 with fail
    have bh := ((Blk.new w 105 #[.int .i64 h0, .int .i64 h1, .int .i64 h2, .int .i64 h3, .int .u32 h4, .int .u32 h5]).alloc (.cells #[.int .i64 pr, .int .u16 sr, .int .u16 ds, .int .i64 fl, .int .i64 ki, .int .i64 co, .bool false, .int .i64 isz, .int .i64 i1, .int .i64 i2, .int .i64 i3, .int .u32 i4, .int .u32 i5, .int .i64 pat, .bool ba] 107)).alloc (.cells #[.int .i64 0, .int .u32 0, .int .u16 0] 32)
    have bp := (Blk.new (w.alloc (.cells #[.int .i64 h0, .int .i64 h1, .int .i64 h2, .int .i64 h3, .int .u32 h4, .int .u32 h5] 105)) 107 #[.int .i64 pr, .int .u16 sr, .int .u16 ds, .int .i64 fl, .int .i64 ki, .int .i64 co, .bool false, .int .i64 isz, .int .i64 i1, .int .i64 i2, .int .i64 i3, .int .u32 i4, .int .u32 i5, .int .i64 pat, .bool ba]).alloc (.cells #[.int .i64 0, .int .u32 0, .int .u16 0] 32)
    have br := Blk.new ((w.alloc (.cells #[.int .i64 h0, .int .i64 h1, .int .i64 h2, .int .i64 h3, .int .u32 h4, .int .u32 h5] 105)).alloc (.cells #[.int .i64 pr, .int .u16 sr, .int .u16 ds, .int .i64 fl, .int .i64 ki, .int .i64 co, .bool false, .int .i64 isz, .int .i64 i1, .int .i64 i2, .int .i64 i3, .int .u32 i4, .int .u32 i5, .int .i64 pat, .bool ba] 107)) 32 #[.int .i64 0, .int .u32 0, .int .u16 0]
    have bel : Below w.heap.size w (((w.alloc (.cells #[.int .i64 h0, .int .i64 h1, .int .i64 h2, .int .i64 h3, .int .u32 h4, .int .u32 h5] 105)).alloc (.cells #[.int .i64 pr, .int .u16 sr, .int .u16 ds, .int .i64 fl, .int .i64 ki, .int .i64 co, .bool false, .int .i64 isz, .int .i64 i1, .int .i64 i2, .int .i64 i3, .int .u32 i4, .int .u32 i5, .int .i64 pat, .bool ba] 107)).alloc (.cells #[.int .i64 0, .int .u32 0, .int .u16 0] 32)) := ((bel_alloc w _).alloc (by simp) _).alloc (by simp; omega) _
    rw [show (w.alloc (.cells #[.int .i64 h0, .int .i64 h1, .int .i64 h2, .int .i64 h3, .int .u32 h4, .int .u32 h5] 105)).heap.size = w.heap.size + 1 by simp] at bp
    rw [show ((w.alloc (.cells #[.int .i64 h0, .int .i64 h1, .int .i64 h2, .int .i64 h3, .int .u32 h4, .int .u32 h5] 105)).alloc (.cells #[.int .i64 pr, .int .u16 sr, .int .u16 ds, .int .i64 fl, .int .i64 ki, .int .i64 co, .bool false, .int .i64 isz, .int .i64 i1, .int .i64 i2, .int .i64 i3, .int .u32 i4, .int .u32 i5, .int .i64 pat, .bool ba] 107)).heap.size = w.heap.size + 1 + 1 by simp] at br
    generalize ((w.alloc (.cells #[.int .i64 h0, .int .i64 h1, .int .i64 h2, .int .i64 h3, .int .u32 h4, .int .u32 h5] 105)).alloc (.cells #[.int .i64 pr, .int .u16 sr, .int .u16 ds, .int .i64 fl, .int .i64 ki, .int .i64 co, .bool false, .int .i64 isz, .int .i64 i1, .int .i64 i2, .int .i64 i3, .int .u32 i4, .int .u32 i5, .int .i64 pat, .bool ba] 107)).alloc (.cells #[.int .i64 0, .int .u32 0, .int .u16 0] 32) = W at *
    have q3 := bh.cell 3
    have q4 := bh.cell 4
    have q5 := bh.cell 5
    have p1 := bp.cell 1
    have p2 := bp.cell 2
    have p6 := bp.cell 6
    have p10 := bp.cell 10
    have p11 := bp.cell 11
    have p12 := bp.cell 12
    go_wp2_with (refine wpList_stRow rfl rfl rfl rfl rfl br fl_size rfl (by simp [Value.oneCell']) ?_)
    exact bodyPost_ret (results_row rfl _ rfl (br.setRow _) Tryz.underlying32 fl_size) rfl ⟨rfl, below_setRow bel (by omega) _⟩
set_option maxRecDepth 100000 in
set_option maxHeartbeats 2000000 in
theorem outside_any (h : Hd) (p : Pt) (w : World) : Calls Tryz.prog 42 #[h.val, p.val] w fun e w' => e = .returned (.agg (outF h p).cs) ∧ Below w.heap.size w w' := by
  obtain ⟨h0, h1, h2, h3, h4, h5⟩ := h
  obtain ⟨pr, sr, ds, fl, ki, co, er, ⟨isz, i1, i2, i3, i4, i5⟩, pat, ba⟩ := p
  cases er with
  | true =>
    simp only [Hd.val, Pt.val, outF, Fl.cs, if_true]
    go_enter Tryz.func42, Tryz.ntmps42
    go_upto_region 1 with fail
    have bh := ((Blk.new w 105 #[.int .i64 h0, .int .i64 h1, .int .i64 h2, .int .i64 h3, .int .u32 h4, .int .u32 h5]).alloc (.cells #[.int .i64 pr, .int .u16 sr, .int .u16 ds, .int .i64 fl, .int .i64 ki, .int .i64 co, .bool true, .int .i64 isz, .int .i64 i1, .int .i64 i2, .int .i64 i3, .int .u32 i4, .int .u32 i5, .int .i64 pat, .bool ba] 107)).alloc (.cells #[.int .i64 0, .int .u32 0, .int .u16 0] 32)
    have bp := (Blk.new (w.alloc (.cells #[.int .i64 h0, .int .i64 h1, .int .i64 h2, .int .i64 h3, .int .u32 h4, .int .u32 h5] 105)) 107 #[.int .i64 pr, .int .u16 sr, .int .u16 ds, .int .i64 fl, .int .i64 ki, .int .i64 co, .bool true, .int .i64 isz, .int .i64 i1, .int .i64 i2, .int .i64 i3, .int .u32 i4, .int .u32 i5, .int .i64 pat, .bool ba]).alloc (.cells #[.int .i64 0, .int .u32 0, .int .u16 0] 32)
    have br := Blk.new ((w.alloc (.cells #[.int .i64 h0, .int .i64 h1, .int .i64 h2, .int .i64 h3, .int .u32 h4, .int .u32 h5] 105)).alloc (.cells #[.int .i64 pr, .int .u16 sr, .int .u16 ds, .int .i64 fl, .int .i64 ki, .int .i64 co, .bool true, .int .i64 isz, .int .i64 i1, .int .i64 i2, .int .i64 i3, .int .u32 i4, .int .u32 i5, .int .i64 pat, .bool ba] 107)) 32 #[.int .i64 0, .int .u32 0, .int .u16 0]
    have bel : Below w.heap.size w (((w.alloc (.cells #[.int .i64 h0, .int .i64 h1, .int .i64 h2, .int .i64 h3, .int .u32 h4, .int .u32 h5] 105)).alloc (.cells #[.int .i64 pr, .int .u16 sr, .int .u16 ds, .int .i64 fl, .int .i64 ki, .int .i64 co, .bool true, .int .i64 isz, .int .i64 i1, .int .i64 i2, .int .i64 i3, .int .u32 i4, .int .u32 i5, .int .i64 pat, .bool ba] 107)).alloc (.cells #[.int .i64 0, .int .u32 0, .int .u16 0] 32)) := ((bel_alloc w _).alloc (by simp) _).alloc (by simp; omega) _
    rw [show (w.alloc (.cells #[.int .i64 h0, .int .i64 h1, .int .i64 h2, .int .i64 h3, .int .u32 h4, .int .u32 h5] 105)).heap.size = w.heap.size + 1 by simp] at bp
    rw [show ((w.alloc (.cells #[.int .i64 h0, .int .i64 h1, .int .i64 h2, .int .i64 h3, .int .u32 h4, .int .u32 h5] 105)).alloc (.cells #[.int .i64 pr, .int .u16 sr, .int .u16 ds, .int .i64 fl, .int .i64 ki, .int .i64 co, .bool true, .int .i64 isz, .int .i64 i1, .int .i64 i2, .int .i64 i3, .int .u32 i4, .int .u32 i5, .int .i64 pat, .bool ba] 107)).heap.size = w.heap.size + 1 + 1 by simp] at br
    generalize ((w.alloc (.cells #[.int .i64 h0, .int .i64 h1, .int .i64 h2, .int .i64 h3, .int .u32 h4, .int .u32 h5] 105)).alloc (.cells #[.int .i64 pr, .int .u16 sr, .int .u16 ds, .int .i64 fl, .int .i64 ki, .int .i64 co, .bool true, .int .i64 isz, .int .i64 i1, .int .i64 i2, .int .i64 i3, .int .u32 i4, .int .u32 i5, .int .i64 pat, .bool ba] 107)).alloc (.cells #[.int .i64 0, .int .u32 0, .int .u16 0] 32) = W at *
    have q3 := bh.cell 3
    have q4 := bh.cell 4
    have q5 := bh.cell 5
    have p1 := bp.cell 1
    have p2 := bp.cell 2
    have p6 := bp.cell 6
    have p10 := bp.cell 10
    have p11 := bp.cell 11
    have p12 := bp.cell 12
    go_wp2_with (refine wpList_stRow rfl rfl rfl rfl rfl br fl_size rfl (by simp [Value.oneCell']) ?_)
    exact bodyPost_ret (results_row rfl _ rfl (br.setRow _) Tryz.underlying32 fl_size) rfl ⟨rfl, below_setRow bel (by omega) _⟩
  | false =>
    simp only [Hd.val, Pt.val, outF, Fl.cs, Bool.false_eq_true, if_false]
    go_enter Tryz.func42, Tryz.ntmps42
    go_upto_region 1 with fail
    have bh := ((Blk.new w 105 #[.int .i64 h0, .int .i64 h1, .int .i64 h2, .int .i64 h3, .int .u32 h4, .int .u32 h5]).alloc (.cells #[.int .i64 pr, .int .u16 sr, .int .u16 ds, .int .i64 fl, .int .i64 ki, .int .i64 co, .bool false, .int .i64 isz, .int .i64 i1, .int .i64 i2, .int .i64 i3, .int .u32 i4, .int .u32 i5, .int .i64 pat, .bool ba] 107)).alloc (.cells #[.int .i64 0, .int .u32 0, .int .u16 0] 32)
    have bp := (Blk.new (w.alloc (.cells #[.int .i64 h0, .int .i64 h1, .int .i64 h2, .int .i64 h3, .int .u32 h4, .int .u32 h5] 105)) 107 #[.int .i64 pr, .int .u16 sr, .int .u16 ds, .int .i64 fl, .int .i64 ki, .int .i64 co, .bool false, .int .i64 isz, .int .i64 i1, .int .i64 i2, .int .i64 i3, .int .u32 i4, .int .u32 i5, .int .i64 pat, .bool ba]).alloc (.cells #[.int .i64 0, .int .u32 0, .int .u16 0] 32)
    have br := Blk.new ((w.alloc (.cells #[.int .i64 h0, .int .i64 h1, .int .i64 h2, .int .i64 h3, .int .u32 h4, .int .u32 h5] 105)).alloc (.cells #[.int .i64 pr, .int .u16 sr, .int .u16 ds, .int .i64 fl, .int .i64 ki, .int .i64 co, .bool false, .int .i64 isz, .int .i64 i1, .int .i64 i2, .int .i64 i3, .int .u32 i4, .int .u32 i5, .int .i64 pat, .bool ba] 107)) 32 #[.int .i64 0, .int .u32 0, .int .u16 0]
    have bel : Below w.heap.size w (((w.alloc (.cells #[.int .i64 h0, .int .i64 h1, .int .i64 h2, .int .i64 h3, .int .u32 h4, .int .u32 h5] 105)).alloc (.cells #[.int .i64 pr, .int .u16 sr, .int .u16 ds, .int .i64 fl, .int .i64 ki, .int .i64 co, .bool false, .int .i64 isz, .int .i64 i1, .int .i64 i2, .int .i64 i3, .int .u32 i4, .int .u32 i5, .int .i64 pat, .bool ba] 107)).alloc (.cells #[.int .i64 0, .int .u32 0, .int .u16 0] 32)) := ((bel_alloc w _).alloc (by simp) _).alloc (by simp; omega) _
    rw [show (w.alloc (.cells #[.int .i64 h0, .int .i64 h1, .int .i64 h2, .int .i64 h3, .int .u32 h4, .int .u32 h5] 105)).heap.size = w.heap.size + 1 by simp] at bp
    rw [show ((w.alloc (.cells #[.int .i64 h0, .int .i64 h1, .int .i64 h2, .int .i64 h3, .int .u32 h4, .int .u32 h5] 105)).alloc (.cells #[.int .i64 pr, .int .u16 sr, .int .u16 ds, .int .i64 fl, .int .i64 ki, .int .i64 co, .bool false, .int .i64 isz, .int .i64 i1, .int .i64 i2, .int .i64 i3, .int .u32 i4, .int .u32 i5, .int .i64 pat, .bool ba] 107)).heap.size = w.heap.size + 1 + 1 by simp] at br
    generalize ((w.alloc (.cells #[.int .i64 h0, .int .i64 h1, .int .i64 h2, .int .i64 h3, .int .u32 h4, .int .u32 h5] 105)).alloc (.cells #[.int .i64 pr, .int .u16 sr, .int .u16 ds, .int .i64 fl, .int .i64 ki, .int .i64 co, .bool false, .int .i64 isz, .int .i64 i1, .int .i64 i2, .int .i64 i3, .int .u32 i4, .int .u32 i5, .int .i64 pat, .bool ba] 107)).alloc (.cells #[.int .i64 0, .int .u32 0, .int .u16 0] 32) = W at *
    have q3 := bh.cell 3
    have q4 := bh.cell 4
    have q5 := bh.cell 5
    have p1 := bp.cell 1
    have p2 := bp.cell 2
    have p6 := bp.cell 6
    have p10 := bp.cell 10
    have p11 := bp.cell 11
    have p12 := bp.cell 12
    go_wp2_with (refine wpList_stRow rfl rfl rfl rfl rfl br fl_size rfl (by simp [Value.oneCell']) ?_)
    exact bodyPost_ret (results_row rfl _ rfl (br.setRow _) Tryz.underlying32 fl_size) rfl ⟨rfl, below_setRow bel (by omega) _⟩
def WhoR (w : World) (r : Fl × Int) (e : Ending) (w' : World) : Prop := e = .returned (.tuple #[.agg r.1.cs, .int .i64 r.2]) ∧ Below w.heap.size w w'
set_option maxRecDepth 100000 in
set_option maxHeartbeats 4000000 in
theorem Whose_any (wk ou lo hi bk rg : Int) (out : Bool) (l : List Int) (A : Option Addr) (len c : Nat) (w : World) (hr : Rd .u8 w w.heap.size A len l) (hlc : len ≤ c) (hcm : c ≤ 9223372036854775807) (hl : len ≤ 60000) :
    Calls Tryz.prog 13 #[.agg #[.int .i64 wk, .int .u32 ou, .int .i64 lo, .int .i64 hi, .int .i64 bk, .int .i64 rg], .bool out, .slice A len c] w (WhoR w (whoP ou out l)) := by
  have k1 := fun W (h : Below w.heap.size w W) => read_any l A len c W ((hr.below h).more h.size) hlc hcm hl
  unfold whoP
  unfold ReadR at k1
  clear hr
  generalize rdE l = E at *
  generalize rdP l = p at *
  generalize rdH l = h at *
  have kin := fun W => inside_any h p W
  have ko := fun W => outside_any h p W
  obtain ⟨F, hF⟩ : ∃ F, insF h p = F := ⟨_, rfl⟩
  obtain ⟨G, hG⟩ : ∃ G, outF h p = G := ⟨_, rfl⟩
  rw [hF] at kin ⊢
  rw [hG] at ko ⊢
  clear hF hG
  obtain ⟨h0, h1, h2, h3, h4, h5⟩ := h
  obtain ⟨pr, sr, ds, fl, ki, co, er, ⟨isz, i1, i2, i3, i4, i5⟩, pat, ba⟩ := p
  obtain ⟨f1, f2, f3⟩ := F
  obtain ⟨g1, g2, g3⟩ := G
  simp only [Hd.val, Pt.val, Fl.cs] at k1 kin ko ⊢
  replace k1 := Lib.hid k1
  replace kin := Lib.hid kin
  replace ko := Lib.hid ko
  by_cases hE : E = 0
  · subst hE
    rw [if_neg (by simp)]
    cases out with
    | true =>
      simp only [if_true, WhoR, Fl.cs]
      clear ko
      go_enter Tryz.func13, Tryz.ntmps13
      go_upto_region 1 with fail
      have bc := (Blk.new w 36 #[.int .i64 wk, .int .u32 ou, .int .i64 lo, .int .i64 hi, .int .i64 bk, .int .i64 rg]).alloc (.cells #[.int .i64 0, .int .u32 0, .int .u16 0] 32)
      have br := Blk.new (w.alloc (.cells #[.int .i64 wk, .int .u32 ou, .int .i64 lo, .int .i64 hi, .int .i64 bk, .int .i64 rg] 36)) 32 #[.int .i64 0, .int .u32 0, .int .u16 0]
      rw [show (w.alloc (.cells #[.int .i64 wk, .int .u32 ou, .int .i64 lo, .int .i64 hi, .int .i64 bk, .int .i64 rg] 36)).heap.size = w.heap.size + 1 by simp] at br
      have bel : Below w.heap.size w ((w.alloc (.cells #[.int .i64 wk, .int .u32 ou, .int .i64 lo, .int .i64 hi, .int .i64 bk, .int .i64 rg] 36)).alloc (.cells #[.int .i64 0, .int .u32 0, .int .u16 0] 32)) := (bel_alloc _ _).alloc (by simp) _
      generalize (w.alloc (.cells #[.int .i64 wk, .int .u32 ou, .int .i64 lo, .int .i64 hi, .int .i64 bk, .int .i64 rg] 36)).alloc (.cells #[.int .i64 0, .int .u32 0, .int .u16 0] 32) = W at *
      go_wp2_with fail
      refine (k1.out _ bel).mono ?_
      rintro e w2 ⟨rfl, hb⟩
      replace bc := bc.bel hb
      replace br := br.bel hb
      replace bel := bel_after bel hb
      clear hb k1
      have hg0 : w.heap.size + 1 < w2.heap.size := br.lt
      have bh1 := (Blk.new w2 105 #[.int .i64 0, .int .i64 0, .int .i64 0, .int .i64 0, .int .u32 0, .int .u32 0]).alloc (.cells #[.int .i64 0, .int .u16 0, .int .u16 0, .int .i64 0, .int .i64 0, .int .i64 0, .bool false, .int .i64 0, .int .i64 0, .int .i64 0, .int .i64 0, .int .u32 0, .int .u32 0, .int .i64 0, .bool false] 107)
      have bp1 := Blk.new (w2.alloc (.cells #[.int .i64 0, .int .i64 0, .int .i64 0, .int .i64 0, .int .u32 0, .int .u32 0] 105)) 107 #[.int .i64 0, .int .u16 0, .int .u16 0, .int .i64 0, .int .i64 0, .int .i64 0, .bool false, .int .i64 0, .int .i64 0, .int .i64 0, .int .i64 0, .int .u32 0, .int .u32 0, .int .i64 0, .bool false]
      rw [show (w2.alloc (.cells #[.int .i64 0, .int .i64 0, .int .i64 0, .int .i64 0, .int .u32 0, .int .u32 0] 105)).heap.size = w2.heap.size + 1 by simp] at bp1
      have bh := (bh1.setRow #[.int .i64 h0, .int .i64 h1, .int .i64 h2, .int .i64 h3, .int .u32 h4, .int .u32 h5]).setRow_far (g' := w2.heap.size + 1) (by omega) #[.int .i64 pr, .int .u16 sr, .int .u16 ds, .int .i64 fl, .int .i64 ki, .int .i64 co, .bool er, .int .i64 isz, .int .i64 i1, .int .i64 i2, .int .i64 i3, .int .u32 i4, .int .u32 i5, .int .i64 pat, .bool ba]
      replace bp1 := bp1.setRow_far (g' := w2.heap.size) (by omega) #[.int .i64 h0, .int .i64 h1, .int .i64 h2, .int .i64 h3, .int .u32 h4, .int .u32 h5]
      have bp := bp1.setRow #[.int .i64 pr, .int .u16 sr, .int .u16 ds, .int .i64 fl, .int .i64 ki, .int .i64 co, .bool er, .int .i64 isz, .int .i64 i1, .int .i64 i2, .int .i64 i3, .int .u32 i4, .int .u32 i5, .int .i64 pat, .bool ba]
      replace bc := ((((bc.alloc (.cells #[.int .i64 0, .int .i64 0, .int .i64 0, .int .i64 0, .int .u32 0, .int .u32 0] 105)).alloc (.cells #[.int .i64 0, .int .u16 0, .int .u16 0, .int .i64 0, .int .i64 0, .int .i64 0, .bool false, .int .i64 0, .int .i64 0, .int .i64 0, .int .i64 0, .int .u32 0, .int .u32 0, .int .i64 0, .bool false] 107)).setRow_far (g' := w2.heap.size) (by omega) #[.int .i64 h0, .int .i64 h1, .int .i64 h2, .int .i64 h3, .int .u32 h4, .int .u32 h5]).setRow_far (g' := w2.heap.size + 1) (by omega) #[.int .i64 pr, .int .u16 sr, .int .u16 ds, .int .i64 fl, .int .i64 ki, .int .i64 co, .bool er, .int .i64 isz, .int .i64 i1, .int .i64 i2, .int .i64 i3, .int .u32 i4, .int .u32 i5, .int .i64 pat, .bool ba])
      replace br := ((((br.alloc (.cells #[.int .i64 0, .int .i64 0, .int .i64 0, .int .i64 0, .int .u32 0, .int .u32 0] 105)).alloc (.cells #[.int .i64 0, .int .u16 0, .int .u16 0, .int .i64 0, .int .i64 0, .int .i64 0, .bool false, .int .i64 0, .int .i64 0, .int .i64 0, .int .i64 0, .int .u32 0, .int .u32 0, .int .i64 0, .bool false] 107)).setRow_far (g' := w2.heap.size) (by omega) #[.int .i64 h0, .int .i64 h1, .int .i64 h2, .int .i64 h3, .int .u32 h4, .int .u32 h5]).setRow_far (g' := w2.heap.size + 1) (by omega) #[.int .i64 pr, .int .u16 sr, .int .u16 ds, .int .i64 fl, .int .i64 ki, .int .i64 co, .bool er, .int .i64 isz, .int .i64 i1, .int .i64 i2, .int .i64 i3, .int .u32 i4, .int .u32 i5, .int .i64 pat, .bool ba])
      replace bel := below_setRow (g := w2.heap.size + 1) (below_setRow (((bel.alloc bel.size (.cells #[.int .i64 0, .int .i64 0, .int .i64 0, .int .i64 0, .int .u32 0, .int .u32 0] 105)).alloc (by simp; have := bel.size; omega) (.cells #[.int .i64 0, .int .u16 0, .int .u16 0, .int .i64 0, .int .i64 0, .int .i64 0, .bool false, .int .i64 0, .int .i64 0, .int .i64 0, .int .i64 0, .int .u32 0, .int .u32 0, .int .i64 0, .bool false] 107))) bel.size #[.int .i64 h0, .int .i64 h1, .int .i64 h2, .int .i64 h3, .int .u32 h4, .int .u32 h5]) (by have := bel.size; omega) #[.int .i64 pr, .int .u16 sr, .int .u16 ds, .int .i64 fl, .int .i64 ki, .int .i64 co, .bool er, .int .i64 isz, .int .i64 i1, .int .i64 i2, .int .i64 i3, .int .u32 i4, .int .u32 i5, .int .i64 pat, .bool ba]
      go_upto_region 5 with (first | (refine wpList_stRow rfl rfl rfl rfl rfl bh1 hd_size rfl (by simp [Value.oneCell']) ?_) | (refine wpList_stRow rfl rfl rfl rfl rfl bp1 pt_size rfl (by simp [Value.oneCell']) ?_; generalize (((w2.alloc (.cells #[.int .i64 0, .int .i64 0, .int .i64 0, .int .i64 0, .int .u32 0, .int .u32 0] 105)).alloc (.cells #[.int .i64 0, .int .u16 0, .int .u16 0, .int .i64 0, .int .i64 0, .int .i64 0, .bool false, .int .i64 0, .int .i64 0, .int .i64 0, .int .i64 0, .int .u32 0, .int .u32 0, .int .i64 0, .bool false] 107)).setRow w2.heap.size #[.int .i64 h0, .int .i64 h1, .int .i64 h2, .int .i64 h3, .int .u32 h4, .int .u32 h5]).setRow (w2.heap.size + 1) #[.int .i64 pr, .int .u16 sr, .int .u16 ds, .int .i64 fl, .int .i64 ki, .int .i64 co, .bool er, .int .i64 isz, .int .i64 i1, .int .i64 i2, .int .i64 i3, .int .u32 i4, .int .u32 i5, .int .i64 pat, .bool ba] = W4 at *; generalize hgh : w2.heap.size = gh at *; replace hgh := Lib.hid hgh; clear bh1 bp1))
      go_wp2_with (first
        | (refine wpList_ldRow rfl rfl rfl bh Tryz.underlying105 hd_size ?_)
        | (refine wpList_ldRow rfl rfl rfl bp Tryz.underlying107 pt_size ?_))
      refine (kin.out _).mono ?_
      rintro e w3 ⟨rfl, hb⟩
      replace br := br.bel hb
      replace bel := bel_after bel hb
      go_wp2_with (refine wpList_stRow rfl rfl rfl rfl rfl br fl_size rfl (by simp [Value.oneCell']) ?_)
      exact bodyPost_ret (results_row2 rfl _ rfl (br.setRow _) Tryz.underlying32 fl_size) rfl ⟨rfl, below_setRow bel (by omega) _⟩
    | false =>
      simp only [Bool.false_eq_true, if_false]
      clear kin
      have key : ∀ (T : Bool) (r : Fl × Int), ((h5 != ou) = true ∧ T = true ∨ (h5 != ou) = false ∧ (g2 != ou) = T) → r = (if T = true then (Fl.z, 7) else (⟨g1, g2, g3⟩, 0)) → Calls Tryz.prog 13 #[.agg #[.int .i64 wk, .int .u32 ou, .int .i64 lo, .int .i64 hi, .int .i64 bk, .int .i64 rg], .bool false, .slice A len c] w (WhoR w r) := by
        intro T r hT hr
        subst hr
        rcases hT with ⟨hd, rfl⟩ | ⟨hd, hd2⟩
        · simp only [if_true, WhoR, Fl.cs, Fl.z]
          go_enter Tryz.func13, Tryz.ntmps13
          go_upto_region 1 with fail
          have bc := (Blk.new w 36 #[.int .i64 wk, .int .u32 ou, .int .i64 lo, .int .i64 hi, .int .i64 bk, .int .i64 rg]).alloc (.cells #[.int .i64 0, .int .u32 0, .int .u16 0] 32)
          have br := Blk.new (w.alloc (.cells #[.int .i64 wk, .int .u32 ou, .int .i64 lo, .int .i64 hi, .int .i64 bk, .int .i64 rg] 36)) 32 #[.int .i64 0, .int .u32 0, .int .u16 0]
          rw [show (w.alloc (.cells #[.int .i64 wk, .int .u32 ou, .int .i64 lo, .int .i64 hi, .int .i64 bk, .int .i64 rg] 36)).heap.size = w.heap.size + 1 by simp] at br
          have bel : Below w.heap.size w ((w.alloc (.cells #[.int .i64 wk, .int .u32 ou, .int .i64 lo, .int .i64 hi, .int .i64 bk, .int .i64 rg] 36)).alloc (.cells #[.int .i64 0, .int .u32 0, .int .u16 0] 32)) := (bel_alloc _ _).alloc (by simp) _
          generalize (w.alloc (.cells #[.int .i64 wk, .int .u32 ou, .int .i64 lo, .int .i64 hi, .int .i64 bk, .int .i64 rg] 36)).alloc (.cells #[.int .i64 0, .int .u32 0, .int .u16 0] 32) = W at *
          go_wp2_with fail
          refine (k1.out _ bel).mono ?_
          rintro e w2 ⟨rfl, hb⟩
          replace bc := bc.bel hb
          replace br := br.bel hb
          replace bel := bel_after bel hb
          clear hb k1
          have hg0 : w.heap.size + 1 < w2.heap.size := br.lt
          have bh1 := (Blk.new w2 105 #[.int .i64 0, .int .i64 0, .int .i64 0, .int .i64 0, .int .u32 0, .int .u32 0]).alloc (.cells #[.int .i64 0, .int .u16 0, .int .u16 0, .int .i64 0, .int .i64 0, .int .i64 0, .bool false, .int .i64 0, .int .i64 0, .int .i64 0, .int .i64 0, .int .u32 0, .int .u32 0, .int .i64 0, .bool false] 107)
          have bp1 := Blk.new (w2.alloc (.cells #[.int .i64 0, .int .i64 0, .int .i64 0, .int .i64 0, .int .u32 0, .int .u32 0] 105)) 107 #[.int .i64 0, .int .u16 0, .int .u16 0, .int .i64 0, .int .i64 0, .int .i64 0, .bool false, .int .i64 0, .int .i64 0, .int .i64 0, .int .i64 0, .int .u32 0, .int .u32 0, .int .i64 0, .bool false]
          rw [show (w2.alloc (.cells #[.int .i64 0, .int .i64 0, .int .i64 0, .int .i64 0, .int .u32 0, .int .u32 0] 105)).heap.size = w2.heap.size + 1 by simp] at bp1
          have bh := (bh1.setRow #[.int .i64 h0, .int .i64 h1, .int .i64 h2, .int .i64 h3, .int .u32 h4, .int .u32 h5]).setRow_far (g' := w2.heap.size + 1) (by omega) #[.int .i64 pr, .int .u16 sr, .int .u16 ds, .int .i64 fl, .int .i64 ki, .int .i64 co, .bool er, .int .i64 isz, .int .i64 i1, .int .i64 i2, .int .i64 i3, .int .u32 i4, .int .u32 i5, .int .i64 pat, .bool ba]
          replace bp1 := bp1.setRow_far (g' := w2.heap.size) (by omega) #[.int .i64 h0, .int .i64 h1, .int .i64 h2, .int .i64 h3, .int .u32 h4, .int .u32 h5]
          have bp := bp1.setRow #[.int .i64 pr, .int .u16 sr, .int .u16 ds, .int .i64 fl, .int .i64 ki, .int .i64 co, .bool er, .int .i64 isz, .int .i64 i1, .int .i64 i2, .int .i64 i3, .int .u32 i4, .int .u32 i5, .int .i64 pat, .bool ba]
          replace bc := ((((bc.alloc (.cells #[.int .i64 0, .int .i64 0, .int .i64 0, .int .i64 0, .int .u32 0, .int .u32 0] 105)).alloc (.cells #[.int .i64 0, .int .u16 0, .int .u16 0, .int .i64 0, .int .i64 0, .int .i64 0, .bool false, .int .i64 0, .int .i64 0, .int .i64 0, .int .i64 0, .int .u32 0, .int .u32 0, .int .i64 0, .bool false] 107)).setRow_far (g' := w2.heap.size) (by omega) #[.int .i64 h0, .int .i64 h1, .int .i64 h2, .int .i64 h3, .int .u32 h4, .int .u32 h5]).setRow_far (g' := w2.heap.size + 1) (by omega) #[.int .i64 pr, .int .u16 sr, .int .u16 ds, .int .i64 fl, .int .i64 ki, .int .i64 co, .bool er, .int .i64 isz, .int .i64 i1, .int .i64 i2, .int .i64 i3, .int .u32 i4, .int .u32 i5, .int .i64 pat, .bool ba])
          replace br := ((((br.alloc (.cells #[.int .i64 0, .int .i64 0, .int .i64 0, .int .i64 0, .int .u32 0, .int .u32 0] 105)).alloc (.cells #[.int .i64 0, .int .u16 0, .int .u16 0, .int .i64 0, .int .i64 0, .int .i64 0, .bool false, .int .i64 0, .int .i64 0, .int .i64 0, .int .i64 0, .int .u32 0, .int .u32 0, .int .i64 0, .bool false] 107)).setRow_far (g' := w2.heap.size) (by omega) #[.int .i64 h0, .int .i64 h1, .int .i64 h2, .int .i64 h3, .int .u32 h4, .int .u32 h5]).setRow_far (g' := w2.heap.size + 1) (by omega) #[.int .i64 pr, .int .u16 sr, .int .u16 ds, .int .i64 fl, .int .i64 ki, .int .i64 co, .bool er, .int .i64 isz, .int .i64 i1, .int .i64 i2, .int .i64 i3, .int .u32 i4, .int .u32 i5, .int .i64 pat, .bool ba])
          replace bel := below_setRow (g := w2.heap.size + 1) (below_setRow (((bel.alloc bel.size (.cells #[.int .i64 0, .int .i64 0, .int .i64 0, .int .i64 0, .int .u32 0, .int .u32 0] 105)).alloc (by simp; have := bel.size; omega) (.cells #[.int .i64 0, .int .u16 0, .int .u16 0, .int .i64 0, .int .i64 0, .int .i64 0, .bool false, .int .i64 0, .int .i64 0, .int .i64 0, .int .i64 0, .int .u32 0, .int .u32 0, .int .i64 0, .bool false] 107))) bel.size #[.int .i64 h0, .int .i64 h1, .int .i64 h2, .int .i64 h3, .int .u32 h4, .int .u32 h5]) (by have := bel.size; omega) #[.int .i64 pr, .int .u16 sr, .int .u16 ds, .int .i64 fl, .int .i64 ki, .int .i64 co, .bool er, .int .i64 isz, .int .i64 i1, .int .i64 i2, .int .i64 i3, .int .u32 i4, .int .u32 i5, .int .i64 pat, .bool ba]
          go_upto_region 6 with (first | (refine wpList_stRow rfl rfl rfl rfl rfl bh1 hd_size rfl (by simp [Value.oneCell']) ?_) | (refine wpList_stRow rfl rfl rfl rfl rfl bp1 pt_size rfl (by simp [Value.oneCell']) ?_; generalize (((w2.alloc (.cells #[.int .i64 0, .int .i64 0, .int .i64 0, .int .i64 0, .int .u32 0, .int .u32 0] 105)).alloc (.cells #[.int .i64 0, .int .u16 0, .int .u16 0, .int .i64 0, .int .i64 0, .int .i64 0, .bool false, .int .i64 0, .int .i64 0, .int .i64 0, .int .i64 0, .int .u32 0, .int .u32 0, .int .i64 0, .bool false] 107)).setRow w2.heap.size #[.int .i64 h0, .int .i64 h1, .int .i64 h2, .int .i64 h3, .int .u32 h4, .int .u32 h5]).setRow (w2.heap.size + 1) #[.int .i64 pr, .int .u16 sr, .int .u16 ds, .int .i64 fl, .int .i64 ki, .int .i64 co, .bool er, .int .i64 isz, .int .i64 i1, .int .i64 i2, .int .i64 i3, .int .u32 i4, .int .u32 i5, .int .i64 pat, .bool ba] = W4 at *; generalize hgh : w2.heap.size = gh at *; replace hgh := Lib.hid hgh; clear bh1 bp1))
          go_wp2_with (first
            | (refine wpList_ldRow rfl rfl rfl bh Tryz.underlying105 hd_size ?_)
            | (refine wpList_ldRow rfl rfl rfl bp Tryz.underlying107 pt_size ?_))
          refine (ko.out _).mono ?_
          rintro e w3 ⟨rfl, hb⟩
          replace br := br.bel hb
          replace bh := bh.bel hb
          replace bc := bc.bel hb
          replace bel := bel_after bel hb
          have hg3 : w.heap.size + 1 < w3.heap.size := br.lt
          have hg4 : gh < w3.heap.size := bh.lt
          clear hb ko
          have bo := (Blk.new w3 32 #[.int .i64 0, .int .u32 0, .int .u16 0]).setRow #[.int .i64 g1, .int .u32 g2, .int .u16 g3]
          replace br := (br.alloc (.cells #[.int .i64 0, .int .u32 0, .int .u16 0] 32)).setRow_far (g' := w3.heap.size) (by omega) #[.int .i64 g1, .int .u32 g2, .int .u16 g3]
          replace bh := (bh.alloc (.cells #[.int .i64 0, .int .u32 0, .int .u16 0] 32)).setRow_far (g' := w3.heap.size) (by omega) #[.int .i64 g1, .int .u32 g2, .int .u16 g3]
          replace bc := (bc.alloc (.cells #[.int .i64 0, .int .u32 0, .int .u16 0] 32)).setRow_far (g' := w3.heap.size) (by omega) #[.int .i64 g1, .int .u32 g2, .int .u16 g3]
          replace bel := below_setRow (bel.alloc bel.size (.cells #[.int .i64 0, .int .u32 0, .int .u16 0] 32)) bel.size #[.int .i64 g1, .int .u32 g2, .int .u16 g3]
          go_upto_region 7 with (refine wpList_stRow rfl rfl rfl rfl rfl (Blk.new w3 _ _) fl_size rfl (by simp [Value.oneCell']) ?_; generalize (w3.alloc (.cells #[.int .i64 0, .int .u32 0, .int .u16 0] 32)).setRow w3.heap.size #[.int .i64 g1, .int .u32 g2, .int .u16 g3] = W5 at *; generalize w3.heap.size = go at *)
          have q5 := bh.cell 5
          have c1 := bc.cell 1
          have o1 := bo.cell 1
          go_wp2_with (first
            | (refine wpList_ldRow rfl rfl rfl bo Tryz.underlying32 fl_size ?_)
            | (refine wpList_stRow rfl rfl rfl rfl rfl br fl_size rfl (by simp [Value.oneCell']) ?_))
          exact bodyPost_ret (results_row2 rfl _ rfl (br.setRow _) Tryz.underlying32 fl_size) rfl ⟨rfl, below_setRow bel (by omega) _⟩
        · cases T with
          | true =>
            simp only [if_true, WhoR, Fl.cs, Fl.z]
            go_enter Tryz.func13, Tryz.ntmps13
            go_upto_region 1 with fail
            have bc := (Blk.new w 36 #[.int .i64 wk, .int .u32 ou, .int .i64 lo, .int .i64 hi, .int .i64 bk, .int .i64 rg]).alloc (.cells #[.int .i64 0, .int .u32 0, .int .u16 0] 32)
            have br := Blk.new (w.alloc (.cells #[.int .i64 wk, .int .u32 ou, .int .i64 lo, .int .i64 hi, .int .i64 bk, .int .i64 rg] 36)) 32 #[.int .i64 0, .int .u32 0, .int .u16 0]
            rw [show (w.alloc (.cells #[.int .i64 wk, .int .u32 ou, .int .i64 lo, .int .i64 hi, .int .i64 bk, .int .i64 rg] 36)).heap.size = w.heap.size + 1 by simp] at br
            have bel : Below w.heap.size w ((w.alloc (.cells #[.int .i64 wk, .int .u32 ou, .int .i64 lo, .int .i64 hi, .int .i64 bk, .int .i64 rg] 36)).alloc (.cells #[.int .i64 0, .int .u32 0, .int .u16 0] 32)) := (bel_alloc _ _).alloc (by simp) _
            generalize (w.alloc (.cells #[.int .i64 wk, .int .u32 ou, .int .i64 lo, .int .i64 hi, .int .i64 bk, .int .i64 rg] 36)).alloc (.cells #[.int .i64 0, .int .u32 0, .int .u16 0] 32) = W at *
            go_wp2_with fail
            refine (k1.out _ bel).mono ?_
            rintro e w2 ⟨rfl, hb⟩
            replace bc := bc.bel hb
            replace br := br.bel hb
            replace bel := bel_after bel hb
            clear hb k1
            have hg0 : w.heap.size + 1 < w2.heap.size := br.lt
            have bh1 := (Blk.new w2 105 #[.int .i64 0, .int .i64 0, .int .i64 0, .int .i64 0, .int .u32 0, .int .u32 0]).alloc (.cells #[.int .i64 0, .int .u16 0, .int .u16 0, .int .i64 0, .int .i64 0, .int .i64 0, .bool false, .int .i64 0, .int .i64 0, .int .i64 0, .int .i64 0, .int .u32 0, .int .u32 0, .int .i64 0, .bool false] 107)
            have bp1 := Blk.new (w2.alloc (.cells #[.int .i64 0, .int .i64 0, .int .i64 0, .int .i64 0, .int .u32 0, .int .u32 0] 105)) 107 #[.int .i64 0, .int .u16 0, .int .u16 0, .int .i64 0, .int .i64 0, .int .i64 0, .bool false, .int .i64 0, .int .i64 0, .int .i64 0, .int .i64 0, .int .u32 0, .int .u32 0, .int .i64 0, .bool false]
            rw [show (w2.alloc (.cells #[.int .i64 0, .int .i64 0, .int .i64 0, .int .i64 0, .int .u32 0, .int .u32 0] 105)).heap.size = w2.heap.size + 1 by simp] at bp1
            have bh := (bh1.setRow #[.int .i64 h0, .int .i64 h1, .int .i64 h2, .int .i64 h3, .int .u32 h4, .int .u32 h5]).setRow_far (g' := w2.heap.size + 1) (by omega) #[.int .i64 pr, .int .u16 sr, .int .u16 ds, .int .i64 fl, .int .i64 ki, .int .i64 co, .bool er, .int .i64 isz, .int .i64 i1, .int .i64 i2, .int .i64 i3, .int .u32 i4, .int .u32 i5, .int .i64 pat, .bool ba]
            replace bp1 := bp1.setRow_far (g' := w2.heap.size) (by omega) #[.int .i64 h0, .int .i64 h1, .int .i64 h2, .int .i64 h3, .int .u32 h4, .int .u32 h5]
            have bp := bp1.setRow #[.int .i64 pr, .int .u16 sr, .int .u16 ds, .int .i64 fl, .int .i64 ki, .int .i64 co, .bool er, .int .i64 isz, .int .i64 i1, .int .i64 i2, .int .i64 i3, .int .u32 i4, .int .u32 i5, .int .i64 pat, .bool ba]
            replace bc := ((((bc.alloc (.cells #[.int .i64 0, .int .i64 0, .int .i64 0, .int .i64 0, .int .u32 0, .int .u32 0] 105)).alloc (.cells #[.int .i64 0, .int .u16 0, .int .u16 0, .int .i64 0, .int .i64 0, .int .i64 0, .bool false, .int .i64 0, .int .i64 0, .int .i64 0, .int .i64 0, .int .u32 0, .int .u32 0, .int .i64 0, .bool false] 107)).setRow_far (g' := w2.heap.size) (by omega) #[.int .i64 h0, .int .i64 h1, .int .i64 h2, .int .i64 h3, .int .u32 h4, .int .u32 h5]).setRow_far (g' := w2.heap.size + 1) (by omega) #[.int .i64 pr, .int .u16 sr, .int .u16 ds, .int .i64 fl, .int .i64 ki, .int .i64 co, .bool er, .int .i64 isz, .int .i64 i1, .int .i64 i2, .int .i64 i3, .int .u32 i4, .int .u32 i5, .int .i64 pat, .bool ba])
            replace br := ((((br.alloc (.cells #[.int .i64 0, .int .i64 0, .int .i64 0, .int .i64 0, .int .u32 0, .int .u32 0] 105)).alloc (.cells #[.int .i64 0, .int .u16 0, .int .u16 0, .int .i64 0, .int .i64 0, .int .i64 0, .bool false, .int .i64 0, .int .i64 0, .int .i64 0, .int .i64 0, .int .u32 0, .int .u32 0, .int .i64 0, .bool false] 107)).setRow_far (g' := w2.heap.size) (by omega) #[.int .i64 h0, .int .i64 h1, .int .i64 h2, .int .i64 h3, .int .u32 h4, .int .u32 h5]).setRow_far (g' := w2.heap.size + 1) (by omega) #[.int .i64 pr, .int .u16 sr, .int .u16 ds, .int .i64 fl, .int .i64 ki, .int .i64 co, .bool er, .int .i64 isz, .int .i64 i1, .int .i64 i2, .int .i64 i3, .int .u32 i4, .int .u32 i5, .int .i64 pat, .bool ba])
            replace bel := below_setRow (g := w2.heap.size + 1) (below_setRow (((bel.alloc bel.size (.cells #[.int .i64 0, .int .i64 0, .int .i64 0, .int .i64 0, .int .u32 0, .int .u32 0] 105)).alloc (by simp; have := bel.size; omega) (.cells #[.int .i64 0, .int .u16 0, .int .u16 0, .int .i64 0, .int .i64 0, .int .i64 0, .bool false, .int .i64 0, .int .i64 0, .int .i64 0, .int .i64 0, .int .u32 0, .int .u32 0, .int .i64 0, .bool false] 107))) bel.size #[.int .i64 h0, .int .i64 h1, .int .i64 h2, .int .i64 h3, .int .u32 h4, .int .u32 h5]) (by have := bel.size; omega) #[.int .i64 pr, .int .u16 sr, .int .u16 ds, .int .i64 fl, .int .i64 ki, .int .i64 co, .bool er, .int .i64 isz, .int .i64 i1, .int .i64 i2, .int .i64 i3, .int .u32 i4, .int .u32 i5, .int .i64 pat, .bool ba]
            go_upto_region 6 with (first | (refine wpList_stRow rfl rfl rfl rfl rfl bh1 hd_size rfl (by simp [Value.oneCell']) ?_) | (refine wpList_stRow rfl rfl rfl rfl rfl bp1 pt_size rfl (by simp [Value.oneCell']) ?_; generalize (((w2.alloc (.cells #[.int .i64 0, .int .i64 0, .int .i64 0, .int .i64 0, .int .u32 0, .int .u32 0] 105)).alloc (.cells #[.int .i64 0, .int .u16 0, .int .u16 0, .int .i64 0, .int .i64 0, .int .i64 0, .bool false, .int .i64 0, .int .i64 0, .int .i64 0, .int .i64 0, .int .u32 0, .int .u32 0, .int .i64 0, .bool false] 107)).setRow w2.heap.size #[.int .i64 h0, .int .i64 h1, .int .i64 h2, .int .i64 h3, .int .u32 h4, .int .u32 h5]).setRow (w2.heap.size + 1) #[.int .i64 pr, .int .u16 sr, .int .u16 ds, .int .i64 fl, .int .i64 ki, .int .i64 co, .bool er, .int .i64 isz, .int .i64 i1, .int .i64 i2, .int .i64 i3, .int .u32 i4, .int .u32 i5, .int .i64 pat, .bool ba] = W4 at *; generalize hgh : w2.heap.size = gh at *; replace hgh := Lib.hid hgh; clear bh1 bp1))
            go_wp2_with (first
              | (refine wpList_ldRow rfl rfl rfl bh Tryz.underlying105 hd_size ?_)
              | (refine wpList_ldRow rfl rfl rfl bp Tryz.underlying107 pt_size ?_))
            refine (ko.out _).mono ?_
            rintro e w3 ⟨rfl, hb⟩
            replace br := br.bel hb
            replace bh := bh.bel hb
            replace bc := bc.bel hb
            replace bel := bel_after bel hb
            have hg3 : w.heap.size + 1 < w3.heap.size := br.lt
            have hg4 : gh < w3.heap.size := bh.lt
            clear hb ko
            have bo := (Blk.new w3 32 #[.int .i64 0, .int .u32 0, .int .u16 0]).setRow #[.int .i64 g1, .int .u32 g2, .int .u16 g3]
            replace br := (br.alloc (.cells #[.int .i64 0, .int .u32 0, .int .u16 0] 32)).setRow_far (g' := w3.heap.size) (by omega) #[.int .i64 g1, .int .u32 g2, .int .u16 g3]
            replace bh := (bh.alloc (.cells #[.int .i64 0, .int .u32 0, .int .u16 0] 32)).setRow_far (g' := w3.heap.size) (by omega) #[.int .i64 g1, .int .u32 g2, .int .u16 g3]
            replace bc := (bc.alloc (.cells #[.int .i64 0, .int .u32 0, .int .u16 0] 32)).setRow_far (g' := w3.heap.size) (by omega) #[.int .i64 g1, .int .u32 g2, .int .u16 g3]
            replace bel := below_setRow (bel.alloc bel.size (.cells #[.int .i64 0, .int .u32 0, .int .u16 0] 32)) bel.size #[.int .i64 g1, .int .u32 g2, .int .u16 g3]
            go_upto_region 7 with (refine wpList_stRow rfl rfl rfl rfl rfl (Blk.new w3 _ _) fl_size rfl (by simp [Value.oneCell']) ?_; generalize (w3.alloc (.cells #[.int .i64 0, .int .u32 0, .int .u16 0] 32)).setRow w3.heap.size #[.int .i64 g1, .int .u32 g2, .int .u16 g3] = W5 at *; generalize w3.heap.size = go at *)
            have q5 := bh.cell 5
            have c1 := bc.cell 1
            have o1 := bo.cell 1
            go_wp2_with (first
              | (refine wpList_ldRow rfl rfl rfl bo Tryz.underlying32 fl_size ?_)
              | (refine wpList_stRow rfl rfl rfl rfl rfl br fl_size rfl (by simp [Value.oneCell']) ?_))
            exact bodyPost_ret (results_row2 rfl _ rfl (br.setRow _) Tryz.underlying32 fl_size) rfl ⟨rfl, below_setRow bel (by omega) _⟩
          | false =>
            simp only [Bool.false_eq_true, if_false, WhoR, Fl.cs]
            go_enter Tryz.func13, Tryz.ntmps13
            go_upto_region 1 with fail
            have bc := (Blk.new w 36 #[.int .i64 wk, .int .u32 ou, .int .i64 lo, .int .i64 hi, .int .i64 bk, .int .i64 rg]).alloc (.cells #[.int .i64 0, .int .u32 0, .int .u16 0] 32)
            have br := Blk.new (w.alloc (.cells #[.int .i64 wk, .int .u32 ou, .int .i64 lo, .int .i64 hi, .int .i64 bk, .int .i64 rg] 36)) 32 #[.int .i64 0, .int .u32 0, .int .u16 0]
            rw [show (w.alloc (.cells #[.int .i64 wk, .int .u32 ou, .int .i64 lo, .int .i64 hi, .int .i64 bk, .int .i64 rg] 36)).heap.size = w.heap.size + 1 by simp] at br
            have bel : Below w.heap.size w ((w.alloc (.cells #[.int .i64 wk, .int .u32 ou, .int .i64 lo, .int .i64 hi, .int .i64 bk, .int .i64 rg] 36)).alloc (.cells #[.int .i64 0, .int .u32 0, .int .u16 0] 32)) := (bel_alloc _ _).alloc (by simp) _
            generalize (w.alloc (.cells #[.int .i64 wk, .int .u32 ou, .int .i64 lo, .int .i64 hi, .int .i64 bk, .int .i64 rg] 36)).alloc (.cells #[.int .i64 0, .int .u32 0, .int .u16 0] 32) = W at *
            go_wp2_with fail
            refine (k1.out _ bel).mono ?_
            rintro e w2 ⟨rfl, hb⟩
            replace bc := bc.bel hb
            replace br := br.bel hb
            replace bel := bel_after bel hb
            clear hb k1
            have hg0 : w.heap.size + 1 < w2.heap.size := br.lt
            have bh1 := (Blk.new w2 105 #[.int .i64 0, .int .i64 0, .int .i64 0, .int .i64 0, .int .u32 0, .int .u32 0]).alloc (.cells #[.int .i64 0, .int .u16 0, .int .u16 0, .int .i64 0, .int .i64 0, .int .i64 0, .bool false, .int .i64 0, .int .i64 0, .int .i64 0, .int .i64 0, .int .u32 0, .int .u32 0, .int .i64 0, .bool false] 107)
            have bp1 := Blk.new (w2.alloc (.cells #[.int .i64 0, .int .i64 0, .int .i64 0, .int .i64 0, .int .u32 0, .int .u32 0] 105)) 107 #[.int .i64 0, .int .u16 0, .int .u16 0, .int .i64 0, .int .i64 0, .int .i64 0, .bool false, .int .i64 0, .int .i64 0, .int .i64 0, .int .i64 0, .int .u32 0, .int .u32 0, .int .i64 0, .bool false]
            rw [show (w2.alloc (.cells #[.int .i64 0, .int .i64 0, .int .i64 0, .int .i64 0, .int .u32 0, .int .u32 0] 105)).heap.size = w2.heap.size + 1 by simp] at bp1
            have bh := (bh1.setRow #[.int .i64 h0, .int .i64 h1, .int .i64 h2, .int .i64 h3, .int .u32 h4, .int .u32 h5]).setRow_far (g' := w2.heap.size + 1) (by omega) #[.int .i64 pr, .int .u16 sr, .int .u16 ds, .int .i64 fl, .int .i64 ki, .int .i64 co, .bool er, .int .i64 isz, .int .i64 i1, .int .i64 i2, .int .i64 i3, .int .u32 i4, .int .u32 i5, .int .i64 pat, .bool ba]
            replace bp1 := bp1.setRow_far (g' := w2.heap.size) (by omega) #[.int .i64 h0, .int .i64 h1, .int .i64 h2, .int .i64 h3, .int .u32 h4, .int .u32 h5]
            have bp := bp1.setRow #[.int .i64 pr, .int .u16 sr, .int .u16 ds, .int .i64 fl, .int .i64 ki, .int .i64 co, .bool er, .int .i64 isz, .int .i64 i1, .int .i64 i2, .int .i64 i3, .int .u32 i4, .int .u32 i5, .int .i64 pat, .bool ba]
            replace bc := ((((bc.alloc (.cells #[.int .i64 0, .int .i64 0, .int .i64 0, .int .i64 0, .int .u32 0, .int .u32 0] 105)).alloc (.cells #[.int .i64 0, .int .u16 0, .int .u16 0, .int .i64 0, .int .i64 0, .int .i64 0, .bool false, .int .i64 0, .int .i64 0, .int .i64 0, .int .i64 0, .int .u32 0, .int .u32 0, .int .i64 0, .bool false] 107)).setRow_far (g' := w2.heap.size) (by omega) #[.int .i64 h0, .int .i64 h1, .int .i64 h2, .int .i64 h3, .int .u32 h4, .int .u32 h5]).setRow_far (g' := w2.heap.size + 1) (by omega) #[.int .i64 pr, .int .u16 sr, .int .u16 ds, .int .i64 fl, .int .i64 ki, .int .i64 co, .bool er, .int .i64 isz, .int .i64 i1, .int .i64 i2, .int .i64 i3, .int .u32 i4, .int .u32 i5, .int .i64 pat, .bool ba])
            replace br := ((((br.alloc (.cells #[.int .i64 0, .int .i64 0, .int .i64 0, .int .i64 0, .int .u32 0, .int .u32 0] 105)).alloc (.cells #[.int .i64 0, .int .u16 0, .int .u16 0, .int .i64 0, .int .i64 0, .int .i64 0, .bool false, .int .i64 0, .int .i64 0, .int .i64 0, .int .i64 0, .int .u32 0, .int .u32 0, .int .i64 0, .bool false] 107)).setRow_far (g' := w2.heap.size) (by omega) #[.int .i64 h0, .int .i64 h1, .int .i64 h2, .int .i64 h3, .int .u32 h4, .int .u32 h5]).setRow_far (g' := w2.heap.size + 1) (by omega) #[.int .i64 pr, .int .u16 sr, .int .u16 ds, .int .i64 fl, .int .i64 ki, .int .i64 co, .bool er, .int .i64 isz, .int .i64 i1, .int .i64 i2, .int .i64 i3, .int .u32 i4, .int .u32 i5, .int .i64 pat, .bool ba])
            replace bel := below_setRow (g := w2.heap.size + 1) (below_setRow (((bel.alloc bel.size (.cells #[.int .i64 0, .int .i64 0, .int .i64 0, .int .i64 0, .int .u32 0, .int .u32 0] 105)).alloc (by simp; have := bel.size; omega) (.cells #[.int .i64 0, .int .u16 0, .int .u16 0, .int .i64 0, .int .i64 0, .int .i64 0, .bool false, .int .i64 0, .int .i64 0, .int .i64 0, .int .i64 0, .int .u32 0, .int .u32 0, .int .i64 0, .bool false] 107))) bel.size #[.int .i64 h0, .int .i64 h1, .int .i64 h2, .int .i64 h3, .int .u32 h4, .int .u32 h5]) (by have := bel.size; omega) #[.int .i64 pr, .int .u16 sr, .int .u16 ds, .int .i64 fl, .int .i64 ki, .int .i64 co, .bool er, .int .i64 isz, .int .i64 i1, .int .i64 i2, .int .i64 i3, .int .u32 i4, .int .u32 i5, .int .i64 pat, .bool ba]
            go_upto_region 6 with (first | (refine wpList_stRow rfl rfl rfl rfl rfl bh1 hd_size rfl (by simp [Value.oneCell']) ?_) | (refine wpList_stRow rfl rfl rfl rfl rfl bp1 pt_size rfl (by simp [Value.oneCell']) ?_; generalize (((w2.alloc (.cells #[.int .i64 0, .int .i64 0, .int .i64 0, .int .i64 0, .int .u32 0, .int .u32 0] 105)).alloc (.cells #[.int .i64 0, .int .u16 0, .int .u16 0, .int .i64 0, .int .i64 0, .int .i64 0, .bool false, .int .i64 0, .int .i64 0, .int .i64 0, .int .i64 0, .int .u32 0, .int .u32 0, .int .i64 0, .bool false] 107)).setRow w2.heap.size #[.int .i64 h0, .int .i64 h1, .int .i64 h2, .int .i64 h3, .int .u32 h4, .int .u32 h5]).setRow (w2.heap.size + 1) #[.int .i64 pr, .int .u16 sr, .int .u16 ds, .int .i64 fl, .int .i64 ki, .int .i64 co, .bool er, .int .i64 isz, .int .i64 i1, .int .i64 i2, .int .i64 i3, .int .u32 i4, .int .u32 i5, .int .i64 pat, .bool ba] = W4 at *; generalize hgh : w2.heap.size = gh at *; replace hgh := Lib.hid hgh; clear bh1 bp1))
            go_wp2_with (first
              | (refine wpList_ldRow rfl rfl rfl bh Tryz.underlying105 hd_size ?_)
              | (refine wpList_ldRow rfl rfl rfl bp Tryz.underlying107 pt_size ?_))
            refine (ko.out _).mono ?_
            rintro e w3 ⟨rfl, hb⟩
            replace br := br.bel hb
            replace bh := bh.bel hb
            replace bc := bc.bel hb
            replace bel := bel_after bel hb
            have hg3 : w.heap.size + 1 < w3.heap.size := br.lt
            have hg4 : gh < w3.heap.size := bh.lt
            clear hb ko
            have bo := (Blk.new w3 32 #[.int .i64 0, .int .u32 0, .int .u16 0]).setRow #[.int .i64 g1, .int .u32 g2, .int .u16 g3]
            replace br := (br.alloc (.cells #[.int .i64 0, .int .u32 0, .int .u16 0] 32)).setRow_far (g' := w3.heap.size) (by omega) #[.int .i64 g1, .int .u32 g2, .int .u16 g3]
            replace bh := (bh.alloc (.cells #[.int .i64 0, .int .u32 0, .int .u16 0] 32)).setRow_far (g' := w3.heap.size) (by omega) #[.int .i64 g1, .int .u32 g2, .int .u16 g3]
            replace bc := (bc.alloc (.cells #[.int .i64 0, .int .u32 0, .int .u16 0] 32)).setRow_far (g' := w3.heap.size) (by omega) #[.int .i64 g1, .int .u32 g2, .int .u16 g3]
            replace bel := below_setRow (bel.alloc bel.size (.cells #[.int .i64 0, .int .u32 0, .int .u16 0] 32)) bel.size #[.int .i64 g1, .int .u32 g2, .int .u16 g3]
            go_upto_region 7 with (refine wpList_stRow rfl rfl rfl rfl rfl (Blk.new w3 _ _) fl_size rfl (by simp [Value.oneCell']) ?_; generalize (w3.alloc (.cells #[.int .i64 0, .int .u32 0, .int .u16 0] 32)).setRow w3.heap.size #[.int .i64 g1, .int .u32 g2, .int .u16 g3] = W5 at *; generalize w3.heap.size = go at *)
            have q5 := bh.cell 5
            have c1 := bc.cell 1
            have o1 := bo.cell 1
            go_wp2_with (first
              | (refine wpList_ldRow rfl rfl rfl bo Tryz.underlying32 fl_size ?_)
              | (refine wpList_stRow rfl rfl rfl rfl rfl br fl_size rfl (by simp [Value.oneCell']) ?_))
            exact bodyPost_ret (results_row2 rfl _ rfl (br.setRow _) Tryz.underlying32 fl_size) rfl ⟨rfl, below_setRow bel (by omega) _⟩
      by_cases h1 : h5 = ou
      · by_cases h2 : g2 = ou
        · exact key false _ (.inr ⟨by simpa using h1, by simpa using h2⟩) (by simp [h1, h2])
        · exact key true _ (.inr ⟨by simpa using h1, by simpa using h2⟩) (by simp [h2])
      · exact key true _ (.inl ⟨by simpa using h1, rfl⟩) (by simp [h1])
  · rw [if_pos hE]
    have d1 : (E != 0) = true := by simpa using hE
    have d2 : (E == 0) = false := by simpa using hE
    clear hE kin ko
    simp only [WhoR, Fl.cs, Fl.z]
    go_enter Tryz.func13, Tryz.ntmps13
    go_upto_region 1 with fail
    have bc := (Blk.new w 36 #[.int .i64 wk, .int .u32 ou, .int .i64 lo, .int .i64 hi, .int .i64 bk, .int .i64 rg]).alloc (.cells #[.int .i64 0, .int .u32 0, .int .u16 0] 32)
    have br := Blk.new (w.alloc (.cells #[.int .i64 wk, .int .u32 ou, .int .i64 lo, .int .i64 hi, .int .i64 bk, .int .i64 rg] 36)) 32 #[.int .i64 0, .int .u32 0, .int .u16 0]
    rw [show (w.alloc (.cells #[.int .i64 wk, .int .u32 ou, .int .i64 lo, .int .i64 hi, .int .i64 bk, .int .i64 rg] 36)).heap.size = w.heap.size + 1 by simp] at br
    have bel : Below w.heap.size w ((w.alloc (.cells #[.int .i64 wk, .int .u32 ou, .int .i64 lo, .int .i64 hi, .int .i64 bk, .int .i64 rg] 36)).alloc (.cells #[.int .i64 0, .int .u32 0, .int .u16 0] 32)) := (bel_alloc _ _).alloc (by simp) _
    generalize (w.alloc (.cells #[.int .i64 wk, .int .u32 ou, .int .i64 lo, .int .i64 hi, .int .i64 bk, .int .i64 rg] 36)).alloc (.cells #[.int .i64 0, .int .u32 0, .int .u16 0] 32) = W at *
    go_wp2_with fail
    refine (k1.out _ bel).mono ?_
    rintro e w2 ⟨rfl, hb⟩
    replace bc := bc.bel hb
    replace br := br.bel hb
    replace bel := bel_after bel hb
    clear hb k1
    have hg0 : w.heap.size + 1 < w2.heap.size := br.lt
    have bh1 := (Blk.new w2 105 #[.int .i64 0, .int .i64 0, .int .i64 0, .int .i64 0, .int .u32 0, .int .u32 0]).alloc (.cells #[.int .i64 0, .int .u16 0, .int .u16 0, .int .i64 0, .int .i64 0, .int .i64 0, .bool false, .int .i64 0, .int .i64 0, .int .i64 0, .int .i64 0, .int .u32 0, .int .u32 0, .int .i64 0, .bool false] 107)
    have bp1 := Blk.new (w2.alloc (.cells #[.int .i64 0, .int .i64 0, .int .i64 0, .int .i64 0, .int .u32 0, .int .u32 0] 105)) 107 #[.int .i64 0, .int .u16 0, .int .u16 0, .int .i64 0, .int .i64 0, .int .i64 0, .bool false, .int .i64 0, .int .i64 0, .int .i64 0, .int .i64 0, .int .u32 0, .int .u32 0, .int .i64 0, .bool false]
    rw [show (w2.alloc (.cells #[.int .i64 0, .int .i64 0, .int .i64 0, .int .i64 0, .int .u32 0, .int .u32 0] 105)).heap.size = w2.heap.size + 1 by simp] at bp1
    have bh := (bh1.setRow #[.int .i64 h0, .int .i64 h1, .int .i64 h2, .int .i64 h3, .int .u32 h4, .int .u32 h5]).setRow_far (g' := w2.heap.size + 1) (by omega) #[.int .i64 pr, .int .u16 sr, .int .u16 ds, .int .i64 fl, .int .i64 ki, .int .i64 co, .bool er, .int .i64 isz, .int .i64 i1, .int .i64 i2, .int .i64 i3, .int .u32 i4, .int .u32 i5, .int .i64 pat, .bool ba]
    replace bp1 := bp1.setRow_far (g' := w2.heap.size) (by omega) #[.int .i64 h0, .int .i64 h1, .int .i64 h2, .int .i64 h3, .int .u32 h4, .int .u32 h5]
    have bp := bp1.setRow #[.int .i64 pr, .int .u16 sr, .int .u16 ds, .int .i64 fl, .int .i64 ki, .int .i64 co, .bool er, .int .i64 isz, .int .i64 i1, .int .i64 i2, .int .i64 i3, .int .u32 i4, .int .u32 i5, .int .i64 pat, .bool ba]
    replace bc := ((((bc.alloc (.cells #[.int .i64 0, .int .i64 0, .int .i64 0, .int .i64 0, .int .u32 0, .int .u32 0] 105)).alloc (.cells #[.int .i64 0, .int .u16 0, .int .u16 0, .int .i64 0, .int .i64 0, .int .i64 0, .bool false, .int .i64 0, .int .i64 0, .int .i64 0, .int .i64 0, .int .u32 0, .int .u32 0, .int .i64 0, .bool false] 107)).setRow_far (g' := w2.heap.size) (by omega) #[.int .i64 h0, .int .i64 h1, .int .i64 h2, .int .i64 h3, .int .u32 h4, .int .u32 h5]).setRow_far (g' := w2.heap.size + 1) (by omega) #[.int .i64 pr, .int .u16 sr, .int .u16 ds, .int .i64 fl, .int .i64 ki, .int .i64 co, .bool er, .int .i64 isz, .int .i64 i1, .int .i64 i2, .int .i64 i3, .int .u32 i4, .int .u32 i5, .int .i64 pat, .bool ba])
    replace br := ((((br.alloc (.cells #[.int .i64 0, .int .i64 0, .int .i64 0, .int .i64 0, .int .u32 0, .int .u32 0] 105)).alloc (.cells #[.int .i64 0, .int .u16 0, .int .u16 0, .int .i64 0, .int .i64 0, .int .i64 0, .bool false, .int .i64 0, .int .i64 0, .int .i64 0, .int .i64 0, .int .u32 0, .int .u32 0, .int .i64 0, .bool false] 107)).setRow_far (g' := w2.heap.size) (by omega) #[.int .i64 h0, .int .i64 h1, .int .i64 h2, .int .i64 h3, .int .u32 h4, .int .u32 h5]).setRow_far (g' := w2.heap.size + 1) (by omega) #[.int .i64 pr, .int .u16 sr, .int .u16 ds, .int .i64 fl, .int .i64 ki, .int .i64 co, .bool er, .int .i64 isz, .int .i64 i1, .int .i64 i2, .int .i64 i3, .int .u32 i4, .int .u32 i5, .int .i64 pat, .bool ba])
    replace bel := below_setRow (g := w2.heap.size + 1) (below_setRow (((bel.alloc bel.size (.cells #[.int .i64 0, .int .i64 0, .int .i64 0, .int .i64 0, .int .u32 0, .int .u32 0] 105)).alloc (by simp; have := bel.size; omega) (.cells #[.int .i64 0, .int .u16 0, .int .u16 0, .int .i64 0, .int .i64 0, .int .i64 0, .bool false, .int .i64 0, .int .i64 0, .int .i64 0, .int .i64 0, .int .u32 0, .int .u32 0, .int .i64 0, .bool false] 107))) bel.size #[.int .i64 h0, .int .i64 h1, .int .i64 h2, .int .i64 h3, .int .u32 h4, .int .u32 h5]) (by have := bel.size; omega) #[.int .i64 pr, .int .u16 sr, .int .u16 ds, .int .i64 fl, .int .i64 ki, .int .i64 co, .bool er, .int .i64 isz, .int .i64 i1, .int .i64 i2, .int .i64 i3, .int .u32 i4, .int .u32 i5, .int .i64 pat, .bool ba]
    go_upto_region 3 with (first | (refine wpList_stRow rfl rfl rfl rfl rfl bh1 hd_size rfl (by simp [Value.oneCell']) ?_) | (refine wpList_stRow rfl rfl rfl rfl rfl bp1 pt_size rfl (by simp [Value.oneCell']) ?_; generalize (((w2.alloc (.cells #[.int .i64 0, .int .i64 0, .int .i64 0, .int .i64 0, .int .u32 0, .int .u32 0] 105)).alloc (.cells #[.int .i64 0, .int .u16 0, .int .u16 0, .int .i64 0, .int .i64 0, .int .i64 0, .bool false, .int .i64 0, .int .i64 0, .int .i64 0, .int .i64 0, .int .u32 0, .int .u32 0, .int .i64 0, .bool false] 107)).setRow w2.heap.size #[.int .i64 h0, .int .i64 h1, .int .i64 h2, .int .i64 h3, .int .u32 h4, .int .u32 h5]).setRow (w2.heap.size + 1) #[.int .i64 pr, .int .u16 sr, .int .u16 ds, .int .i64 fl, .int .i64 ki, .int .i64 co, .bool er, .int .i64 isz, .int .i64 i1, .int .i64 i2, .int .i64 i3, .int .u32 i4, .int .u32 i5, .int .i64 pat, .bool ba] = W4 at *; generalize hgh : w2.heap.size = gh at *; replace hgh := Lib.hid hgh; clear bh1 bp1))
    go_wp2_with (refine wpList_stRow rfl rfl rfl rfl rfl br fl_size rfl (by simp [Value.oneCell']) ?_)
    exact bodyPost_ret (results_row2 rfl _ rfl (br.setRow _) Tryz.underlying32 fl_size) rfl ⟨rfl, below_setRow bel (by omega) _⟩
end Go.Proofs.YtbckoohljkmahaaGreat
