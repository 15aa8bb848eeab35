/- What the laws' proofs lean on: plain facts and contracts of the program's functions, laid together (18). -/
import Derived.Test.YtbckoohljkmahaaGreatPa06
import Derived.Test.YtbckoohljkmahaaGreatPa09
import Derived.Test.YtbckoohljkmahaaGreatPa12
import Derived.Test.YtbckoohljkmahaaGreatPa17
import Derived.Test.YtbckoohljkmahaaGreatPa15
import Derived.Test.YtbckoohljkmahaaGreatPa07
import Derived.Test.YtbckoohljkmahaaGreatPa16
namespace Go.Proofs.YtbckoohljkmahaaGreat
set_option linter.unusedVariables false
set_option linter.unusedSimpArgs false
open Go.RowKit
/-- what a frame carries, and whether it can be got -/
def partI (l : List Int) : Pt × Bool := if getE l = 0 then ((getR (hdIf l 0) l).2, (getR (hdIf l 0) l).1 == 0) else (Pt.z, false)
def PartT (w : World) (p : Pt × Bool) (e : Ending) (w' : World) : Prop := e = .returned (.tuple #[p.1.val, .bool p.2]) ∧ Below w.heap.size w w'
set_option maxRecDepth 100000 in
set_option maxHeartbeats 4000000 in
theorem rPart_any (l : List Int) (A : Option Addr) (len c : Nat) (w : World) (hr : Rd .u8 w w.heap.size A len l) (hlc : len ≤ c) (hcm : c ≤ 9223372036854775807) (hl : len ≤ 60000) :
    Calls Tryz.prog 24 #[.slice A len c] w (PartT w (partI l)) := by
  have k1 := fun W (h : Below w.heap.size w W) => rGet_any l false A len c _ W ((hr.below h).more h.size) (Nat.le_refl _) hlc hcm (by omega)
  rw [show getP l false = getE l from rfl] at k1
  unfold partI
  by_cases hE : getE l = 0
  · have hbb := frm_bdh (fun x hx => inr_u8 (hr.rng x hx)) hE
    rw [if_pos hE]
    rw [hE] at k1
    have k2 := fun W (h : Below w.heap.size w W) => rPGet_any (hdIf l 0) l A len c _ W ((hr.below h).more h.size) (Nat.le_refl _) hlc hcm (by omega) hbb.1 hbb.2
    generalize hdIf l 0 = H at *
    generalize getR H l = R at *
    obtain ⟨h0, h1, h2, h3, h4, h5⟩ := H
    obtain ⟨E, pr, sr, ds, fl, ki, co, er, ⟨isz, i1, i2, i3, i4, i5⟩, pat, ba⟩ := R
    simp only [PartT, Hd.val, Pt.val, Tells] at k1 k2 ⊢
    obtain ⟨ok, hok⟩ : ∃ ok, (E == 0) = ok := ⟨_, rfl⟩
    rw [hok]
    clear hbb hE hr
    replace k1 := Lib.hid k1
    replace k2 := Lib.hid k2
    go_enter Tryz.func24, Tryz.ntmps24
    go_upto_region 1 with fail
    have bk := Blk.new w 69 #[.int .i64 0, .int .u16 0, .int .u16 0, .int .i64 0, .int .i64 0, .int .i64 0, .bool false, .int .i64 0, .int .i64 0, .int .i64 0, .int .i64 0, .int .u32 0, .int .u32 0, .int .i64 0, .bool false]
    have bel := bel_alloc w (.cells #[.int .i64 0, .int .u16 0, .int .u16 0, .int .i64 0, .int .i64 0, .int .i64 0, .bool false, .int .i64 0, .int .i64 0, .int .i64 0, .int .i64 0, .int .u32 0, .int .u32 0, .int .i64 0, .bool false] 69)
    generalize w.alloc (.cells #[.int .i64 0, .int .u16 0, .int .u16 0, .int .i64 0, .int .i64 0, .int .i64 0, .bool false, .int .i64 0, .int .i64 0, .int .i64 0, .int .i64 0, .int .u32 0, .int .u32 0, .int .i64 0, .bool false] 69) = W1 at *
    go_wp2_with fail
    refine (k1.out _ bel).mono ?_
    rintro e w2 ⟨rfl, hb⟩
    replace bel := bel_after bel hb
    replace bk := bk.bel hb
    clear hb k1
    have hlt := bk.lt
    have bh := (Blk.new w2 67 #[.int .i64 0, .int .i64 0, .int .i64 0, .int .i64 0, .int .u32 0, .int .u32 0]).setRow #[.int .i64 h0, .int .i64 h1, .int .i64 h2, .int .i64 h3, .int .u32 h4, .int .u32 h5]
    replace bk := (bk.alloc (.cells #[.int .i64 0, .int .i64 0, .int .i64 0, .int .i64 0, .int .u32 0, .int .u32 0] 67)).setRow_far (g' := w2.heap.size) (by omega) #[.int .i64 h0, .int .i64 h1, .int .i64 h2, .int .i64 h3, .int .u32 h4, .int .u32 h5]
    replace bel := below_setRow (bel.alloc bel.size (.cells #[.int .i64 0, .int .i64 0, .int .i64 0, .int .i64 0, .int .u32 0, .int .u32 0] 67)) bel.size #[.int .i64 h0, .int .i64 h1, .int .i64 h2, .int .i64 h3, .int .u32 h4, .int .u32 h5]
    clear hlt
    go_wp2_with (first
      | (refine wpList_stRow rfl rfl rfl rfl rfl (Blk.new w2 _ _) rhd_size rfl (by simp [Value.oneCell']) ?_; generalize (w2.alloc (.cells #[.int .i64 0, .int .i64 0, .int .i64 0, .int .i64 0, .int .u32 0, .int .u32 0] 67)).setRow w2.heap.size #[.int .i64 h0, .int .i64 h1, .int .i64 h2, .int .i64 h3, .int .u32 h4, .int .u32 h5] = W4 at *; generalize w2.heap.size = gh at *)
      | (refine wpList_ldRow rfl rfl rfl bh Tryz.underlying67 rhd_size ?_))
    refine (k2.out _ bel).mono ?_
    rintro e w3 ⟨rfl, hb⟩
    replace bel := bel_after bel hb
    replace bk := bk.bel hb
    clear hb k2 bh
    have hlt := bk.lt
    have bp := (Blk.new w3 69 #[.int .i64 0, .int .u16 0, .int .u16 0, .int .i64 0, .int .i64 0, .int .i64 0, .bool false, .int .i64 0, .int .i64 0, .int .i64 0, .int .i64 0, .int .u32 0, .int .u32 0, .int .i64 0, .bool false]).setRow #[.int .i64 pr, .int .u16 sr, .int .u16 ds, .int .i64 fl, .int .i64 ki, .int .i64 co, .bool er, .int .i64 isz, .int .i64 i1, .int .i64 i2, .int .i64 i3, .int .u32 i4, .int .u32 i5, .int .i64 pat, .bool ba]
    replace bk := (bk.alloc (.cells #[.int .i64 0, .int .u16 0, .int .u16 0, .int .i64 0, .int .i64 0, .int .i64 0, .bool false, .int .i64 0, .int .i64 0, .int .i64 0, .int .i64 0, .int .u32 0, .int .u32 0, .int .i64 0, .bool false] 69)).setRow_far (g' := w3.heap.size) (by omega) #[.int .i64 pr, .int .u16 sr, .int .u16 ds, .int .i64 fl, .int .i64 ki, .int .i64 co, .bool er, .int .i64 isz, .int .i64 i1, .int .i64 i2, .int .i64 i3, .int .u32 i4, .int .u32 i5, .int .i64 pat, .bool ba]
    replace bel := below_setRow (bel.alloc bel.size (.cells #[.int .i64 0, .int .u16 0, .int .u16 0, .int .i64 0, .int .i64 0, .int .i64 0, .bool false, .int .i64 0, .int .i64 0, .int .i64 0, .int .i64 0, .int .u32 0, .int .u32 0, .int .i64 0, .bool false] 69)) bel.size #[.int .i64 pr, .int .u16 sr, .int .u16 ds, .int .i64 fl, .int .i64 ki, .int .i64 co, .bool er, .int .i64 isz, .int .i64 i1, .int .i64 i2, .int .i64 i3, .int .u32 i4, .int .u32 i5, .int .i64 pat, .bool ba]
    clear hlt
    go_upto_region 5 with (refine wpList_stRow rfl rfl rfl rfl rfl (Blk.new w3 _ _) rpt_size rfl (by simp [Value.oneCell']) ?_; generalize (w3.alloc (.cells #[.int .i64 0, .int .u16 0, .int .u16 0, .int .i64 0, .int .i64 0, .int .i64 0, .bool false, .int .i64 0, .int .i64 0, .int .i64 0, .int .i64 0, .int .u32 0, .int .u32 0, .int .i64 0, .bool false] 69)).setRow w3.heap.size #[.int .i64 pr, .int .u16 sr, .int .u16 ds, .int .i64 fl, .int .i64 ki, .int .i64 co, .bool er, .int .i64 isz, .int .i64 i1, .int .i64 i2, .int .i64 i3, .int .u32 i4, .int .u32 i5, .int .i64 pat, .bool ba] = W5 at *; generalize w3.heap.size = gp at *)
    go_wp2_with (first
      | (refine wpList_ldRow rfl rfl rfl bp Tryz.underlying69 rpt_size ?_)
      | (refine wpList_stRow rfl rfl rfl rfl rfl bk rpt_size rfl (by simp [Value.oneCell']) ?_))
    exact bodyPost_ret (results_row2 rfl _ rfl (bk.setRow _) Tryz.underlying69 rpt_size) rfl ⟨rfl, below_setRow bel (Nat.le_refl _) _⟩
  · rw [if_neg hE]
    have hz : hdIf l (getE l) = Hd.z := by unfold hdIf; rw [if_neg hE]
    rw [hz] at k1
    generalize getE l = E at *
    have d1 : (E != 0) = true := by simpa using hE
    have d2 : (E == 0) = false := by simpa using hE
    clear hE hr hz
    obtain ⟨h0, h1, h2, h3, h4, h5, hh⟩ : ∃ h0 h1 h2 h3 h4 h5 : Int, Hd.z = ⟨h0, h1, h2, h3, h4, h5⟩ := ⟨_, _, _, _, _, _, rfl⟩
    rw [hh] at k1
    clear hh
    simp only [PartT, Hd.val, Pt.val, Pt.z, Hd.z] at k1 ⊢
    replace k1 := Lib.hid k1
    go_enter Tryz.func24, Tryz.ntmps24
    go_upto_region 1 with fail
    have bk := Blk.new w 69 #[.int .i64 0, .int .u16 0, .int .u16 0, .int .i64 0, .int .i64 0, .int .i64 0, .bool false, .int .i64 0, .int .i64 0, .int .i64 0, .int .i64 0, .int .u32 0, .int .u32 0, .int .i64 0, .bool false]
    have bel := bel_alloc w (.cells #[.int .i64 0, .int .u16 0, .int .u16 0, .int .i64 0, .int .i64 0, .int .i64 0, .bool false, .int .i64 0, .int .i64 0, .int .i64 0, .int .i64 0, .int .u32 0, .int .u32 0, .int .i64 0, .bool false] 69)
    generalize w.alloc (.cells #[.int .i64 0, .int .u16 0, .int .u16 0, .int .i64 0, .int .i64 0, .int .i64 0, .bool false, .int .i64 0, .int .i64 0, .int .i64 0, .int .i64 0, .int .u32 0, .int .u32 0, .int .i64 0, .bool false] 69) = W1 at *
    go_wp2_with fail
    refine (k1.out _ bel).mono ?_
    rintro e w2 ⟨rfl, hb⟩
    replace bel := bel_after bel hb
    replace bk := bk.bel hb
    clear hb k1
    have hlt := bk.lt
    replace bk := (bk.alloc (.cells #[.int .i64 0, .int .i64 0, .int .i64 0, .int .i64 0, .int .u32 0, .int .u32 0] 67)).setRow_far (g' := w2.heap.size) (by omega) #[.int .i64 h0, .int .i64 h1, .int .i64 h2, .int .i64 h3, .int .u32 h4, .int .u32 h5]
    replace bel := below_setRow (bel.alloc bel.size (.cells #[.int .i64 0, .int .i64 0, .int .i64 0, .int .i64 0, .int .u32 0, .int .u32 0] 67)) bel.size #[.int .i64 h0, .int .i64 h1, .int .i64 h2, .int .i64 h3, .int .u32 h4, .int .u32 h5]
    clear hlt
    go_upto_region 3 with (refine wpList_stRow rfl rfl rfl rfl rfl (Blk.new w2 _ _) rhd_size rfl (by simp [Value.oneCell']) ?_; generalize (w2.alloc (.cells #[.int .i64 0, .int .i64 0, .int .i64 0, .int .i64 0, .int .u32 0, .int .u32 0] 67)).setRow w2.heap.size #[.int .i64 h0, .int .i64 h1, .int .i64 h2, .int .i64 h3, .int .u32 h4, .int .u32 h5] = W4 at *; generalize w2.heap.size = gh at *)
    go_wp2_with (refine wpList_stRow rfl rfl rfl rfl rfl bk rpt_size rfl (by simp [Value.oneCell']) ?_)
    exact bodyPost_ret (results_row2 rfl _ rfl (bk.setRow _) Tryz.underlying69 rpt_size) rfl ⟨rfl, below_setRow bel (Nat.le_refl _) _⟩
end Go.Proofs.YtbckoohljkmahaaGreat
namespace Go.Proofs.YtbckoohljkmahaaGreat
set_option linter.unusedVariables false
set_option linter.unusedSimpArgs false
open Go.RowKit
theorem rfl_size : (Tryz.prog.info? 38).map (·.size) = some 3 := by kernel_rfl
-- the flow laid: slot 11
-- region 9: the far end's; the flow $2 before; $1 the error; $3 region, $4 the plan, $5 quiet at first, $6 the place of the address, $7 its value, $8 the port
-- the end: the flow of slot 11 is told
end Go.Proofs.YtbckoohljkmahaaGreat
namespace Go.Proofs.YtbckoohljkmahaaGreat
set_option linter.unusedVariables false
set_option linter.unusedSimpArgs false
open Go.RowKit
section
variable {k : Nat} {s d a b f : Int} {l : List Int}
theorem gotP_err : (gotP k a b f).err = false := by
  unfold gotP
  repeat' split
  all_goals rfl
theorem gotP_src : (gotP k a b f).src = a := by
  unfold gotP
  repeat' split
  all_goals rfl
theorem gotP_proto : (gotP k a b f).proto = carP k := by
  unfold gotP carP
  repeat' split
  all_goals rfl
theorem carP_kind (hk : k < 3) (po : Int) (c : Cf) (h : c.lo ≤ po ∧ po ≤ c.hi) : placeP c (carP k) po = kindP (carP k) * c.n + po - c.lo ∧ 0 ≤ kindP (carP k) ∧ kindP (carP k) ≤ 2 := by
  have h3 : k = 0 ∨ k = 1 ∨ k = 2 := by omega
  have hkp : 0 ≤ kindP (carP k) ∧ kindP (carP k) ≤ 2 := by rcases h3 with rfl | rfl | rfl <;> decide
  refine ⟨?_, hkp⟩
  unfold placeP
  rw [if_neg (by omega)]
theorem frame_hd (hs : 0 ≤ s ∧ s ≤ 4294967295) (hd : 0 ≤ d ∧ d ≤ 4294967295) (hn : l.length ≤ 40) : hdOf (frameL k s d a b f l) = ⟨20, (frameL k s d a b f l).length, 64, carP k, s, d⟩ := (frame_get hs hd hn).2
section
variable (hs : 0 ≤ s ∧ s ≤ 4294967295) (hd : 0 ≤ d ∧ d ≤ 4294967295) (ha : 0 ≤ a ∧ a ≤ 65535) (hb : 0 ≤ b ∧ b ≤ 65535) (hl : Bytes8 l) (hn : l.length ≤ 40) (hk : k < 4)
include hs hd ha hb hl hn hk
theorem frame_rw2 : rwE (frameL k s d a b f l) = 0 ∧ (getR (hdOf (frameL k s d a b f l)) (frameL k s d a b f l)).2 = gotP k a b f := by
  have h1 := (frame_get (k := k) (a := a) (b := b) (f := f) hs hd hn).1
  have h2 := frame_got (k := k) (f := f) hs hd ha hb hl hk
  have h3 := frame_hd (k := k) (a := a) (b := b) (f := f) hs hd hn
  refine ⟨?_, ?_⟩
  · unfold rwE; rw [if_neg (by simp [h1]), h3, h2]
  · rw [h3, h2]
theorem frame_rd : rdE (frameL k s d a b f l) = 0 ∧ rdH (frameL k s d a b f l) = ⟨20, (frameL k s d a b f l).length, 64, carP k, s, d⟩ ∧ rdP (frameL k s d a b f l) = gotP k a b f := by
  have h1 := (frame_get (k := k) (a := a) (b := b) (f := f) hs hd hn).1
  have h2 := frame_got (k := k) (f := f) hs hd ha hb hl hk
  have h3 := frame_hd (k := k) (a := a) (b := b) (f := f) hs hd hn
  have e : rdE (frameL k s d a b f l) = 0 := by unfold rdE; rw [if_pos h1, h3, h2]
  refine ⟨e, ?_, ?_⟩
  · unfold rdH; rw [if_pos e, h3]
  · unfold rdP; rw [if_pos e, h3, h2]
theorem frame_who (ou : Int) : whoP ou true (frameL k s d a b f l) = (⟨carP k, s, a⟩, 0) := by
  obtain ⟨h1, h2, h3⟩ := frame_rd (f := f) hs hd ha hb hl hn hk
  unfold whoP insF
  rw [if_neg (by simp [h1]), if_pos rfl, h2, h3, if_neg (by simp [gotP_err]), gotP_src]
theorem frame_begins (h : k < 3) (hf : k = 1 → f = 2) : begP true (frameL k s d a b f l) = true := by
  obtain ⟨h1, h2, h3⟩ := frame_rd (f := f) hs hd ha hb hl hn hk
  unfold begP
  rw [h1, h3, gotP_err]
  have h3 : k = 0 ∨ k = 1 ∨ k = 2 := by omega
  rcases h3 with rfl | rfl | rfl
  · rfl
  · rw [hf rfl]
    show (true && ((0 : Int) == 0) && !false && beginsS 6 0 2) = true
    decide +kernel
  · rfl
theorem frame_again (out : Bool) {ou po : Int} (h8 : Bytes8 (frameL k s d a b f l)) (hou : 0 ≤ ou ∧ ou ≤ 4294967295) (hpo : 0 ≤ po ∧ po ≤ 65535) : Again (frameL k s d a b f l) (rwL (frameL k s d a b f l) out ou po) ⟨20, (frameL k s d a b f l).length, 64, carP k, s, d⟩ (gotP k a b f) out ou po := by
  obtain ⟨h1, h2⟩ := frame_rw2 (f := f) hs hd ha hb hl hn hk
  have h3 := frame_hd (k := k) (a := a) (b := b) (f := f) hs hd hn
  have := rw_again h8 h1 out hou hpo
  rw [h2, h3] at this
  exact this
end
theorem part_again {X Y : List Int} {h : Hd} {p : Pt} {out : Bool} {x y : Int} (g : Again X Y h p out x y) : partI Y = (chP p out x y, true) := by
  unfold partI
  rw [if_pos g.getE]
  have e : hdIf Y 0 = hdOf Y := rfl
  rw [e, g.part]; rfl
theorem chP_plain {p : Pt} (h : p.err = false) (out : Bool) (x y : Int) : chP p out x y = chPorts p (p.proto == 1) out y := by unfold chP; rw [if_neg (by simp [h])]
theorem chP_src {p : Pt} (h : p.err = false) (x y : Int) : (chP p true x y).src = y ∧ (chP p true x y).err = false := by
  rw [chP_plain h]
  unfold chPorts
  exact ⟨by simp, h⟩
theorem part_src {X Y : List Int} {h : Hd} {p : Pt} {x y : Int} (g : Again X Y h p true x y) (he : p.err = false) : ∃ q : Pt, partI Y = (q, true) ∧ q.src = y ∧ q.err = false := ⟨_, part_again g, chP_src he x y⟩
theorem nxt_first (hk : k < 3) (hf : k = 1 → f = 2) : nxt (carP k) 0 true (fb (gotP k a b f).flags 4) (fb (gotP k a b f).flags 1) (fb (gotP k a b f).flags 2) (fb (gotP k a b f).flags 16) = 0 := by
  have h3 : k = 0 ∨ k = 1 ∨ k = 2 := by omega
  rcases h3 with rfl | rfl | rfl
  · rfl
  · rw [hf rfl]
    show nxt 6 0 true (fb 2 4) (fb 2 1) (fb 2 2) (fb 2 16) = 0
    decide +kernel
  · rfl
section
variable (hs : 0 ≤ s ∧ s ≤ 4294967295) (hd : 0 ≤ d ∧ d ≤ 4294967295) (ha : 0 ≤ a ∧ a ≤ 65535) (hb : 0 ≤ b ∧ b ≤ 65535) (hl : Bytes8 l) (hn : l.length ≤ 40) (hk : k < 3)
include hs hd ha hb hl hn hk
/-- the step of a plain frame whose flow has no binding -/
theorem step_new (c : Cf) (L : List Bd) (ti po : Int) (hf : k = 1 → f = 2) (hti : 0 ≤ ti ∧ ti ≤ 4294967295) (hpo : 0 ≤ po) (hno : ofB ⟨carP k, s, a⟩ L = none) (hpl : 0 ≤ placeP c (carP k) po) (hat : atB c (placeP c (carP k) po) L = none) :
    stepP c L true (frameL k s d a b f l) ti po = (putB c ⟨⟨carP k, s, a⟩, po, 0, ti⟩ L, 0, rwL (frameL k s d a b f l) true c.ou po) := by
  have h1 := frame_who (f := f) hs hd ha hb hl hn (by omega : k < 4) c.ou
  have h2 := frame_begins (f := f) hs hd ha hb hl hn (by omega : k < 4) hk hf
  obtain ⟨_, _, h3⟩ := frame_rd (f := f) hs hd ha hb hl hn (by omega : k < 4)
  obtain ⟨h4, _⟩ := frame_rw2 (f := f) hs hd ha hb hl hn (by omega : k < 4)
  unfold stepP outS
  rw [if_neg (by omega), h1, if_neg (by simp), if_pos rfl, hno, h2, h3, h4]
  simp only
  rw [if_neg (by simp), if_neg (by omega), if_neg (by omega), if_neg (by rw [hat]; simp; omega), nxt_first hk hf]
/-- .. whose flow has one -/
theorem step_old (c : Cf) (L : List Bd) (x : Bd) (ti po : Int) (hti : 0 ≤ ti ∧ ti ≤ 4294967295) (hof : ofB ⟨carP k, s, a⟩ L = some x) :
    stepP c L true (frameL k s d a b f l) ti po = (putB c (seenB x (gotP k a b f) true ti) L, 0, rwL (frameL k s d a b f l) true c.ou x.po) := by
  have h1 := frame_who (f := f) hs hd ha hb hl hn (by omega : k < 4) c.ou
  obtain ⟨_, _, h3⟩ := frame_rd (f := f) hs hd ha hb hl hn (by omega : k < 4)
  obtain ⟨h4, _⟩ := frame_rw2 (f := f) hs hd ha hb hl hn (by omega : k < 4)
  unfold stepP outS
  rw [if_neg (by omega), h1, if_neg (by simp), if_pos rfl, hof, h3, h4]
  simp only
  rw [if_neg (by simp [gotP_err])]
end
end
end Go.Proofs.YtbckoohljkmahaaGreat
namespace Go.Proofs.YtbckoohljkmahaaGreat
set_option linter.unusedVariables false
set_option linter.unusedSimpArgs false
open Go.RowKit
variable {α : Type} {P : Program} {cs : α → List Value} {sz : Nat}
theorem wp_appT (hs : ∀ x, (cs x).length = sz) (h1c : ∀ x, ∀ u ∈ cs x, u.oneCell' = true) (hsz : 0 < sz) {o : Oper} {a : Act} {K : Act → World → Prop} {Q : Exit → Act → World → Prop} (w : World) (s x : Operand) (t : TypeId)
    (ho : o.op = .call { callee := .builtin .append, args := #[s, x], argTypes := #[t, t] })
    (base : Nat) (e : TypeId) (i : TypeInfo) (z : Value) (bytes : Nat) (ht : P.underlying t = some (.slice e)) (hi : P.info? e = some i) (hz : i.zero = some z)
    (hsize : i.size = sz) (hby : i.bytes = bytes) (hzs : z.cells.size = sz) (v : Value) (hsv : a.eval s = v) (l : List α) (hown : OwnT cs sz e w base v l)
    (B : Nat) (A : Option Addr) (m c : Nat) (hx : a.eval x = .slice A m c) (l2 : List α) (hr : RdT cs sz w B A m l2) (hlen : (l.length + m) * bytes ≤ 140737488355328) (hbp : 0 < bytes) (hbase : base ≤ w.heap.size)
    (h : ∀ v' w', OwnT cs sz e w' base v' (l ++ l2) → w.grownBy w' v.ownBlock → (v'.ownBlock = v.ownBlock ∨ v'.ownBlock = some w.heap.size) → K (a.put o.dst v') w') : o.wp P a w K Q := by
  obtain ⟨v', w', hrun, h2, h3, h4⟩ := run_appT (P := P) hs h1c hsz w base t o.type e i z bytes ht hi hz hsize hby hzs v l hown B A m c l2 hr hlen hbp hbase
  unfold Oper.wp execOp
  simp only [ho, resolve, invoke, builtin, Sem.run_bind, Sem.run_pure, Result.andThen_ok, List.map_toArray, List.map_cons, List.map_nil, hsv, hx, hrun]
  exact h v' w' h2 h3 h4
end Go.Proofs.YtbckoohljkmahaaGreat
namespace Go.Proofs.YtbckoohljkmahaaGreat
set_option linter.unusedVariables false
set_option linter.unusedSimpArgs false
open Go.RowKit
theorem s15_size : (Tryz.prog.info? 24).map (·.size) = some 9 := by kernel_rfl
end Go.Proofs.YtbckoohljkmahaaGreat
namespace Go.Proofs.YtbckoohljkmahaaGreat
set_option linter.unusedVariables false
set_option linter.unusedSimpArgs false
open Go.RowKit
theorem KeepO.belA {o : Obj} {w w' : World} (h : Below w.heap.size w w') : KeepO o w w' := fun k hk => by
  have hlt : k < w.heap.size := (Array.getElem?_eq_some_iff.1 hk).1
  rw [h.block k hlt]; exact hk
theorem act_size : (Tryz.prog.info? 52).map (·.size) = some 12 := by kernel_rfl
theorem rcall_size : (Tryz.prog.info? 50).map (·.size) = some 4 := by kernel_rfl
/-- what is told of a call: it has a frame of at most so many bytes -/
def CallT (w : World) (ti : Int) (e : Ending) (w' : World) : Prop :=
  ∃ (o : Bool) (A : Option Addr) (n c : Nat) (F : List Int) (po : Int), e = .returned (.agg #[.bool o, .slice A n c, .int .i64 ti, .int .i64 po]) ∧ n ≤ 130 ∧ n ≤ c ∧ c ≤ 9223372036854775807 ∧ Rd .u8 w' w'.heap.size A n F ∧ Below w.heap.size w w'
structure AcC (w : World) (av : Array Value) (w' : World) : Prop where
  ba : Blk w' w.heap.size 52 av
  br : Blk w' (w.heap.size + 1) 50 #[.bool false, .slice none 0 0, .int .i64 0, .int .i64 0]
  bel : Below w.heap.size w w'
theorem AcC.bel_ {w W W' : World} {av : Array Value} (h : AcC w av W) (hb : Below W.heap.size W W') : AcC w av W' := ⟨h.ba.bel hb, h.br.bel hb, bel_after h.bel hb⟩
theorem Own.rdS {k : IntKind} {e : TypeId} {w : World} {base n c : Nat} {A : Option Addr} {l : List Int} (h : Own k e w base (.slice A n c) l) (hn : l.length = n) : Rd k w w.heap.size A n l := by
  obtain ⟨A', c', e1, _, _, hr⟩ := h.form hn
  simp only [Value.slice.injEq] at e1
  obtain ⟨rfl, _, rfl⟩ := e1
  exact hr
set_option maxRecDepth 100000 in
set_option maxHeartbeats 4000000 in
theorem Call_any (wh : Int) (out : Bool) (wt wo po f be by_ ti pt : Int) (A RA : Option Addr) (len cap rn rc : Nat) (l lr : List Int) (w : World) (hr : Rd .u8 w w.heap.size A len l) (hrr : Rd .u8 w w.heap.size RA rn lr) (hlc : len ≤ cap) (hcm : cap ≤ 9223372036854775807) (hrc : rn ≤ rc) (hrm : rc ≤ 9223372036854775807) (hby : 0 ≤ by_ ∧ by_ ≤ 255) :
    Calls Tryz.prog 21 #[.agg #[.int .i64 wh, .bool out, .int .i64 wt, .int .i64 wo, .int .i64 po, .int .i64 f, .slice A len cap, .int .i64 be, .int .u8 by_, .int .i64 ti, .int .i64 pt, .slice RA rn rc]] w (CallT w ti) := by
  obtain ⟨m, hmn, hm1, hm2⟩ := minc 100 (by omega) rn
  have hj0 : (0 : Int) ≤ (m : Int) := by omega
  have hj1 : (m : Int) ≤ (rc : Int) := by omega
  have hj2 : m ≤ rc := by omega
  have hrt := hrr.take hm1
  obtain ⟨Lr, hLr⟩ : ∃ Lr, Lr = lr.take m := ⟨_, rfl⟩
  rw [← hLr] at hrt
  clear hLr hrr
  have hfr := fun w' (h : Below w.heap.size w w') => Frame15_any out wt wo po f be by_ ti A len cap l w' ((hr.below h).more h.size) hlc (by omega) hby
  unfold FR Gives at hfr
  replace hfr := Lib.hid hfr
  replace hrt := Lib.hid hrt
  go_enter Tryz.func21, Tryz.ntmps21
  go_upto_region 1 with fail
  have ac : AcC w #[.int .i64 wh, .bool out, .int .i64 wt, .int .i64 wo, .int .i64 po, .int .i64 f, .slice A len cap, .int .i64 be, .int .u8 by_, .int .i64 ti, .int .i64 pt, .slice RA rn rc] ((w.alloc (.cells #[.int .i64 wh, .bool out, .int .i64 wt, .int .i64 wo, .int .i64 po, .int .i64 f, .slice A len cap, .int .i64 be, .int .u8 by_, .int .i64 ti, .int .i64 pt, .slice RA rn rc] 52)).alloc (.cells #[.bool false, .slice none 0 0, .int .i64 0, .int .i64 0] 50)) := by
    have e1 : (w.alloc (.cells #[.int .i64 wh, .bool out, .int .i64 wt, .int .i64 wo, .int .i64 po, .int .i64 f, .slice A len cap, .int .i64 be, .int .u8 by_, .int .i64 ti, .int .i64 pt, .slice RA rn rc] 52)).heap.size = w.heap.size + 1 := by simp
    have b1 := Blk.new w 52 #[.int .i64 wh, .bool out, .int .i64 wt, .int .i64 wo, .int .i64 po, .int .i64 f, .slice A len cap, .int .i64 be, .int .u8 by_, .int .i64 ti, .int .i64 pt, .slice RA rn rc]
    have b2 := Blk.new (w.alloc (.cells #[.int .i64 wh, .bool out, .int .i64 wt, .int .i64 wo, .int .i64 po, .int .i64 f, .slice A len cap, .int .i64 be, .int .u8 by_, .int .i64 ti, .int .i64 pt, .slice RA rn rc] 52)) 50 #[.bool false, .slice none 0 0, .int .i64 0, .int .i64 0]
    rw [e1] at b2
    exact ⟨b1.alloc _, b2, (bel_alloc _ _).alloc (by simp) _⟩
  generalize (w.alloc (.cells #[.int .i64 wh, .bool out, .int .i64 wt, .int .i64 wo, .int .i64 po, .int .i64 f, .slice A len cap, .int .i64 be, .int .u8 by_, .int .i64 ti, .int .i64 pt, .slice RA rn rc] 52)).alloc (.cells #[.bool false, .slice none 0 0, .int .i64 0, .int .i64 0] 50) = W at *
  have z1 : ∀ t : Tw (AcC w #[.int .i64 wh, .bool out, .int .i64 wt, .int .i64 wo, .int .i64 po, .int .i64 f, .slice A len cap, .int .i64 be, .int .u8 by_, .int .i64 ti, .int .i64 pt, .slice RA rn rc]), t.w.cell? ⟨w.heap.size, 1, none⟩ = some (.bool out) := fun t => t.h.ba.cell 1
  have z9 : ∀ t : Tw (AcC w #[.int .i64 wh, .bool out, .int .i64 wt, .int .i64 wo, .int .i64 po, .int .i64 f, .slice A len cap, .int .i64 be, .int .u8 by_, .int .i64 ti, .int .i64 pt, .slice RA rn rc]), t.w.cell? ⟨w.heap.size, 9, none⟩ = some (.int .i64 ti) := fun t => t.h.ba.cell 9
  have z10 : ∀ t : Tw (AcC w #[.int .i64 wh, .bool out, .int .i64 wt, .int .i64 wo, .int .i64 po, .int .i64 f, .slice A len cap, .int .i64 be, .int .u8 by_, .int .i64 ti, .int .i64 pt, .slice RA rn rc]), t.w.cell? ⟨w.heap.size, 10, none⟩ = some (.int .i64 pt) := fun t => t.h.ba.cell 10
  have zs : ∀ w', (∃ t : Tw (AcC w #[.int .i64 wh, .bool out, .int .i64 wt, .int .i64 wo, .int .i64 po, .int .i64 f, .slice A len cap, .int .i64 be, .int .u8 by_, .int .i64 ti, .int .i64 pt, .slice RA rn rc]), w' = t.w) → ∀ j u, ([.bool out, .int .i64 wt, .int .i64 wo, .int .i64 po, .int .i64 f, .slice A len cap, .int .i64 be, .int .u8 by_, .int .i64 ti] : List Value)[j]? = some u → w'.cell? ⟨w.heap.size, 1 + j, none⟩ = some u := fun w' ⟨t, ht⟩ j u hu => by
    rw [ht, t.h.ba.cell, ← hu]
    match j with
    | 0 | 1 | 2 | 3 | 4 | 5 | 6 | 7 | 8 => rfl
    | j + 9 => simp at hu
  have zz : Nonempty (Tw (AcC w #[.int .i64 wh, .bool out, .int .i64 wt, .int .i64 wo, .int .i64 po, .int .i64 f, .slice A len cap, .int .i64 be, .int .u8 by_, .int .i64 ti, .int .i64 pt, .slice RA rn rc])) := ⟨⟨_, ac⟩⟩
  refine wp_region_float (AcC w #[.int .i64 wh, .bool out, .int .i64 wt, .int .i64 wo, .int .i64 po, .int .i64 f, .slice A len cap, .int .i64 be, .int .u8 by_, .int .i64 ti, .int .i64 pt, .slice RA rn rc]) (.cells #[.bool false, .slice none 0 0, .int .i64 0, .int .i64 0] 50) (w.heap.size + 2) (fun h => .pointer (some ⟨h, 0, none⟩)) 14 _ [(0, true), (1, true), (2, true), (3, true), (4, true), (6, true), (7, true), (8, true), (9, true), (10, true), (11, true), (12, true), (5, false), (13, true)] [(15, false)] (by kernel_rfl) (by kernel_rfl) (by rfl) (by rfl) (by kernel_rfl) (by kernel_rfl) (ac.bel_ (Below.refl _ _).drew) (fun w' h => h.bel_ (bel_alloc _ _)) (fun w' h => h.br.lt) (by intro a w; simp [execOp, go_sem]) ?_
  refine wpFl_qs 12 _ _ _ (by kernel_rfl) (by kernel_rfl) (by simp) ?_
  unfold clsS
  simp only [List.take_succ_cons, List.take_zero, List.drop_succ_cons, List.drop_zero, List.filterMap_cons, List.filterMap_nil, List.getElem?_toArray, List.getElem?_cons_zero, List.getElem?_cons_succ]
  repeat (first
    | go_big_quiet_skip
    | (go_big_quiet_want; first | (refine quiet_ldAt rfl rfl zs Tryz.underlying24 s15_size ?_; go_simp; go_big_quiet_on) | (go_big_quiet_op; go_big_quiet_on))
    | (refine id (?_ : wpQuiet _ _ _ _ (_ :: _) _); first | go_big_quiet_skip | (go_big_quiet_want; first | (refine quiet_ldAt rfl rfl zs Tryz.underlying24 s15_size ?_; go_simp; go_big_quiet_on) | (go_big_quiet_op; go_big_quiet_on))))
  refine wpQuiet_nil ?_
  refine wpFl_e (fun _ => True) _ (by rfl) (by kernel_rfl) trivial (fun _ _ => trivial) (fun W1 _ hS1 K hK => ?_)
  go_simp
  refine (hfr.out W1 hS1.bel).mono ?_
  rintro e W2 ⟨F, ⟨hF1, hF2⟩, v, rfl, own, hb2⟩
  obtain ⟨n, hn⟩ : ∃ n, F.length = n := ⟨_, rfl⟩
  obtain ⟨A3, c3, rfl, hc1, hc2, _⟩ := own.form hn
  refine hK _ _ (hS1.bel_ hb2) (KeepO.belA hb2) ?_
  clear hK K hfr
  replace own := own.mono_ hS1.bel.size
  clear hS1 hb2
  refine wpFl_qs 1 _ _ _ (by kernel_rfl) (by kernel_rfl) (by simp) ?_
  unfold clsS
  simp only [List.take_succ_cons, List.take_zero, List.drop_succ_cons, List.drop_zero, List.filterMap_cons, List.filterMap_nil, List.getElem?_toArray, List.getElem?_cons_zero, List.getElem?_cons_succ]
  repeat (first
    | go_big_quiet_skip
    | (go_big_quiet_want; go_big_quiet_op; go_big_quiet_on)
    | (refine id (?_ : wpQuiet _ _ _ _ (_ :: _) _); first | go_big_quiet_skip | (go_big_quiet_want; go_big_quiet_op; go_big_quiet_on)))
  refine wpQuiet_nil ?_
  unfold wpFl
  refine ⟨fun w' => Own .u8 5 w' w.heap.size (.slice A3 n c3) F, own, fun _ h => h.alloc _, fun W3 gf own3 hS3 hgf hbf => ?_⟩
  clear own zz z1 z9 z10 zs
  replace hbf : Blk W3 gf 50 #[.bool false, .slice none 0 0, .int .i64 0, .int .i64 0] := hbf
  unfold maxLen at hc2
  replace hn := Lib.hid hn
  go_simp
  refine wpPl_e _ (by rfl) (by kernel_rfl) (fun K hK => ?_)
  obtain ⟨pv, hpv⟩ : ∃ pv, wrap64 (998 + pt.tmod 44) = pv := ⟨_, rfl⟩
  rw [hpv]
  refine wp_stRow rfl rfl rfl rfl hbf rcall_size rfl (by simp [Value.oneCell']) ?_
  have bk := hbf.setRow #[.bool out, .slice A3 n c3, .int .i64 ti, .int .i64 pv]
  have own4 := own3.updne hbf (by decide) (Upd.row' W3 gf #[.bool out, .slice A3 n c3, .int .i64 ti, .int .i64 pv])
  have ac4 : AcC w #[.int .i64 wh, .bool out, .int .i64 wt, .int .i64 wo, .int .i64 po, .int .i64 f, .slice A len cap, .int .i64 be, .int .u8 by_, .int .i64 ti, .int .i64 pt, .slice RA rn rc] (W3.setRow gf #[.bool out, .slice A3 n c3, .int .i64 ti, .int .i64 pv]) := ⟨hS3.ba.setRow_far (by omega) _, hS3.br.setRow_far (by omega) _, below_setRow hS3.bel (by omega) _⟩
  refine hK _ _ ac4 ?_
  clear hK K hS3 own3 hbf ac hpv
  unfold wpPl
  refine NoPanic.normal ?_
  generalize W3.setRow gf #[.bool out, .slice A3 n c3, .int .i64 ti, .int .i64 pv] = W4 at *
  have ac := ac4
  clear ac4
  have a0 := ac.ba.cell 0
  have a10 := ac.ba.cell 10
  have a11 := ac.ba.cell 11
  have f1 := bk.frozen 1
  have f3 := bk.frozen 3
  have c1 := bk.cell 1
  have c3' := bk.cell 3
  have br := ac.br
  have hn130 : n ≤ 130 := by have := hn.out; omega
  by_cases h6 : wh = 6
  · subst h6
    have bk8 : Blk (W4.setCell ⟨gf, 3, none⟩ (.int .i64 pt)) gf 50 #[.bool out, .slice A3 n c3, .int .i64 ti, .int .i64 pt]  := bk.set_ 3 (.int .i64 pt)
    have br8 := ac.br.far (p := ⟨gf, 3, none⟩) (show w.heap.size + 1 ≠ gf by omega) (.int .i64 pt)
    have bel8 := ac.bel.setCell (p := ⟨gf, 3, none⟩) (show w.heap.size ≤ gf by omega) (.int .i64 pt)
    have own8 := (own4.updne bk (by decide) (Upd.one W4 gf 3 (.int .i64 pt))).updne br8 (by decide) (Upd.row' _ (w.heap.size + 1) #[.bool out, .slice A3 n c3, .int .i64 ti, .int .i64 pt] )
    have bel9 := below_setRow bel8 (Nat.le_succ _) #[.bool out, .slice A3 n c3, .int .i64 ti, .int .i64 pt] 
    go_wp2_with (first
      | (refine wpList_ldRow rfl rfl rfl bk8 Tryz.underlying50 rcall_size ?_)
      | (refine wpList_stRow rfl rfl rfl rfl rfl br8 rcall_size rfl (by simp [Value.oneCell']) ?_))
    exact bodyPost_ret (results_row rfl _ rfl (br8.setRow _) Tryz.underlying50 rcall_size) rfl ⟨_, _, _, _, _, _, rfl, by omega, hc1, by omega, own8.rdS hn.out, bel9⟩
  by_cases h5 : wh = 5
  · subst h5
    obtain ⟨j, hj, hj2'⟩ := modn pt 2 (by omega)
    have hjv : Value.int .u64 ((IntKind.u64.wrap pt).tmod 2) = .int .u64 (j : Int) := by rw [hj]
    clear hj
    have h01 : j = 0 ∨ j = 1 := by omega
    rcases h01 with rfl | rfl
    · have bk8 : Blk (W4.setCell ⟨gf, 3, none⟩ (.int .i64 (-1))) gf 50 #[.bool out, .slice A3 n c3, .int .i64 ti, .int .i64 (-1)]  := bk.set_ 3 (.int .i64 (-1))
      have br8 := ac.br.far (p := ⟨gf, 3, none⟩) (show w.heap.size + 1 ≠ gf by omega) (.int .i64 (-1))
      have bel8 := ac.bel.setCell (p := ⟨gf, 3, none⟩) (show w.heap.size ≤ gf by omega) (.int .i64 (-1))
      have own8 := (own4.updne bk (by decide) (Upd.one W4 gf 3 (.int .i64 (-1)))).updne br8 (by decide) (Upd.row' _ (w.heap.size + 1) #[.bool out, .slice A3 n c3, .int .i64 ti, .int .i64 (-1)] )
      have bel9 := below_setRow bel8 (Nat.le_succ _) #[.bool out, .slice A3 n c3, .int .i64 ti, .int .i64 (-1)] 
      go_wp2_with (first
        | (refine wpList_ldRow rfl rfl rfl bk8 Tryz.underlying50 rcall_size ?_)
        | (refine wpList_stRow rfl rfl rfl rfl rfl br8 rcall_size rfl (by simp [Value.oneCell']) ?_))
      exact bodyPost_ret (results_row rfl _ rfl (br8.setRow _) Tryz.underlying50 rcall_size) rfl ⟨_, _, _, _, _, _, rfl, by omega, hc1, by omega, own8.rdS hn.out, bel9⟩
    · have bk8 : Blk (W4.setCell ⟨gf, 3, none⟩ (.int .i64 (-2))) gf 50 #[.bool out, .slice A3 n c3, .int .i64 ti, .int .i64 (-2)]  := bk.set_ 3 (.int .i64 (-2))
      have br8 := ac.br.far (p := ⟨gf, 3, none⟩) (show w.heap.size + 1 ≠ gf by omega) (.int .i64 (-2))
      have bel8 := ac.bel.setCell (p := ⟨gf, 3, none⟩) (show w.heap.size ≤ gf by omega) (.int .i64 (-2))
      have own8 := (own4.updne bk (by decide) (Upd.one W4 gf 3 (.int .i64 (-2)))).updne br8 (by decide) (Upd.row' _ (w.heap.size + 1) #[.bool out, .slice A3 n c3, .int .i64 ti, .int .i64 (-2)] )
      have bel9 := below_setRow bel8 (Nat.le_succ _) #[.bool out, .slice A3 n c3, .int .i64 ti, .int .i64 (-2)] 
      go_wp2_with (first
        | (refine wpList_ldRow rfl rfl rfl bk8 Tryz.underlying50 rcall_size ?_)
        | (refine wpList_stRow rfl rfl rfl rfl rfl br8 rcall_size rfl (by simp [Value.oneCell']) ?_))
      exact bodyPost_ret (results_row rfl _ rfl (br8.setRow _) Tryz.underlying50 rcall_size) rfl ⟨_, _, _, _, _, _, rfl, by omega, hc1, by omega, own8.rdS hn.out, bel9⟩
  by_cases h7 : wh = 7
  · subst h7
    have bk8 : Blk (W4.setCell ⟨gf, 1, none⟩ (.slice RA m rc)) gf 50 #[.bool out, .slice RA m rc, .int .i64 ti, .int .i64 pv]  := bk.set_ 1 (.slice RA m rc)
    have br8 := ac.br.far (p := ⟨gf, 1, none⟩) (show w.heap.size + 1 ≠ gf by omega) (.slice RA m rc)
    have bel8 := ac.bel.setCell (p := ⟨gf, 1, none⟩) (show w.heap.size ≤ gf by omega) (.slice RA m rc)
    have own8 := (own4.updne bk (by decide) (Upd.one W4 gf 1 (.slice RA m rc))).updne br8 (by decide) (Upd.row' _ (w.heap.size + 1) #[.bool out, .slice RA m rc, .int .i64 ti, .int .i64 pv] )
    have bel9 := below_setRow bel8 (Nat.le_succ _) #[.bool out, .slice RA m rc, .int .i64 ti, .int .i64 pv] 
    go_wp2_with (first
      | (refine wpList_ldRow rfl rfl rfl bk8 Tryz.underlying50 rcall_size ?_)
      | (refine wpList_stRow rfl rfl rfl rfl rfl br8 rcall_size rfl (by simp [Value.oneCell']) ?_))
    exact bodyPost_ret (results_row rfl _ rfl (br8.setRow _) Tryz.underlying50 rcall_size) rfl ⟨_, _, _, _, _, _, rfl, by omega, hj2, by omega, (hrt.out.below bel9).more bel9.size, bel9⟩
  have d6 : (wh == 6) = false := by simpa using h6
  have d5 : (wh == 5) = false := by simpa using h5
  have d7 : (wh == 7) = false := by simpa using h7
  clear h5 h6 h7
  have br8 := ac.br
  have own8 := own4.updne br8 (by decide) (Upd.row' _ (w.heap.size + 1) #[.bool out, .slice A3 n c3, .int .i64 ti, .int .i64 pv])
  have bel9 := below_setRow ac.bel (Nat.le_succ _) #[.bool out, .slice A3 n c3, .int .i64 ti, .int .i64 pv]
  go_wp2_with (first
    | (refine wpList_ldRow rfl rfl rfl bk Tryz.underlying50 rcall_size ?_)
    | (refine wpList_stRow rfl rfl rfl rfl rfl br8 rcall_size rfl (by simp [Value.oneCell']) ?_))
  exact bodyPost_ret (results_row rfl _ rfl (br8.setRow _) Tryz.underlying50 rcall_size) rfl ⟨_, _, _, _, _, _, rfl, by omega, hc1, by omega, own8.rdS hn.out, bel9⟩
end Go.Proofs.YtbckoohljkmahaaGreat
namespace Go.Proofs.YtbckoohljkmahaaGreat
set_option linter.unusedVariables false
set_option linter.unusedSimpArgs false
open Go.RowKit
structure Ac where
  wh : Int
  out : Bool
  wt : Int
  wo : Int
  po : Int
  f : Int
  A : Option Addr
  n : Nat
  c : Nat
  be : Int
  by_ : Int
  ti : Int
  pt : Int
  RA : Option Addr
  rn : Nat
  rc : Nat
def Ac.cs (x : Ac) : List Value := [.int .i64 x.wh, .bool x.out, .int .i64 x.wt, .int .i64 x.wo, .int .i64 x.po, .int .i64 x.f, .slice x.A x.n x.c, .int .i64 x.be, .int .u8 x.by_, .int .i64 x.ti, .int .i64 x.pt, .slice x.RA x.rn x.rc]
structure AcOk (w : World) (x : Ac) : Prop where
  by8 : 0 ≤ x.by_ ∧ x.by_ ≤ 255
  b : ∃ l, Rd .u8 w w.heap.size x.A x.n l
  bn : x.n ≤ x.c
  bc : x.c ≤ 9223372036854775807
  r : ∃ l, Rd .u8 w w.heap.size x.RA x.rn l
  rn : x.rn ≤ x.rc
  rc : x.rc ≤ 9223372036854775807
theorem AcOk.bel {w w' : World} {x : Ac} (h : AcOk w x) (hb : Below w.heap.size w w') : AcOk w' x := by
  obtain ⟨h1, ⟨l, h2⟩, h3, h4, ⟨l', h5⟩, h6, h7⟩ := h
  exact ⟨h1, ⟨l, (h2.below hb).more hb.size⟩, h3, h4, ⟨l', (h5.below hb).more hb.size⟩, h6, h7⟩
theorem Call_of {w : World} {x : Ac} (h : AcOk w x) : Calls Tryz.prog 21 #[.agg #[.int .i64 x.wh, .bool x.out, .int .i64 x.wt, .int .i64 x.wo, .int .i64 x.po, .int .i64 x.f, .slice x.A x.n x.c, .int .i64 x.be, .int .u8 x.by_, .int .i64 x.ti, .int .i64 x.pt, .slice x.RA x.rn x.rc]] w (CallT w x.ti) := by
  obtain ⟨h1, ⟨l, h2⟩, h3, h4, ⟨l', h5⟩, h6, h7⟩ := h
  exact Call_any x.wh x.out x.wt x.wo x.po x.f x.be x.by_ x.ti x.pt x.A x.RA x.n x.c x.rn x.rc l l' w h2 h5 h3 h4 h6 h7 h1
/-- a row of acts -/
def AcRd (w : World) (A : Option Addr) (n : Nat) : Prop := 0 < n → ∃ b o, A = some ⟨b, o, none⟩ ∧ b < w.heap.size ∧ ∀ i, i < n → ∃ x : Ac, AcOk w x ∧ ∀ j v, x.cs[j]? = some v → w.cell? ⟨b, o + i * 12 + j, none⟩ = some v
theorem arr12 {ys : List Value} {x0 x1 x2 x3 x4 x5 x6 x7 x8 x9 x10 x11 : Value} (h0 : ys[0]? = some x0) (h1 : ys[1]? = some x1) (h2 : ys[2]? = some x2) (h3 : ys[3]? = some x3) (h4 : ys[4]? = some x4) (h5 : ys[5]? = some x5) (h6 : ys[6]? = some x6) (h7 : ys[7]? = some x7) (h8 : ys[8]? = some x8) (h9 : ys[9]? = some x9) (h10 : ys[10]? = some x10) (h11 : ys[11]? = some x11) :
    ∀ (j : Nat) v, ([x0, x1, x2, x3, x4, x5, x6, x7, x8, x9, x10, x11] : List Value)[j]? = some v → ys[j]? = some v := fun j v hv => by
  match j with
  | 0 => rw [h0]; exact hv
  | 1 => rw [h1]; exact hv
  | 2 => rw [h2]; exact hv
  | 3 => rw [h3]; exact hv
  | 4 => rw [h4]; exact hv
  | 5 => rw [h5]; exact hv
  | 6 => rw [h6]; exact hv
  | 7 => rw [h7]; exact hv
  | 8 => rw [h8]; exact hv
  | 9 => rw [h9]; exact hv
  | 10 => rw [h10]; exact hv
  | 11 => rw [h11]; exact hv
  | j + 12 => simp at hv
set_option maxRecDepth 100000 in
theorem ac_of {W : World} {m : Nat} {ys : List Value} (h : Rdg Tryz.prog W m 52 ys) : ∃ x : Ac, AcOk W x ∧ ys.length = 12 ∧ ∀ (j : Nat) v, x.cs[j]? = some v → ys[j]? = some v := by
  have hC : Tryz.prog.cellsOf 52 = 12 := by kernel_rfl
  have hCi : Tryz.prog.cellsOf 3 = 1 := by kernel_rfl
  have hCl : Tryz.prog.cellsOf 4 = 1 := by kernel_rfl
  have hCb : Tryz.prog.cellsOf 5 = 1 := by kernel_rfl
  have hCs : Tryz.prog.cellsOf 22 = 1 := by kernel_rfl
  have hCt : Tryz.prog.cellsOf 24 = 9 := by kernel_rfl
  obtain ⟨m', hl, hf⟩ := rdg_struct Tryz.underlying52 h
  obtain ⟨x0, e0, _⟩ := fld_int (i := 0) hf rfl Tryz.underlying3 hCi
  obtain ⟨m2, _, hf2⟩ := rdg_struct Tryz.underlying24 (hf 1 _ rfl)
  obtain ⟨x10, e10, _⟩ := fld_int (i := 2) hf rfl Tryz.underlying3 hCi
  obtain ⟨rA, rn, rc, rl, e11, k1, k2, k3⟩ := fld_ints (i := 3) hf rfl Tryz.underlying22 Tryz.underlying5 hCb hCs
  obtain ⟨y0, u0⟩ := fld_bool (i := 0) hf2 rfl Tryz.underlying4 hCl
  obtain ⟨y1, u1, _⟩ := fld_int (i := 1) hf2 rfl Tryz.underlying3 hCi
  obtain ⟨y2, u2, _⟩ := fld_int (i := 2) hf2 rfl Tryz.underlying3 hCi
  obtain ⟨y3, u3, _⟩ := fld_int (i := 3) hf2 rfl Tryz.underlying3 hCi
  obtain ⟨y4, u4, _⟩ := fld_int (i := 4) hf2 rfl Tryz.underlying3 hCi
  obtain ⟨sA, sn, sc, sl, u5, g1, g2, g3⟩ := fld_ints (i := 5) hf2 rfl Tryz.underlying22 Tryz.underlying5 hCb hCs
  obtain ⟨y6, u6, _⟩ := fld_int (i := 6) hf2 rfl Tryz.underlying3 hCi
  obtain ⟨y7, u7, r7⟩ := fld_int (i := 7) hf2 rfl Tryz.underlying5 hCb
  obtain ⟨y8, u8, _⟩ := fld_int (i := 8) hf2 rfl Tryz.underlying3 hCi
  clear hf hf2 h
  simp [List.getElem?_take, List.getElem?_drop, hCt] at u0 u1 u2 u3 u4 u5 u6 u7 u8
  unfold maxLen at g2 k2
  refine ⟨⟨x0, y0, y1, y2, y3, y4, sA, sn, sc, y6, y7, y8, x10, rA, rn, rc⟩, ⟨inr_u8 r7, ⟨sl, g3⟩, g1, by omega, ⟨rl, k3⟩, k1, by omega⟩, hl.trans hC, arr12 e0 u0 u1 u2 u3 u4 u5 u6 u7 u8 e10 e11⟩
theorem arg_acts {W : World} {v : Value} (h : Arg Tryz.prog W 45 v) : ∃ A n c, v = .slice A n c ∧ n ≤ c ∧ c ≤ 9223372036854775807 ∧ AcRd W A n := by
  obtain ⟨A, len, cap, m, rfl, h1, h2, h3⟩ := arg_slice Tryz.underlying45 h
  have hC : Tryz.prog.cellsOf 52 = 12 := by kernel_rfl
  rw [hC] at h3
  have h4 := slice_rows (by omega) h3
  unfold maxLen at h2
  refine ⟨A, len, cap, rfl, h1, by omega, fun hp => ?_⟩
  obtain ⟨b, o, rfl, hb, hi⟩ := h4 hp
  refine ⟨b, o, rfl, hb, fun i hil => ?_⟩
  obtain ⟨ys, hc, hl, hr⟩ := hi i hil
  obtain ⟨x, hx, hyl, hj⟩ := ac_of hr
  refine ⟨x, hx, fun j v hv => ?_⟩
  have hj12 : j < 12 := by
    have := (List.getElem?_eq_some_iff.1 (hj j v hv)).1
    omega
  exact (hc j (by omega)).trans (hj j v hv)
theorem arg_act {W : World} {v : Value} (h : Arg Tryz.prog W 52 v) : ∃ x : Ac, v = .agg #[.int .i64 x.wh, .bool x.out, .int .i64 x.wt, .int .i64 x.wo, .int .i64 x.po, .int .i64 x.f, .slice x.A x.n x.c, .int .i64 x.be, .int .u8 x.by_, .int .i64 x.ti, .int .i64 x.pt, .slice x.RA x.rn x.rc] ∧ AcOk W x := by
  obtain ⟨cs, m, rfl, hs, _⟩ := arg_struct Tryz.underlying52 h
  obtain ⟨fuel, h2⟩ := h.2
  obtain ⟨x, hx, hl, hj⟩ := ac_of h2
  refine ⟨x, ?_, hx⟩
  have e : cs.toList = x.cs := by
    refine List.ext_getElem? fun j => ?_
    cases hv : x.cs[j]? with
    | some v => exact hj j v hv
    | none =>
      rw [List.getElem?_eq_none]
      have h12 : x.cs.length = 12 := rfl
      have hl' : cs.toList.length = 12 := hl
      have := List.getElem?_eq_none_iff.1 hv
      omega
  rw [show cs = cs.toList.toArray by simp, e]
  rfl
end Go.Proofs.YtbckoohljkmahaaGreat
namespace Go.Proofs.YtbckoohljkmahaaGreat
set_option linter.unusedVariables false
set_option linter.unusedSimpArgs false
open Go.RowKit
theorem rwE_rdE (l : List Int) : rwE l = rdE l := by
  unfold rwE rdE
  by_cases h : getE l = 0
  · rw [if_neg (by simp [h]), if_pos h]
  · rw [if_pos h, if_neg h]
theorem whoP_rdE {o : Int} {ou : Bool} {l : List Int} (h : (whoP o ou l).2 = 0) : rdE l = 0 := by
  unfold whoP at h
  by_cases hE : rdE l = 0
  · exact hE
  · rw [if_pos hE] at h
    exact h
theorem step_err {c : Cf} {L : List Bd} {ou : Bool} {l : List Int} {ti po : Int} (h : (stepP c L ou l ti po).2.1 ≠ 0) : (stepP c L ou l ti po).1 = L ∧ (stepP c L ou l ti po).2.2 = [] := by
  unfold stepP at h ⊢
  split
  · exact ⟨rfl, rfl⟩
  rename_i h1
  rw [if_neg h1] at h
  split
  · exact ⟨rfl, rfl⟩
  rename_i h2
  rw [if_neg h2] at h
  have hr : rwE l = 0 := by rw [rwE_rdE]; exact whoP_rdE (by simpa using h2)
  split
  · rename_i h3
    rw [if_pos h3] at h
    unfold outS at h ⊢
    cases hb : ofB (whoP c.ou ou l).1 L with
    | some b => rw [hb] at h; exact absurd hr h
    | none =>
      rw [hb] at h
      simp only at h ⊢
      split
      · exact ⟨rfl, rfl⟩
      rename_i h4
      rw [if_neg h4] at h
      split
      · exact ⟨rfl, rfl⟩
      rename_i h5
      rw [if_neg h5] at h
      split
      · exact ⟨rfl, rfl⟩
      rename_i h6
      rw [if_neg h6] at h
      split
      · exact ⟨rfl, rfl⟩
      rename_i h7
      rw [if_neg h7] at h
      exact absurd hr h
  · rename_i h3
    rw [if_neg h3] at h
    unfold inS at h ⊢
    cases hb : atB c (placeP c (whoP c.ou ou l).1.pr (whoP c.ou ou l).1.po) L with
    | some b => rw [hb] at h; exact absurd hr h
    | none => exact ⟨rfl, rfl⟩
theorem rwL_pos {l : List Int} (h8 : Bytes8 l) (h : rwE l = 0) (out : Bool) {a port : Int} (ha : 0 ≤ a ∧ a ≤ 4294967295) (hp : 0 ≤ port ∧ port ≤ 65535) : 0 < (rwL l out a port).length := by
  have g := rw_again h8 h out ha hp
  have h1 := g.getE
  rcases Nat.eq_zero_or_pos (rwL l out a port).length with h0 | h0
  · rw [List.eq_nil_of_length_eq_zero h0] at h1
    exact absurd h1 (by decide)
  · exact h0
theorem step_ok {c : Cf} {L : List Bd} {ou : Bool} {l : List Int} {ti po : Int} (hc : c.ok) (hou : 0 ≤ c.ou ∧ c.ou ≤ 4294967295) (hi : LInv c L) (h8 : Bytes8 l) (h : (stepP c L ou l ti po).2.1 = 0) : 0 < (stepP c L ou l ti po).2.2.length := by
  unfold stepP at h ⊢
  split
  · rename_i h1; rw [if_pos h1] at h; exact absurd h (show ¬ ((1 : Int) = 0) by decide)
  rename_i h1
  rw [if_neg h1] at h
  split
  · rename_i h2; rw [if_pos h2] at h; exact absurd h h2
  rename_i h2
  rw [if_neg h2] at h
  have hr : rwE l = 0 := by rw [rwE_rdE]; exact whoP_rdE (by simpa using h2)
  split
  · rename_i h3
    rw [if_pos h3] at h
    unfold outS at h ⊢
    cases hb : ofB (whoP c.ou ou l).1 L with
    | some b =>
      have := (hi.ok b (ofB_some hb).1).port hc
      exact rwL_pos h8 hr true hou (by omega)
    | none =>
      rw [hb] at h
      simp only at h ⊢
      split
      · rename_i h4; rw [if_pos h4] at h; exact absurd h (show ¬ ((7 : Int) = 0) by decide)
      rename_i h4
      rw [if_neg h4] at h
      split
      · rename_i h5; rw [if_pos h5] at h; exact absurd h (show ¬ ((8 : Int) = 0) by decide)
      rename_i h5
      rw [if_neg h5] at h
      split
      · rename_i h6; rw [if_pos h6] at h; exact absurd h (show ¬ ((9 : Int) = 0) by decide)
      rename_i h6
      rw [if_neg h6] at h
      split
      · rename_i h7; rw [if_pos h7] at h; exact absurd h (show ¬ ((1 : Int) = 0) by decide)
      rename_i h7
      have := placeP_port hc (show 0 ≤ placeP c (whoP c.ou ou l).1.pr po by omega)
      exact rwL_pos h8 hr true hou (by omega)
  · rename_i h3
    rw [if_neg h3] at h
    unfold inS at h ⊢
    cases hb : atB c (placeP c (whoP c.ou ou l).1.pr (whoP c.ou ou l).1.po) L with
    | some b =>
      obtain ⟨r1, r2, r3⟩ := (hi.ok b (atB_some hb).1).rng
      exact rwL_pos h8 hr false (inr_u32 r2) (inr_u16 r3)
    | none => rw [hb] at h; exact absurd h (show ¬ ((7 : Int) = 0) by decide)
end Go.Proofs.YtbckoohljkmahaaGreat
namespace Go.Proofs.YtbckoohljkmahaaGreat
set_option linter.unusedVariables false
set_option linter.unusedSimpArgs false
open Go.RowKit Go.Maps
/-- what a map's type is made of -/
structure KSpec (P : Program) (K mt V : TypeId) (z : Value) {α : Type} (kv : α → Value) (ok : α → Prop) (lit : α → Lit) : Prop where
  keyed : Keyed P K
  key : ∀ f, ok f → keyOf P K (kv f) = some (lit f)
  inj : ∀ f g, ok f → ok g → lit f = lit g → f = g
  um : P.underlying mt = some (.map K V)
  zv : ∀ w, (zeroValue V).run P w = .ok z w
/-- block fb holds what G tells -/
structure KmG (P : Program) (K : TypeId) {α : Type} (ok : α → Prop) (lit : α → Lit) (W : World) (fb n : Nat) (G : α → Option Value) : Prop where
  ex : ∃ D : DataW Value, W.ownsMap P K rdV fb n D ∧ IsMap D ∧ ∀ f, ok f → Maps.has D (lit f) = (G f).isSome ∧ ∀ z, D.atKey (lit f) (.held z) = .held ((G f).getD z)
section
variable {P : Program} {K mt V : TypeId} {z : Value} {α : Type} [DecidableEq α] {kv : α → Value} {ok : α → Prop} {lit : α → Lit} {W W' : World} {fb n : Nat} {G G' : α → Option Value}
omit [DecidableEq α] in
theorem KmG.lt (h : KmG P K ok lit W fb n G) : fb < W.heap.size := by obtain ⟨D, h1, _⟩ := h.ex; exact h1.lt
omit [DecidableEq α] in
theorem KmG.keep (h : KmG P K ok lit W fb n G) (hb : W'.heap[fb]? = W.heap[fb]?) : KmG P K ok lit W' fb n G := by
  obtain ⟨D, ⟨es, clock, h1, F1, hs, hD⟩, h2, h3⟩ := h.ex
  exact ⟨D, ⟨es, clock, hb.trans h1, F1, hs, hD⟩, h2, h3⟩
omit [DecidableEq α] in
theorem KmG.bel (h : KmG P K ok lit W fb n G) (hb : Below W.heap.size W W') : KmG P K ok lit W' fb n G := h.keep (hb.block fb h.lt)
omit [DecidableEq α] in
theorem KmG.upd {S : Nat → Prop} (h : KmG P K ok lit W fb n G) (hu : Upd S W W') (hS : ¬ S fb) : KmG P K ok lit W' fb n G := h.keep (hu.block fb h.lt hS)
omit [DecidableEq α] in
theorem KmG.made (P : Program) (K : TypeId) (ok : α → Prop) (lit : α → Lit) (W : World) : KmG P K ok lit (W.alloc (.map #[] 0)) W.heap.size 0 (fun _ => none) := ⟨.map [], World.ownsMap_made W _ _ _, isMap_empty, fun f _ => ⟨rfl, fun _ => rfl⟩⟩
omit [DecidableEq α] in
theorem KmG.ext (h : KmG P K ok lit W fb n G) (he : ∀ f, ok f → G f = G' f) : KmG P K ok lit W fb n G' := by
  obtain ⟨D, h1, h2, h3⟩ := h.ex
  exact ⟨D, h1, h2, fun f hf => by rw [← he f hf]; exact h3 f hf⟩
omit [DecidableEq α] in
theorem KmG.notBlk (h : KmG P K ok lit W fb n G) {g : Nat} {t : TypeId} {cs : Array Value} (hb : Blk W g t cs) : g ≠ fb := fun e => by
  obtain ⟨D, ⟨es, clock, h1, _⟩, _⟩ := h.ex
  have h2 : W.heap[g]? = some (.cells cs t (0, 0)) := hb
  rw [e, h1] at h2
  cases h2
omit [DecidableEq α] in
theorem KmG.look0 (S : KSpec P K mt V z kv ok lit) (h : KmG P K ok lit W fb n G) {f : α} (hf : ok f) : (Instr.lookup mt (.map (some fb)) (kv f) false).run P W = .ok ((G f).getD z) W := by
  obtain ⟨D, hD, hM, hx⟩ := h.ex
  obtain ⟨v, ps, hrun, hv⟩ := hD.lookup S.keyed S.um (S.zv W) (zd := .held z) (zp := []) rfl (S.key f hf)
  obtain ⟨h1, h2⟩ := hx f hf
  rw [h2 z] at hv
  unfold rdV at hv
  simp only [Option.some.injEq, Prod.mk.injEq, DataW.held.injEq] at hv
  rw [hrun, hv.1]
theorem KmG.put (S : KSpec P K mt V z kv ok lit) (h : KmG P K ok lit W fb n G) (hn : n < 1000000) {f : α} (hf : ok f) (v : Value) : ∃ W', (Instr.mapUpdate mt (.map (some fb)) (kv f) v).run P W = .ok () W' ∧ KmG P K ok lit W' fb (n + 1) (fun g => if g = f then some v else G g) ∧ Upd (fun j => j = fb) W W' := by
  obtain ⟨D, hD, hM, hx⟩ := h.ex
  obtain ⟨W', hrun, hown, hg⟩ := hD.update S.keyed S.um (by unfold maxLen; omega) (S.key f hf) (val := v) (d := .held v) (ps := []) rfl
  refine ⟨W', hrun, ⟨_, hown, hM.put _ _, fun g hgr => ?_⟩, Upd.of_grown hg (fun g e => by injection e with e; exact e.symm)⟩
  by_cases e : g = f
  · subst e
    rw [if_pos rfl, has_put_same hM (S.keyed.key (S.key g hf))]
    exact ⟨rfl, fun z => by rw [atKey_put_same hM (S.keyed.key (S.key g hf))]; rfl⟩
  · have hne : lit g ≠ lit f := fun h => e (S.inj g f hgr hf h)
    rw [if_neg e, has_put_other hne]
    exact ⟨(hx g hgr).1, fun z => by rw [atKey_put_other hne]; exact (hx g hgr).2 z⟩
end
-- keys: the document's flows; pairs of numbers
theorem krf : Keyed Tryz.prog 38 := Keyed.of_law (deep_law_gate laidOut (by decide +kernel) (by decide +kernel) (by kernel_rfl) (by kernel_rfl))
set_option maxRecDepth 100000 in
theorem keyOf_rflow {f : Fl} (h : f.rng) : keyOf Tryz.prog 38 (.agg f.cs) = some (litF f) := by
  obtain ⟨h1, h2, h3⟩ := h
  unfold inr at h1 h2 h3
  obtain ⟨m, hs⟩ : ∃ m, Tryz.prog.types.size = m + 1 := ⟨Tryz.prog.types.size - 1, by kernel_rfl⟩
  have hk : Tryz.prog.keyType 38 = true := by kernel_rfl
  have c0 : Tryz.prog.cellsOf 3 = 1 := by kernel_rfl
  have c1 : Tryz.prog.cellsOf 25 = 1 := by kernel_rfl
  have c2 : Tryz.prog.cellsOf 30 = 1 := by kernel_rfl
  have c3 : Tryz.prog.cellsOf 38 = 3 := by kernel_rfl
  unfold keyOf
  simp only [Tryz.underlying38]
  rw [if_pos (by simp [hk, Value.formed, Tryz.underlying38, c3, Fl.cs]), hs]
  unfold Program.keyLits
  simp only [Tryz.underlying38, Value.cells]
  rw [if_pos (by simp [c3, Fl.cs])]
  simp [Fl.cs, Program.keyLits, Tryz.underlying3, Tryz.underlying25, Tryz.underlying30, c0, c1, c2, h1, h2, h3, litF]
theorem rflow_int : KSpec Tryz.prog 38 60 3 (.int .i64 0) (fun f : Fl => .agg f.cs) Fl.rng litF :=
  ⟨krf, fun f h => keyOf_rflow h, fun f g hf hg h => litF_inj hf hg h, Tryz.underlying60, zeroInt⟩
def prV (x : Int × Int) : Value := .agg #[.int .i64 x.1, .int .i64 x.2]
def prOk (x : Int × Int) : Prop := inr .i64 x.1 ∧ inr .i64 x.2
def litP (x : Int × Int) : Lit := .string (keyBytes [.int .i64 x.1, .int .i64 x.2])
theorem kpr : Keyed Tryz.prog 64 := Keyed.of_law (deep_law_gate laidOut (by decide +kernel) (by decide +kernel) (by kernel_rfl) (by kernel_rfl))
set_option maxRecDepth 100000 in
theorem keyOf_pr {x : Int × Int} (h : prOk x) : keyOf Tryz.prog 64 (prV x) = some (litP x) := by
  obtain ⟨h1, h2⟩ := h
  unfold inr at h1 h2
  obtain ⟨m, hs⟩ : ∃ m, Tryz.prog.types.size = m + 1 := ⟨Tryz.prog.types.size - 1, by kernel_rfl⟩
  have hk : Tryz.prog.keyType 64 = true := by kernel_rfl
  have c0 : Tryz.prog.cellsOf 3 = 1 := by kernel_rfl
  have c3 : Tryz.prog.cellsOf 64 = 2 := by kernel_rfl
  unfold keyOf prV
  simp only [Tryz.underlying64]
  rw [if_pos (by simp [hk, Value.formed, Tryz.underlying64, c3]), hs]
  unfold Program.keyLits
  simp only [Tryz.underlying64, Value.cells]
  rw [if_pos (by simp [c3])]
  have hr2 : List.range 2 = [0, 1] := rfl
  simp [Program.keyLits, Tryz.underlying3, c0, h1, h2, litP, hr2]
theorem litP_inj {f g : Int × Int} (hf : prOk f) (hg : prOk g) (h : litP f = litP g) : f = g := by
  have h1 := keyOf_pr hf
  have h2 := keyOf_pr hg
  rw [h] at h1
  have h3 := kpr.inj h1 h2
  obtain ⟨f1, f2⟩ := f
  obtain ⟨g1, g2⟩ := g
  simp [prV] at h3
  obtain ⟨rfl, rfl⟩ := h3
  rfl
theorem pr_int : KSpec Tryz.prog 64 61 3 (.int .i64 0) prV prOk litP :=
  ⟨kpr, fun f h => keyOf_pr h, fun f g hf hg h => litP_inj hf hg h, Tryz.underlying61, zeroInt⟩
section
variable {P : Program} {ops : Array Oper} {rest : List Oper} {o : Oper} {a : Act} {Q : Exit → Act → World → Prop} {w : World}
theorem wpList_lookG (hg : Region.wanted o (yielded ops a.tmps) = true) {t : TypeId} {m x : Operand} {ok : Bool} (ho : o.op = .lookup t m x ok) {mv xv v : Value} (hm : a.eval m = mv) (hx : a.eval x = xv) (hr : (Instr.lookup t mv xv ok).run P w = .ok v w) (h : wpList P ops Q rest (a.put o.dst v) w) : wpList P ops Q (o :: rest) a w := by
  refine wpList_step fun K hK => ?_
  rw [if_pos hg]
  exact wp_look ho hm hx hr (hK _ _ h)
/-- an array is loaded whole -/
theorem wpList_ldArrG (hg : Region.wanted o (yielded ops a.tmps) = true) {t : TypeId} {p : Operand} (ho : o.op = .load t p) {g : Nat} (hp : a.eval p = .pointer (some ⟨g, 0, none⟩)) {tt : TypeId} {cs : Array Value}
    (hb : Blk w g tt cs) {k : Nat} {e : TypeId} (hu : P.underlying t = some (.array k e)) (hi : (P.info? t).map (·.size) = some cs.size) (h : wpList P ops Q rest (a.put o.dst (.agg cs)) w) : wpList P ops Q (o :: rest) a w := by
  refine wpList_step fun K hK => ?_
  rw [if_pos hg]
  have hr : (execOp a.eval o).run P w = .ok (.value (.agg cs)) w := by
    have h2 := run_loadVar_row (P := P) w g tt t cs (0, 0) (.array k e) hb hu rfl hi
    simp only [execOp, ho, hp, Instr.loadAt, Instr.sureAddr, Sem.run_bind, Sem.run_pure, Result.andThen, h2]
  unfold Oper.wp
  rw [hr, Oper.upon_value]
  exact hK _ _ h
theorem quiet_ldArr {o : Oper} {a : Act} {C : World → Prop} {K : Act → Prop} {t : TypeId} {p : Operand} (ho : o.op = .load t p) {g : Nat} (hp : a.eval p = .pointer (some ⟨g, 0, none⟩)) {tt : TypeId} {cs : Array Value} (h : ∀ w, C w → Blk w g tt cs) {m : Nat} {e : TypeId} (hu : P.underlying t = some (.array m e)) (hi : (P.info? t).map (·.size) = some cs.size)
    (hk : K (a.put o.dst (.agg cs))) : o.quiet P a C K :=
  quiet_run _ (fun w hw => by
    have h2 := run_loadVar_row (P := P) w g tt t cs (0, 0) (.array m e) (h w hw) hu rfl hi
    simp only [execOp, ho, hp, Instr.loadAt, Instr.sureAddr, Sem.run_bind, Sem.run_pure, Result.andThen, h2]) hk
theorem wpList_lookX {t : TypeId} {mv xv v : Value} {ok : Bool} (hr : (Instr.lookup t mv xv ok).run P w = .ok v w) : ∀ (ops : Array Oper) (rest : List Oper) (o : Oper) (a : Act) (Q : Exit → Act → World → Prop),
    (∃ m x, o.op = .lookup t m x ok ∧ a.eval m = mv ∧ a.eval x = xv ∧ Region.wanted o (yielded ops a.tmps) = true) → wpList P ops Q rest (a.put o.dst v) w → wpList P ops Q (o :: rest) a w :=
  fun _ _ _ _ _ ⟨_, _, ho, hm, hx, hg⟩ h => wpList_lookG hg ho hm hx hr h
theorem wpList_ldX {t : TypeId} {g : Nat} {tt : TypeId} {cs : Array Value} (hb : Blk w g tt cs) {fs : Array Field} (hu : P.underlying t = some (.struct fs)) (hi : (P.info? t).map (·.size) = some cs.size) : ∀ (ops : Array Oper) (rest : List Oper) (o : Oper) (a : Act) (Q : Exit → Act → World → Prop),
    (∃ p, o.op = .load t p ∧ a.eval p = .pointer (some ⟨g, 0, none⟩) ∧ Region.wanted o (yielded ops a.tmps) = true) → wpList P ops Q rest (a.put o.dst (.agg cs)) w → wpList P ops Q (o :: rest) a w :=
  fun ops rest o a Q ⟨p, ho, hp, hg⟩ h => by
    refine wpList_step fun K hK => ?_
    rw [if_pos hg]
    have hr : (execOp a.eval o).run P w = .ok (.value (.agg cs)) w := by
      have h2 := run_loadVar_row (P := P) w g tt t cs (0, 0) (.struct fs) hb hu rfl hi
      simp only [execOp, ho, hp, Instr.loadAt, Instr.sureAddr, Sem.run_bind, Sem.run_pure, Result.andThen, h2]
    unfold Oper.wp
    rw [hr, Oper.upon_value]
    exact hK _ _ h
theorem wpList_ldArrX {t : TypeId} {g : Nat} {tt : TypeId} {cs : Array Value} (hb : Blk w g tt cs) {k : Nat} {e : TypeId} (hu : P.underlying t = some (.array k e)) (hi : (P.info? t).map (·.size) = some cs.size) : ∀ (ops : Array Oper) (rest : List Oper) (o : Oper) (a : Act) (Q : Exit → Act → World → Prop),
    (∃ p, o.op = .load t p ∧ a.eval p = .pointer (some ⟨g, 0, none⟩) ∧ Region.wanted o (yielded ops a.tmps) = true) → wpList P ops Q rest (a.put o.dst (.agg cs)) w → wpList P ops Q (o :: rest) a w :=
  fun _ _ _ _ _ ⟨_, ho, hp, hg⟩ h => wpList_ldArrG hg ho hp hb hu hi h
theorem pr_size : (Tryz.prog.info? 64).map (·.size) = some 2 := by kernel_rfl
end
end Go.Proofs.YtbckoohljkmahaaGreat
namespace Go.Proofs.YtbckoohljkmahaaGreat
set_option linter.unusedVariables false
set_option linter.unusedSimpArgs false
open Go.RowKit
section
variable {c : Cf} {b b' : Bd}
theorem atB_one : atB c (keyB c b) [b] = some b := by simp [atB]
theorem cutB_one : cutB c (keyB c b) [b] = [] := by simp [cutB]
theorem ofB_one : ofB b.fl [b] = some b := by simp [ofB]
theorem putB_one (h : keyB c b' = keyB c b) : putB c b' [b] = [b'] := by
  unfold putB
  rw [h, cutB_one]; rfl
theorem seenB_key (p : Pt) (o : Bool) (t : Int) : keyB c (seenB b p o t) = keyB c b := rfl
end
section
variable {k : Nat} {s d a b f : Int} {l : List Int}
/-- what is sent again is seen -/
theorem seen_plain (hk : k < 3) (hf : k = 1 → f = 2) (x : Bd) (hx : x.tr = 0) (ti : Int) : seenB x (gotP k a b f) true ti = { x with se := if x.se < ti then ti else x.se } := by
  have h := nxt_first (a := a) (b := b) hk hf
  unfold seenB
  rw [gotP_proto, hx, h]
  have hr : renewsS (carP k) true = true := by
    have h3 : k = 0 ∨ k = 1 ∨ k = 2 := by omega
    rcases h3 with rfl | rfl | rfl <;> rfl
  rw [hr, if_pos rfl]
section
variable (hs : 0 ≤ s ∧ s ≤ 4294967295) (hd : 0 ≤ d ∧ d ≤ 4294967295) (ha : 0 ≤ a ∧ a ≤ 65535) (hb : 0 ≤ b ∧ b ≤ 65535) (hl : Bytes8 l) (hn : l.length ≤ 40) (hk : k < 4)
include hs hd ha hb hl hn hk
end
end
end Go.Proofs.YtbckoohljkmahaaGreat
