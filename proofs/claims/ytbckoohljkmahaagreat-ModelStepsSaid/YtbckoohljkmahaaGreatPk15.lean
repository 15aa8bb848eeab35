/- Contracts and plain facts. -/
import Derived.Test.YtbckoohljkmahaaGreatPk12
import Derived.Test.YtbckoohljkmahaaGreatPk07
namespace Go.Proofs.YtbckoohljkmahaaGreat
set_option linter.unusedVariables false
set_option linter.unusedSimpArgs false
set_option maxRecDepth 100000
set_option maxHeartbeats 16000000
open Go.RowKit
def partI (l : List Int) : Pt × Bool := if getE l = 0 then ((getR (hdIf l 0) l).2, (getR (hdIf l 0) l).1 == 0) else (Pt.z, false)
def PartT (w : World) (p : Pt × Bool) (e : Ending) (w' : World) : Prop := e = .returned (.tuple #[p.1.val, .bool p.2]) ∧ Below w.heap.size w w'
theorem rPart_any (l : List Int) (A : Option Addr) (len c : Nat) (w : World) (hr : Rd .u8 w w.heap.size A len l) (hlc : len ≤ c) (hcm : c ≤ 9223372036854775807) (hl : len ≤ 60000) :
  Calls Tryz.prog 24 #[.slice A len c] w (PartT w (partI l)) := by
 have k1 := fun W (h : Below w.heap.size w W) => rGet_any l false A len c _ W ((hr.below h).more h.size) (Nat.le_refl _) hlc hcm (by omega)
 rw [show getP l false = getE l from rfl] at k1
 unfold partI
 by_cases hE : getE l = 0
 ·have hbb := frm_bdh (fun x hx => inr_u8 (hr.rng x hx)) hE
  rw [if_pos hE]
  rw [hE] at k1
  have k2 := fun W (h : Below w.heap.size w W) => rPGet_any (hdIf l 0) l A len c _ W ((hr.below h).more h.size) (Nat.le_refl _) hlc hcm (by omega) hbb.1 hbb.2
  generalize hdIf l 0 = H at *
  generalize getR H l = R at *
  obtain ⟨h0, h1, h2, h3, h4, h5⟩ := H
  obtain ⟨E, pr, sr, ds, fl, ki, co, er, ⟨isz, i1, i2, i3, i4, i5⟩, pat, ba⟩ := R
  simp only [PartT, Hd.val, Pt.val, Tells] at k1 k2 ⊢
  obtain ⟨ok, hok⟩ : ∃ ok, (E == 0) = ok := ⟨_, rfl⟩
  rw [hok]
  clear hbb hE hr
  replace k1 := Lib.hid k1
  replace k2 := Lib.hid k2
  go_enter Tryz.func24, Tryz.ntmps24
  go_upto_region 1 with fail
  have bk := Blk.new w 69 Z0
  have bel := bel_alloc w (.cells Z0 69)
  generalize w.alloc (.cells Z0 69) = W1 at *
  go_wp2_with fail
  refine (k1.out _ bel).mono ?_
  rintro e w2 ⟨rfl, hb⟩
  replace bel := bel_after bel hb
  replace bk := bk.bel hb
  clear hb k1
  have hlt := bk.lt
  have bh := (Blk.new w2 67 Z1).setRow (A6 h0 h1 h2 h3 h4 h5)
  replace bk := (bk.alloc (.cells Z1 67)).setRow_far (g' := w2.heap.size) (by omega) (A6 h0 h1 h2 h3 h4 h5)
  replace bel := below_setRow (bel.alloc bel.size (.cells Z1 67)) bel.size (A6 h0 h1 h2 h3 h4 h5)
  clear hlt
  go_wp2_with (first
   | (refine wpList_stRow rfl rfl rfl rfl rfl (Blk.new w2 _ _) rhd_size rfl (by simp [Value.oneCell']) ?_; generalize (w2.alloc (.cells Z1 67)).setRow w2.heap.size (A6 h0 h1 h2 h3 h4 h5) = W4 at *; generalize w2.heap.size = gh at *)
   | (refine wpList_ldRow rfl rfl rfl bh Tryz.underlying67 rhd_size ?_))
  refine (k2.out _ bel).mono ?_
  rintro e w3 ⟨rfl, hb⟩
  replace bel := bel_after bel hb
  replace bk := bk.bel hb
  clear hb k2 bh
  have hlt := bk.lt
  have bp := (Blk.new w3 69 Z0).setRow (A0 pr sr ds fl ki co er isz i1 i2 i3 i4 i5 pat ba)
  replace bk := (bk.alloc (.cells Z0 69)).setRow_far (g' := w3.heap.size) (by omega) (A0 pr sr ds fl ki co er isz i1 i2 i3 i4 i5 pat ba)
  replace bel := below_setRow (bel.alloc bel.size (.cells Z0 69)) bel.size (A0 pr sr ds fl ki co er isz i1 i2 i3 i4 i5 pat ba)
  clear hlt
  go_upto_region 5 with (refine wpList_stRow rfl rfl rfl rfl rfl (Blk.new w3 _ _) rpt_size rfl (by simp [Value.oneCell']) ?_; generalize (w3.alloc (.cells Z0 69)).setRow w3.heap.size (A0 pr sr ds fl ki co er isz i1 i2 i3 i4 i5 pat ba) = W5 at *; generalize w3.heap.size = gp at *)
  go_wp2_with (first
   | (refine wpList_ldRow rfl rfl rfl bp Tryz.underlying69 rpt_size ?_)
   | (refine wpList_stRow rfl rfl rfl rfl rfl bk rpt_size rfl (by simp [Value.oneCell']) ?_))
  exact bodyPost_ret (results_row2 rfl _ rfl (bk.setRow _) Tryz.underlying69 rpt_size) rfl ⟨rfl, below_setRow bel (Nat.le_refl _) _⟩
 ·rw [if_neg hE]
  have hz : hdIf l (getE l) = Hd.z := by unfold hdIf; rw [if_neg hE]
  rw [hz] at k1
  generalize getE l = E at *
  have d1 : (E != 0) = true := by simpa using hE
  have d2 : (E == 0) = false := by simpa using hE
  clear hE hr hz
  obtain ⟨h0, h1, h2, h3, h4, h5, hh⟩ : ∃ h0 h1 h2 h3 h4 h5 : Int, Hd.z = ⟨h0, h1, h2, h3, h4, h5⟩ := ⟨_, _, _, _, _, _, rfl⟩
  rw [hh] at k1
  clear hh
  simp only [PartT, Hd.val, Pt.val, Pt.z, Hd.z] at k1 ⊢
  replace k1 := Lib.hid k1
  go_enter Tryz.func24, Tryz.ntmps24
  go_upto_region 1 with fail
  have bk := Blk.new w 69 Z0
  have bel := bel_alloc w (.cells Z0 69)
  generalize w.alloc (.cells Z0 69) = W1 at *
  go_wp2_with fail
  refine (k1.out _ bel).mono ?_
  rintro e w2 ⟨rfl, hb⟩
  replace bel := bel_after bel hb
  replace bk := bk.bel hb
  clear hb k1
  have hlt := bk.lt
  replace bk := (bk.alloc (.cells Z1 67)).setRow_far (g' := w2.heap.size) (by omega) (A6 h0 h1 h2 h3 h4 h5)
  replace bel := below_setRow (bel.alloc bel.size (.cells Z1 67)) bel.size (A6 h0 h1 h2 h3 h4 h5)
  clear hlt
  go_upto_region 3 with (refine wpList_stRow rfl rfl rfl rfl rfl (Blk.new w2 _ _) rhd_size rfl (by simp [Value.oneCell']) ?_; generalize (w2.alloc (.cells Z1 67)).setRow w2.heap.size (A6 h0 h1 h2 h3 h4 h5) = W4 at *; generalize w2.heap.size = gh at *)
  go_wp2_with (refine wpList_stRow rfl rfl rfl rfl rfl bk rpt_size rfl (by simp [Value.oneCell']) ?_)
  exact bodyPost_ret (results_row2 rfl _ rfl (bk.setRow _) Tryz.underlying69 rpt_size) rfl ⟨rfl, below_setRow bel (Nat.le_refl _) _⟩
section
variable (out : Bool) (l : List Int) (A : Option Addr) (len c : Nat) (addr port : Int) (w : World) (hr : Rd .u8 w w.heap.size A len l) (hlc : len ≤ c) (hcm : c ≤ 9223372036854775807) (hl : len ≤ 60000)
include hr hlc hcm hl
theorem drw_head (hE : getE l ≠ 0) :
  Calls Tryz.prog 64 (A23 A len c out addr port) w (ChgR w (getE l) []) := by
 have hget := fun W (h : Below w.heap.size w W) => rGet_any l false _ len c _ W ((hr.below h).more h.size) (Nat.le_refl _) hlc hcm (by omega)
 rw [show getP l false = getE l from rfl] at hget
 have hz : hdIf l (getE l) = Hd.z := by unfold hdIf; rw [if_neg hE]
 rw [hz] at hget
 simp only [Hd.z, Hd.val] at hget
 clear hz
 have d1 : (getE l != 0) = true := by simpa using hE
 generalize getE l = E at *
 replace hget := Lib.hid hget
 replace hE := Lib.hid hE
 go_enter Tryz.func64, Tryz.ntmps64
 go_wp2_with fail
 refine (hget.out _ (Below.refl _ _)).mono ?_
 rintro e w1 ⟨rfl, hb1⟩
 go_wp2_with (refine wpList_stRow rfl rfl rfl rfl rfl (Blk.new w1 _ _) rhd_size rfl (by simp [Value.oneCell']) ?_)
 go_ret2
 exact ⟨⟨_, rfl, fun h => absurd h hE.out, fun _ => rfl⟩, below_setRow (hb1.alloc hb1.size _) hb1.size _⟩
theorem drw_part (hE : getE l = 0) (hE2 : (getR (hdIf l 0) l).1 ≠ 0) :
  Calls Tryz.prog 64 (A23 A len c out addr port) w (ChgR w (getR (hdIf l 0) l).1 []) := by
 have hb := rw_bds (fun x hx => inr_u8 (hr.rng x hx)) hE
 have hget := fun W (h : Below w.heap.size w W) => rGet_any l false _ len c _ W ((hr.below h).more h.size) (Nat.le_refl _) hlc hcm (by omega)
 rw [show getP l false = getE l from rfl] at hget
 have hpg := fun W (h : Below w.heap.size w W) => rPGet_any (hdIf l 0) l _ len c _ W ((hr.below h).more h.size) (Nat.le_refl _) hlc hcm (by omega) hb.1 hb.2
 rw [hE] at hget
 clear hb hE
 generalize getR (hdIf l 0) l = R at *
 generalize hdIf l 0 = H at *
 obtain ⟨h0, h1, h2, h3, h4, h5⟩ := H
 obtain ⟨E, ⟨pr, sr, ds, fl, ki, co, er, ⟨i0, i1, i2, i3, i4, i5⟩, pa, ba⟩⟩ := R
 simp only [Hd.val, Tells, Pt.val] at hget hpg
 replace hget := Lib.hid hget
 replace hpg := Lib.hid hpg
 simp only at hE2 ⊢
 have hE3 : (E != 0) = true := by simpa using hE2
 replace hE2 := Lib.hid hE2
 go_enter Tryz.func64, Tryz.ntmps64
 go_wp2_with fail
 refine (hget.out _ (Below.refl _ _)).mono ?_
 rintro e w1 ⟨rfl, hb1⟩
 have bel := hb1
 clear hb1 hget
 have bh := (Blk.new w1 67 Z1).setRow (A6 h0 h1 h2 h3 h4 h5)
 replace bel := below_setRow (bel.alloc bel.size (.cells Z1 67)) bel.size (A6 h0 h1 h2 h3 h4 h5)
 go_wp2_with (first
  | (refine wpList_stRow rfl rfl rfl rfl rfl (Blk.new w1 _ _) rhd_size rfl (by simp [Value.oneCell']) ?_; generalize (w1.alloc (.cells Z1 67)).setRow w1.heap.size (A6 h0 h1 h2 h3 h4 h5) = W1 at *; generalize w1.heap.size = g6 at *)
  | (refine wpList_ldRow rfl rfl rfl bh Tryz.underlying67 rhd_size ?_))
 refine (hpg.out _ bel).mono ?_
 rintro e w2 ⟨rfl, hb2⟩
 replace bh := bh.bel hb2
 replace bel := bel_after bel hb2
 clear hb2 hpg
 have hhl := bh.lt
 have bp := (Blk.new w2 69 Z0).setRow (A0 pr sr ds fl ki co er i0 i1 i2 i3 i4 i5 pa ba)
 replace bh := (bh.alloc (.cells Z0 69)).setRow_far (g' := w2.heap.size) (by omega) (A0 pr sr ds fl ki co er i0 i1 i2 i3 i4 i5 pa ba)
 replace bel := below_setRow (bel.alloc bel.size (.cells Z0 69)) bel.size (A0 pr sr ds fl ki co er i0 i1 i2 i3 i4 i5 pa ba)
 go_wp2_with (refine wpList_stRow rfl rfl rfl rfl rfl (Blk.new w2 _ _) rpt_size rfl (by simp [Value.oneCell']) ?_)
 go_ret2
 exact ⟨⟨_, rfl, fun h => absurd h hE2.out, fun _ => rfl⟩, bel⟩
end
structure DrS (w W : World) (g n c gh gp : Nat) (X : List Int) (hv pv : Array Value) : Prop where
 wr : Bw W w.heap.size g n c X
 bh : Blk W gh 67 hv
 bp : Blk W gp 69 pv
 bel : Below w.heap.size w W
 ne : gh ≠ g ∧ gp ≠ g
theorem DrS.step {w W w' : World} {g n c gh gp : Nat} {X Y : List Int} {hv pv : Array Value} (h : DrS w W g n c gh gp X hv pv) (h1 : Bw w' w.heap.size g n c Y) (h2 : Upd (fun k => k = g) W w') : DrS w w' g n c gh gp Y hv pv :=
 ⟨h1, h.bh.upd h2 h.ne.1, h.bp.upd h2 h.ne.2, h.bel.trans (h2.below (B := w.heap.size) h.bel.size (fun k hk e => by have := h1.2.2.1; omega)), h.ne⟩
theorem DrS.drew {w W : World} {g n c gh gp : Nat} {X : List Int} {hv pv : Array Value} (h : DrS w W g n c gh gp X hv pv) : DrS w W.drew g n c gh gp X hv pv :=
 ⟨⟨h.wr.1.drew, h.wr.2⟩, h.bh.drew, h.bp.drew, h.bel.drew, h.ne⟩
section
variable (out : Bool) (l : List Int) (A : Option Addr) (len c : Nat) (addr port : Int) (w : World) (hr : Rd .u8 w w.heap.size A len l) (hlc : len ≤ c) (hcm : c ≤ 9223372036854775807) (hl : len ≤ 60000)
 (sz m : Nat) (h2 h4 h5 : Int) (ha : 0 ≤ addr ∧ addr ≤ 4294967295) (hport : 0 ≤ port ∧ port ≤ 65535) (Y : List Int)
include hr hlc hcm hl
theorem drw_ok (pr sr ds fl ki co i0 i1 i2 i3 i4 i5 pa : Int) (er ba : Bool) (hE : getE l = 0) (hH : hdIf l 0 = ⟨sz, m, h2, pr, h4, h5⟩) (hR : getR (hdIf l 0) l = (0, ⟨pr, sr, ds, fl, ki, co, er, ⟨i0, i1, i2, i3, i4, i5⟩, pa, ba⟩)) (hm : m ≤ len) (hm2 : m ≤ 1500) (hsz : 20 ≤ sz) (hszm : sz + 8 ≤ m)
  (herr : er = true → ∃ isz pat : Nat, i0 = isz ∧ pa = pat ∧ pat + isz + 8 ≤ m ∧ 20 ≤ isz ∧ sz + 8 ≤ pat + isz) (hY : (chgW (l.take m) ⟨sz, m, h2, pr, h4, h5⟩ ⟨pr, sr, ds, fl, ki, co, er, ⟨i0, i1, i2, i3, i4, i5⟩, pa, ba⟩ out addr port = Y)) (ha : 0 ≤ addr ∧ addr ≤ 4294967295) (hport : 0 ≤ port ∧ port ≤ 65535) :
  Calls Tryz.prog 64 (A23 A len c out addr port) w (ChgR w 0 Y) := by
 obtain ⟨i00, hi, hz0, hz1, hz2⟩ := info_parts info_u8_
 obtain ⟨b, o, rfl, _, _⟩ := hr.cel (by omega)
 have hb := rw_bds (fun x hx => inr_u8 (hr.rng x hx)) hE
 have hget := fun W (h : Below w.heap.size w W) => rGet_any l false _ len c _ W ((hr.below h).more h.size) (Nat.le_refl _) hlc hcm (by omega)
 rw [show getP l false = getE l from rfl] at hget
 have hpg := fun W (h : Below w.heap.size w W) => rPGet_any (hdIf l 0) l _ len c _ W ((hr.below h).more h.size) (Nat.le_refl _) hlc hcm (by omega) hb.1 hb.2
 rw [hE] at hget
 rw [hR] at hpg
 rw [hH] at hget hpg
 clear hb hE hH hR
 simp only [Hd.val, Tells, Pt.val] at hget hpg
 have hXm : Hid ((l.take m).length = m) := Lib.hid (by rw [List.length_take, hr.len]; omega)
 have hl8 : ∀ x, x ∈ l.take m → 0 ≤ x ∧ x ≤ 255 := fun x hx => inr_u8 (hr.rng x (List.mem_of_mem_take hx))
 have hrX := Lib.hid (hr.take hm)
 clear hr
 generalize l.take m = X at *
 have hadr := fun g c1 W' (h : Bw W' w.heap.size g m c1 X) => daddr_any w.heap.size g m c1 X 0 (addrAt 0 out) addr W' h (by omega) (by have := addrAt_bd 0 out; omega) ha
 have ho := n4_bd hl8 (i := addrAt 0 out) (by have := addrAt_bd 0 out; rw [hXm.out]; omega)
 unfold DStep at hadr
 unfold chgW at hY
 simp only [] at hY
 rw [show put2 (put4 X (addrAt 0 out) addr) (0 + 10) (fixW (n2 (put4 X (addrAt 0 out) addr) (0 + 10)) (n4 X (addrAt 0 out)) addr) = addrL X 0 out addr from rfl] at hadr
 have hX1m : Hid ((addrL X 0 out addr).length = m) := Lib.hid (by rw [addrL_len]; exact hXm.out)
 generalize addrL X 0 out addr = X1 at *
 generalize n4 X (addrAt 0 out) = old at *
 clear hl8
 replace hget := Lib.hid hget
 replace hpg := Lib.hid hpg
 cases out with
 | true =>
  rw [show (addrAt 0 true : Nat) = 12 from rfl] at hadr
  replace hadr := Lib.hid hadr
  cases er with
  | true =>
   obtain ⟨isz, pat, rfl, rfl, e1, e2, e3⟩ := herr rfl
   clear herr
   simp only [if_true, Int.toNat_natCast] at hY
   unfold innerW at hY
   simp only [] at hY
   rw [show addrAt pat (!true) = pat + 16 from rfl] at hY
   have hin := fun g c1 W' (h : Bw W' w.heap.size g m c1 X1) => daddr_any w.heap.size g m c1 X1 pat (pat + 16) addr W' h (by omega) (by omega) ha
   unfold DStep at hin
   rw [show put2 (put4 X1 (pat + 16) addr) (pat + 10) (fixW (n2 (put4 X1 (pat + 16) addr) (pat + 10)) (n4 X1 (pat + 16)) addr) = addrL X1 pat (!true) addr from rfl] at hin
   have hob : (∀ x, x ∈ X1 → 0 ≤ x ∧ x ≤ 255) → 0 ≤ n4 X1 (pat + 16) ∧ n4 X1 (pat + 16) ≤ 4294967295 := fun h8 => n4_bd h8 (by rw [hX1m.out]; omega)
   generalize addrL X1 pat (!true) addr = X2 at *
   generalize n4 X1 (pat + 16) = old2 at *
   obtain ⟨q, hq⟩ : ∃ q, pat + 16 = q := ⟨_, rfl⟩
   have hqI : (pat : Int) + 28 - 12 = (q : Int) := by omega
   obtain ⟨r, hr2⟩ : ∃ r, pat + isz = r := ⟨_, rfl⟩
   have hrI : (pat : Int) + (isz : Int) = (r : Int) := by omega
   obtain ⟨s2, hs2⟩ : ∃ s, sz + 2 = s := ⟨_, rfl⟩
   have hs2I : (sz : Int) + 2 = (s2 : Int) := by omega
   rw [hq] at hin
   rw [hr2, hs2] at hY
   have hc4 : r + 8 ≤ m := by omega
   have hs22 : s2 + 2 ≤ m := by omega
   have hz := fun X3 g c1 W' (h : Bw W' w.heap.size g m c1 X3) => dset_any w.heap.size g m c1 X3 s2 0 W' h hs22 (by omega)
   have hzz := fun X4 g c1 v hv W' (h : Bw W' w.heap.size g m c1 X4) => dset_any w.heap.size g m c1 X4 s2 v W' h hs22 hv
   have hOf := fun X4 g c1 W' (h : Bw W' w.heap.size g m c1 X4) (hc1 : m ≤ c1) => rOf_any (X4.drop sz) (some ⟨g, sz, none⟩) (m - sz) (c1 - sz) _ W' (by omega) (by
    have := (h.1.rd h.2.1).drop (m := sz) (cap := c1) (by omega) (by omega)
    rw [if_neg (by omega)] at this
    simpa [Addr.add, show sz ≠ 0 by omega] using this)
   have hsum : ∀ X4 : List Int, (∀ x, x ∈ X4 → 0 ≤ x ∧ x ≤ 255) → 0 ≤ sumOf (X4.drop sz) ∧ sumOf (X4.drop sz) ≤ 65535 := fun X4 hY => sumOf_bd (fun x hx => hY x (List.mem_of_mem_drop hx))
   by_cases h1 : i3 = 1
   ·subst h1
    simp only [if_true] at hY
    have hmid := fun g c1 W' (h : Bw W' w.heap.size g m c1 X2) (_ : 0 ≤ old2 ∧ old2 ≤ 4294967295) => decho_any w.heap.size g m c1 X2 r port W' h (by omega) hport
    unfold DStep at hmid
    generalize echoW X2 r port = X3 at *
    replace hz := hz X3
    replace hzz := hzz (put2 X3 s2 0)
    replace hOf := hOf (put2 X3 s2 0)
    replace hsum := hsum (put2 X3 s2 0)
    generalize put2 X3 s2 0 = X4 at *
    replace hY := Lib.hid hY
    replace hin := Lib.hid hin
    replace hob := Lib.hid hob
    replace hmid := Lib.hid hmid
    replace hz := Lib.hid hz
    replace hzz := Lib.hid hzz
    replace hOf := Lib.hid hOf
    replace hsum := Lib.hid hsum
    replace hq := Lib.hid hq
    replace hr2 := Lib.hid hr2
    replace hs2 := Lib.hid hs2
    have h1m : (0 : Int) ≤ (m : Int) := by omega
    have h2m : (m : Int) ≤ (c : Int) := by omega
    have h3m : m ≤ c := by omega
    go_enter Tryz.func64, Tryz.ntmps64
    go_wp2_with fail
    refine (hget.out _ (Below.refl _ _)).mono ?_
    rintro e w1 ⟨rfl, hb1⟩
    have bel := hb1
    clear hb1 hget
    have bh := (Blk.new w1 67 Z1).setRow (A6 sz m h2 pr h4 h5)
    replace bel := below_setRow (bel.alloc bel.size (.cells Z1 67)) bel.size (A6 sz m h2 pr h4 h5)
    go_wp2_with (first
     | (refine wpList_stRow rfl rfl rfl rfl rfl (Blk.new w1 _ _) rhd_size rfl (by simp [Value.oneCell']) ?_; generalize (w1.alloc (.cells Z1 67)).setRow w1.heap.size (A6 sz m h2 pr h4 h5) = W1 at *; generalize w1.heap.size = g6 at *)
     | (refine wpList_ldRow rfl rfl rfl bh Tryz.underlying67 rhd_size ?_))
    refine (hpg.out _ bel).mono ?_
    rintro e w2 ⟨rfl, hb2⟩
    replace bh := bh.bel hb2
    replace bel := bel_after bel hb2
    clear hb2 hpg
    have hhl := bh.lt
    have bp := (Blk.new w2 69 Z0).setRow (A0 pr sr ds fl ki co true isz i1 i2 1 i4 i5 pat ba)
    replace bh := (bh.alloc (.cells Z0 69)).setRow_far (g' := w2.heap.size) (by omega) (A0 pr sr ds fl ki co true isz i1 i2 1 i4 i5 pat ba)
    replace bel := below_setRow (bel.alloc bel.size (.cells Z0 69)) bel.size (A0 pr sr ds fl ki co true isz i1 i2 1 i4 i5 pat ba)
    have q1 := bh.cell 1
    have hgl2 := bp.lt
    go_upto_region 7 with (refine wpList_stRow rfl rfl rfl rfl rfl (Blk.new w2 _ _) rpt_size rfl (by simp [Value.oneCell']) ?_; generalize (w2.alloc (.cells Z0 69)).setRow w2.heap.size (A0 pr sr ds fl ki co true isz i1 i2 1 i4 i5 pat ba) = W2 at *; generalize w2.heap.size = g8 at *)
    have own0 := Own.new .u8 W2 5 w.heap.size bel.size [] (by simp) #[] rfl 0 rfl (by simp)
    have hr2 := Lib.hid ((hrX.out.below bel).alloc bel.size (.cells #[] 5))
    have bel0 := bel.alloc bel.size (.cells #[] 5)
    have hW := bel.size
    have bh0 := bh.alloc (.cells #[] 5)
    have bp0 := bp.alloc (.cells #[] 5)
    have q10 := bh0.cell 1
    have hg6 := bh.lt
    have hg8 := bp.lt
    go_wp2_with (at_builtin; go_loud (refine wpList_app _ rfl (.tmp 34) (.tmp 38) 22 rfl .u8 w.heap.size 5 i00 (.int .u8 0) 1 Tryz.underlying22 hi hz0 hz1 hz2 rfl (.slice (some ⟨W2.heap.size, 0, none⟩) 0 0) rfl [] own0 w.heap.size _ _ _ rfl X hr2.out (by simp; omega) (by decide) (by simp; omega) ?_; intro v1 w3 own3 hg1 hv1; rw [List.nil_append] at own3; replace bel := bel0.grown hg1 (by simp; omega) (fun k h => by simp [Value.ownBlock] at h; omega); replace bh := bh0.grown hg1 (by simp [Value.ownBlock]; omega); replace bp := bp0.grown hg1 (by simp [Value.ownBlock]; omega); clear hg1 own0 hr2 bel0 bh0 bp0 q10 q1 hW; obtain ⟨g, c1, rfl, hc1, hc2, hg1, hg2⟩ := own3.formG hXm.out (by omega)))
    unfold maxLen at hc2
    have hne1 := own3.ne bh (by decide)
    have hne2 := own3.ne bp (by decide)
    have hs : DrS w w3 g m c1 g6 g8 X (A6 sz m h2 pr h4 h5) (A0 pr sr ds fl ki co true isz i1 i2 1 i4 i5 pat ba) := ⟨⟨own3, hXm.out, hg1, by omega⟩, bh, bp, bel, hne1, hne2⟩
    clear bh bp bel own3 hne1 hne2 hhl hgl2 h1m h2m h3m hv1 hg6 hg8
    refine (hadr.out _ _ _ hs.wr).mono ?_
    rintro e w4 ⟨rfl, h4', u4⟩
    replace hs := hs.step h4' u4
    clear h4' u4 hadr
    have q0 := hs.bh.cell 0
    have q3 := hs.bh.cell 3
    have p6 := hs.bp.cell 6
    have p13 := hs.bp.cell 13
    have hold2 := hob.out hs.wr.bd
    go_wp2_with fail
    refine (hin.out _ _ _ hs.wr).mono ?_
    rintro e w5 ⟨rfl, h5', u5⟩
    replace hs := hs.step h5' u5
    clear h5' u5 p6 p13 q0 q3
    have p7 := hs.bp.cell 7
    have p13 := hs.bp.cell 13
    have p10 := hs.bp.cell 10
    go_wp2_with fail
    refine (hmid.out _ _ _ hs.wr hold2).mono ?_
    rintro e w6 ⟨rfl, h6', u6⟩
    replace hs := hs.step h6' u6
    clear h6' u6 p7 p13 p10
    have q0 := hs.bh.cell 0
    go_wp2_with fail
    refine (hz.out _ _ _ hs.wr).mono ?_
    rintro e w7 ⟨rfl, h7', u7⟩
    replace hs := hs.step h7' u7
    clear h7' u7 q0
    go_upto_region 23 with fail
    replace hs := hs.drew
    have hcc1 : ((c1 : Int) = (sz : Int)) = False := eq_false (by omega)
    have hcc2 : (c1 = sz) = False := eq_false (by omega)
    have hc0 : (0 : Int) ≤ (sz : Int) := by omega
    have hcm1 : (sz : Int) ≤ (m : Int) := by omega
    have hcm2 : (m : Int) - (sz : Int) = ((m - sz : Nat) : Int) := by omega
    have z0 : ∀ t : Tw (fun w' => Blk w' g6 67 (A6 sz m h2 pr h4 h5)), t.w.cell? ⟨g6, 0, none⟩ = some (.int .i64 sz) := fun t => t.h.cell 0
    have zz : Nonempty (Tw (fun w' => Blk w' g6 67 (A6 sz m h2 pr h4 h5))) := ⟨⟨_, hs.bh⟩⟩
    refine wp_region_plan (fun w' => Blk w' g6 67 (A6 sz m h2 pr h4 h5)) [(0, true), (1, true), (2, true), (3, true), (4, true), (5, true), (6, true), (7, true), (8, false), (9, false)] (by kernel_rfl) (by kernel_rfl) (by kernel_rfl) (by kernel_rfl) hs.bh ?_
    generalize w7.drew = W8 at *
    refine wpPl_qs 8 _ _ _ (by kernel_rfl) (by kernel_rfl) (by simp) ?_
    unfold clsS
    simp only [qq1, qq2, qq3, qq4, List.filterMap_cons, qq6, qq7, qq8, qq9]
    repeat (first | go_big_quiet_skip | (go_big_quiet_want; go_big_quiet_op; go_big_quiet_on) | refine id (?_ : wpQuiet _ _ _ _ (_ :: _) _))
    refine wpQuiet_nil ?_
    clear z0 zz
    have hsb := hsum.out hs.wr.bd
    replace hY := hY.out
    have hofx := hOf.out g c1 W8 hs.wr hc1
    generalize sumOf (X4.drop sz) = SM at *
    refine wpPl_e _ (by rfl) (by kernel_rfl) (fun K hK => ?_)
    go_simp
    refine hofx.mono ?_
    rintro e w8 ⟨rfl, rfl⟩
    refine hK _ _ hs.bh ?_
    clear hK K hofx
    refine wpPl_e _ (by rfl) (by kernel_rfl) (fun K hK => ?_)
    go_simp
    refine (hzz.out _ _ SM hsb _ hs.wr).mono ?_
    rintro e w9 ⟨rfl, h5', u5⟩
    have hn := hs.step h5' u5
    refine hK _ _ hn.bh ?_
    clear hK K
    unfold wpPl
    refine NoPanic.normal ?_
    replace hs := hn
    have hown := hs.wr.1
    have hbel := hs.bel
    clear h5' u5 hn
    go_wp2_with fail
    go_ret2
    exact ⟨⟨_, rfl, fun _ => hY ▸ hown, fun h => absurd rfl h⟩, hbel⟩
   ·rw [if_neg h1] at hY
    have d1 : (i3 == 1) = false := by simpa using h1
    have hmid := fun g c1 W' (h : Bw W' w.heap.size g m c1 X2) (ho2 : 0 ≤ old2 ∧ old2 ≤ 4294967295) => dcar_any w.heap.size g m c1 X2 r i3 false port old2 addr W' h (by omega) hport ho2 ha (by omega)
    unfold DStep at hmid
    rw [show (!true) = false from rfl] at hY
    generalize carW X2 r (i3 == 17) false port old2 addr = X3 at *
    replace hz := hz X3
    replace hzz := hzz (put2 X3 s2 0)
    replace hOf := hOf (put2 X3 s2 0)
    replace hsum := hsum (put2 X3 s2 0)
    generalize put2 X3 s2 0 = X4 at *
    replace h1 := Lib.hid h1
    replace hY := Lib.hid hY
    replace hin := Lib.hid hin
    replace hob := Lib.hid hob
    replace hmid := Lib.hid hmid
    replace hz := Lib.hid hz
    replace hzz := Lib.hid hzz
    replace hOf := Lib.hid hOf
    replace hsum := Lib.hid hsum
    replace hq := Lib.hid hq
    replace hr2 := Lib.hid hr2
    replace hs2 := Lib.hid hs2
    have h1m : (0 : Int) ≤ (m : Int) := by omega
    have h2m : (m : Int) ≤ (c : Int) := by omega
    have h3m : m ≤ c := by omega
    go_enter Tryz.func64, Tryz.ntmps64
    go_wp2_with fail
    refine (hget.out _ (Below.refl _ _)).mono ?_
    rintro e w1 ⟨rfl, hb1⟩
    have bel := hb1
    clear hb1 hget
    have bh := (Blk.new w1 67 Z1).setRow (A6 sz m h2 pr h4 h5)
    replace bel := below_setRow (bel.alloc bel.size (.cells Z1 67)) bel.size (A6 sz m h2 pr h4 h5)
    go_wp2_with (first
     | (refine wpList_stRow rfl rfl rfl rfl rfl (Blk.new w1 _ _) rhd_size rfl (by simp [Value.oneCell']) ?_; generalize (w1.alloc (.cells Z1 67)).setRow w1.heap.size (A6 sz m h2 pr h4 h5) = W1 at *; generalize w1.heap.size = g6 at *)
     | (refine wpList_ldRow rfl rfl rfl bh Tryz.underlying67 rhd_size ?_))
    refine (hpg.out _ bel).mono ?_
    rintro e w2 ⟨rfl, hb2⟩
    replace bh := bh.bel hb2
    replace bel := bel_after bel hb2
    clear hb2 hpg
    have hhl := bh.lt
    have bp := (Blk.new w2 69 Z0).setRow (A0 pr sr ds fl ki co true isz i1 i2 i3 i4 i5 pat ba)
    replace bh := (bh.alloc (.cells Z0 69)).setRow_far (g' := w2.heap.size) (by omega) (A0 pr sr ds fl ki co true isz i1 i2 i3 i4 i5 pat ba)
    replace bel := below_setRow (bel.alloc bel.size (.cells Z0 69)) bel.size (A0 pr sr ds fl ki co true isz i1 i2 i3 i4 i5 pat ba)
    have q1 := bh.cell 1
    have hgl2 := bp.lt
    go_upto_region 7 with (refine wpList_stRow rfl rfl rfl rfl rfl (Blk.new w2 _ _) rpt_size rfl (by simp [Value.oneCell']) ?_; generalize (w2.alloc (.cells Z0 69)).setRow w2.heap.size (A0 pr sr ds fl ki co true isz i1 i2 i3 i4 i5 pat ba) = W2 at *; generalize w2.heap.size = g8 at *)
    have own0 := Own.new .u8 W2 5 w.heap.size bel.size [] (by simp) #[] rfl 0 rfl (by simp)
    have hr2 := Lib.hid ((hrX.out.below bel).alloc bel.size (.cells #[] 5))
    have bel0 := bel.alloc bel.size (.cells #[] 5)
    have hW := bel.size
    have bh0 := bh.alloc (.cells #[] 5)
    have bp0 := bp.alloc (.cells #[] 5)
    have q10 := bh0.cell 1
    have hg6 := bh.lt
    have hg8 := bp.lt
    go_wp2_with (at_builtin; go_loud (refine wpList_app _ rfl (.tmp 34) (.tmp 38) 22 rfl .u8 w.heap.size 5 i00 (.int .u8 0) 1 Tryz.underlying22 hi hz0 hz1 hz2 rfl (.slice (some ⟨W2.heap.size, 0, none⟩) 0 0) rfl [] own0 w.heap.size _ _ _ rfl X hr2.out (by simp; omega) (by decide) (by simp; omega) ?_; intro v1 w3 own3 hg1 hv1; rw [List.nil_append] at own3; replace bel := bel0.grown hg1 (by simp; omega) (fun k h => by simp [Value.ownBlock] at h; omega); replace bh := bh0.grown hg1 (by simp [Value.ownBlock]; omega); replace bp := bp0.grown hg1 (by simp [Value.ownBlock]; omega); clear hg1 own0 hr2 bel0 bh0 bp0 q10 q1 hW; obtain ⟨g, c1, rfl, hc1, hc2, hg1, hg2⟩ := own3.formG hXm.out (by omega)))
    unfold maxLen at hc2
    have hne1 := own3.ne bh (by decide)
    have hne2 := own3.ne bp (by decide)
    have hs : DrS w w3 g m c1 g6 g8 X (A6 sz m h2 pr h4 h5) (A0 pr sr ds fl ki co true isz i1 i2 i3 i4 i5 pat ba) := ⟨⟨own3, hXm.out, hg1, by omega⟩, bh, bp, bel, hne1, hne2⟩
    clear bh bp bel own3 hne1 hne2 hhl hgl2 h1m h2m h3m hv1 hg6 hg8
    refine (hadr.out _ _ _ hs.wr).mono ?_
    rintro e w4 ⟨rfl, h4', u4⟩
    replace hs := hs.step h4' u4
    clear h4' u4 hadr
    have q0 := hs.bh.cell 0
    have q3 := hs.bh.cell 3
    have p6 := hs.bp.cell 6
    have p13 := hs.bp.cell 13
    have hold2 := hob.out hs.wr.bd
    go_wp2_with fail
    refine (hin.out _ _ _ hs.wr).mono ?_
    rintro e w5 ⟨rfl, h5', u5⟩
    replace hs := hs.step h5' u5
    clear h5' u5 p6 p13 q0 q3
    have p7 := hs.bp.cell 7
    have p13 := hs.bp.cell 13
    have p10 := hs.bp.cell 10
    go_wp2_with fail
    refine (hmid.out _ _ _ hs.wr hold2).mono ?_
    rintro e w6 ⟨rfl, h6', u6⟩
    replace hs := hs.step h6' u6
    clear h6' u6 p7 p13 p10
    have q0 := hs.bh.cell 0
    go_wp2_with fail
    refine (hz.out _ _ _ hs.wr).mono ?_
    rintro e w7 ⟨rfl, h7', u7⟩
    replace hs := hs.step h7' u7
    clear h7' u7 q0
    go_upto_region 23 with fail
    replace hs := hs.drew
    have hcc1 : ((c1 : Int) = (sz : Int)) = False := eq_false (by omega)
    have hcc2 : (c1 = sz) = False := eq_false (by omega)
    have hc0 : (0 : Int) ≤ (sz : Int) := by omega
    have hcm1 : (sz : Int) ≤ (m : Int) := by omega
    have hcm2 : (m : Int) - (sz : Int) = ((m - sz : Nat) : Int) := by omega
    have z0 : ∀ t : Tw (fun w' => Blk w' g6 67 (A6 sz m h2 pr h4 h5)), t.w.cell? ⟨g6, 0, none⟩ = some (.int .i64 sz) := fun t => t.h.cell 0
    have zz : Nonempty (Tw (fun w' => Blk w' g6 67 (A6 sz m h2 pr h4 h5))) := ⟨⟨_, hs.bh⟩⟩
    refine wp_region_plan (fun w' => Blk w' g6 67 (A6 sz m h2 pr h4 h5)) [(0, true), (1, true), (2, true), (3, true), (4, true), (5, true), (6, true), (7, true), (8, false), (9, false)] (by kernel_rfl) (by kernel_rfl) (by kernel_rfl) (by kernel_rfl) hs.bh ?_
    generalize w7.drew = W8 at *
    refine wpPl_qs 8 _ _ _ (by kernel_rfl) (by kernel_rfl) (by simp) ?_
    unfold clsS
    simp only [qq1, qq2, qq3, qq4, List.filterMap_cons, qq6, qq7, qq8, qq9]
    repeat (first | go_big_quiet_skip | (go_big_quiet_want; go_big_quiet_op; go_big_quiet_on) | refine id (?_ : wpQuiet _ _ _ _ (_ :: _) _))
    refine wpQuiet_nil ?_
    clear z0 zz
    have hsb := hsum.out hs.wr.bd
    replace hY := hY.out
    have hofx := hOf.out g c1 W8 hs.wr hc1
    generalize sumOf (X4.drop sz) = SM at *
    refine wpPl_e _ (by rfl) (by kernel_rfl) (fun K hK => ?_)
    go_simp
    refine hofx.mono ?_
    rintro e w8 ⟨rfl, rfl⟩
    refine hK _ _ hs.bh ?_
    clear hK K hofx
    refine wpPl_e _ (by rfl) (by kernel_rfl) (fun K hK => ?_)
    go_simp
    refine (hzz.out _ _ SM hsb _ hs.wr).mono ?_
    rintro e w9 ⟨rfl, h5', u5⟩
    have hn := hs.step h5' u5
    refine hK _ _ hn.bh ?_
    clear hK K
    unfold wpPl
    refine NoPanic.normal ?_
    replace hs := hn
    have hown := hs.wr.1
    have hbel := hs.bel
    clear h5' u5 hn
    go_wp2_with fail
    go_ret2
    exact ⟨⟨_, rfl, fun _ => hY ▸ hown, fun h => absurd rfl h⟩, hbel⟩
  | false =>
   clear herr
   simp only [Bool.false_eq_true, if_false, Int.toNat_natCast] at hY
   by_cases h1 : pr = 1
   ·subst h1
    have hin := fun g c1 W' (h : Bw W' w.heap.size g m c1 X1) => decho_any w.heap.size g m c1 X1 sz port W' h (by omega) hport
    unfold DStep at hin
    simp only [if_true] at hY
    replace hin := Lib.hid hin
    replace hY := Lib.hid hY
    have h1m : (0 : Int) ≤ (m : Int) := by omega
    have h2m : (m : Int) ≤ (c : Int) := by omega
    have h3m : m ≤ c := by omega
    go_enter Tryz.func64, Tryz.ntmps64
    go_wp2_with fail
    refine (hget.out _ (Below.refl _ _)).mono ?_
    rintro e w1 ⟨rfl, hb1⟩
    have bel := hb1
    clear hb1 hget
    have bh := (Blk.new w1 67 Z1).setRow (A6 sz m h2 1 h4 h5)
    replace bel := below_setRow (bel.alloc bel.size (.cells Z1 67)) bel.size (A6 sz m h2 1 h4 h5)
    go_wp2_with (first
     | (refine wpList_stRow rfl rfl rfl rfl rfl (Blk.new w1 _ _) rhd_size rfl (by simp [Value.oneCell']) ?_; generalize (w1.alloc (.cells Z1 67)).setRow w1.heap.size (A6 sz m h2 1 h4 h5) = W1 at *; generalize w1.heap.size = g6 at *)
     | (refine wpList_ldRow rfl rfl rfl bh Tryz.underlying67 rhd_size ?_))
    refine (hpg.out _ bel).mono ?_
    rintro e w2 ⟨rfl, hb2⟩
    replace bh := bh.bel hb2
    replace bel := bel_after bel hb2
    clear hb2 hpg
    have hhl := bh.lt
    have bp := (Blk.new w2 69 Z0).setRow (A0 1 sr ds fl ki co false i0 i1 i2 i3 i4 i5 pa ba)
    replace bh := (bh.alloc (.cells Z0 69)).setRow_far (g' := w2.heap.size) (by omega) (A0 1 sr ds fl ki co false i0 i1 i2 i3 i4 i5 pa ba)
    replace bel := below_setRow (bel.alloc bel.size (.cells Z0 69)) bel.size (A0 1 sr ds fl ki co false i0 i1 i2 i3 i4 i5 pa ba)
    have q1 := bh.cell 1
    have hgl2 := bp.lt
    go_upto_region 7 with (refine wpList_stRow rfl rfl rfl rfl rfl (Blk.new w2 _ _) rpt_size rfl (by simp [Value.oneCell']) ?_; generalize (w2.alloc (.cells Z0 69)).setRow w2.heap.size (A0 1 sr ds fl ki co false i0 i1 i2 i3 i4 i5 pa ba) = W2 at *; generalize w2.heap.size = g8 at *)
    have own0 := Own.new .u8 W2 5 w.heap.size bel.size [] (by simp) #[] rfl 0 rfl (by simp)
    have hr2 := Lib.hid ((hrX.out.below bel).alloc bel.size (.cells #[] 5))
    have bel0 := bel.alloc bel.size (.cells #[] 5)
    have hW := bel.size
    have bh0 := bh.alloc (.cells #[] 5)
    have bp0 := bp.alloc (.cells #[] 5)
    have q10 := bh0.cell 1
    have hg6 := bh.lt
    have hg8 := bp.lt
    go_wp2_with (at_builtin; go_loud (refine wpList_app _ rfl (.tmp 34) (.tmp 38) 22 rfl .u8 w.heap.size 5 i00 (.int .u8 0) 1 Tryz.underlying22 hi hz0 hz1 hz2 rfl (.slice (some ⟨W2.heap.size, 0, none⟩) 0 0) rfl [] own0 w.heap.size _ _ _ rfl X hr2.out (by simp; omega) (by decide) (by simp; omega) ?_; intro v1 w3 own3 hg1 hv1; rw [List.nil_append] at own3; replace bel := bel0.grown hg1 (by simp; omega) (fun k h => by simp [Value.ownBlock] at h; omega); replace bh := bh0.grown hg1 (by simp [Value.ownBlock]; omega); replace bp := bp0.grown hg1 (by simp [Value.ownBlock]; omega); clear hg1 own0 hr2 bel0 bh0 bp0 q10 q1 hW; obtain ⟨g, c1, rfl, hc1, hc2, hg1, hg2⟩ := own3.formG hXm.out (by omega)))
    unfold maxLen at hc2
    have hne1 := own3.ne bh (by decide)
    have hne2 := own3.ne bp (by decide)
    have hs : DrS w w3 g m c1 g6 g8 X (A6 sz m h2 1 h4 h5) (A0 1 sr ds fl ki co false i0 i1 i2 i3 i4 i5 pa ba) := ⟨⟨own3, hXm.out, hg1, by omega⟩, bh, bp, bel, hne1, hne2⟩
    clear bh bp bel own3 hne1 hne2 hhl hgl2 h1m h2m h3m hv1 hg6 hg8
    refine (hadr.out _ _ _ hs.wr).mono ?_
    rintro e w4 ⟨rfl, h4', u4⟩
    replace hs := hs.step h4' u4
    clear h4' u4 hadr
    have q0 := hs.bh.cell 0
    have q3 := hs.bh.cell 3
    have p6 := hs.bp.cell 6
    go_wp2_with fail
    refine (hin.out _ _ _ hs.wr).mono ?_
    rintro e w5 ⟨rfl, h5', u5⟩
    replace hs := hs.step h5' u5
    have hown := hs.wr.1
    have hbel := hs.bel
    clear h5' u5
    go_wp2_with fail
    go_ret2
    exact ⟨⟨_, rfl, fun _ => hY.out ▸ hown, fun h => absurd rfl h⟩, hbel⟩
   ·rw [if_neg h1] at hY
    have d1 : (pr == 1) = false := by simpa using h1
    have hin := fun g c1 W' (h : Bw W' w.heap.size g m c1 X1) => dcar_any w.heap.size g m c1 X1 sz pr true port old addr W' h (by omega) hport ho ha (by omega)
    unfold DStep at hin
    replace hin := Lib.hid hin
    replace h1 := Lib.hid h1
    replace hY := Lib.hid hY
    have h1m : (0 : Int) ≤ (m : Int) := by omega
    have h2m : (m : Int) ≤ (c : Int) := by omega
    have h3m : m ≤ c := by omega
    go_enter Tryz.func64, Tryz.ntmps64
    go_wp2_with fail
    refine (hget.out _ (Below.refl _ _)).mono ?_
    rintro e w1 ⟨rfl, hb1⟩
    have bel := hb1
    clear hb1 hget
    have bh := (Blk.new w1 67 Z1).setRow (A6 sz m h2 pr h4 h5)
    replace bel := below_setRow (bel.alloc bel.size (.cells Z1 67)) bel.size (A6 sz m h2 pr h4 h5)
    go_wp2_with (first
     | (refine wpList_stRow rfl rfl rfl rfl rfl (Blk.new w1 _ _) rhd_size rfl (by simp [Value.oneCell']) ?_; generalize (w1.alloc (.cells Z1 67)).setRow w1.heap.size (A6 sz m h2 pr h4 h5) = W1 at *; generalize w1.heap.size = g6 at *)
     | (refine wpList_ldRow rfl rfl rfl bh Tryz.underlying67 rhd_size ?_))
    refine (hpg.out _ bel).mono ?_
    rintro e w2 ⟨rfl, hb2⟩
    replace bh := bh.bel hb2
    replace bel := bel_after bel hb2
    clear hb2 hpg
    have hhl := bh.lt
    have bp := (Blk.new w2 69 Z0).setRow (A0 pr sr ds fl ki co false i0 i1 i2 i3 i4 i5 pa ba)
    replace bh := (bh.alloc (.cells Z0 69)).setRow_far (g' := w2.heap.size) (by omega) (A0 pr sr ds fl ki co false i0 i1 i2 i3 i4 i5 pa ba)
    replace bel := below_setRow (bel.alloc bel.size (.cells Z0 69)) bel.size (A0 pr sr ds fl ki co false i0 i1 i2 i3 i4 i5 pa ba)
    have q1 := bh.cell 1
    have hgl2 := bp.lt
    go_upto_region 7 with (refine wpList_stRow rfl rfl rfl rfl rfl (Blk.new w2 _ _) rpt_size rfl (by simp [Value.oneCell']) ?_; generalize (w2.alloc (.cells Z0 69)).setRow w2.heap.size (A0 pr sr ds fl ki co false i0 i1 i2 i3 i4 i5 pa ba) = W2 at *; generalize w2.heap.size = g8 at *)
    have own0 := Own.new .u8 W2 5 w.heap.size bel.size [] (by simp) #[] rfl 0 rfl (by simp)
    have hr2 := Lib.hid ((hrX.out.below bel).alloc bel.size (.cells #[] 5))
    have bel0 := bel.alloc bel.size (.cells #[] 5)
    have hW := bel.size
    have bh0 := bh.alloc (.cells #[] 5)
    have bp0 := bp.alloc (.cells #[] 5)
    have q10 := bh0.cell 1
    have hg6 := bh.lt
    have hg8 := bp.lt
    go_wp2_with (at_builtin; go_loud (refine wpList_app _ rfl (.tmp 34) (.tmp 38) 22 rfl .u8 w.heap.size 5 i00 (.int .u8 0) 1 Tryz.underlying22 hi hz0 hz1 hz2 rfl (.slice (some ⟨W2.heap.size, 0, none⟩) 0 0) rfl [] own0 w.heap.size _ _ _ rfl X hr2.out (by simp; omega) (by decide) (by simp; omega) ?_; intro v1 w3 own3 hg1 hv1; rw [List.nil_append] at own3; replace bel := bel0.grown hg1 (by simp; omega) (fun k h => by simp [Value.ownBlock] at h; omega); replace bh := bh0.grown hg1 (by simp [Value.ownBlock]; omega); replace bp := bp0.grown hg1 (by simp [Value.ownBlock]; omega); clear hg1 own0 hr2 bel0 bh0 bp0 q10 q1 hW; obtain ⟨g, c1, rfl, hc1, hc2, hg1, hg2⟩ := own3.formG hXm.out (by omega)))
    unfold maxLen at hc2
    have hne1 := own3.ne bh (by decide)
    have hne2 := own3.ne bp (by decide)
    have hs : DrS w w3 g m c1 g6 g8 X (A6 sz m h2 pr h4 h5) (A0 pr sr ds fl ki co false i0 i1 i2 i3 i4 i5 pa ba) := ⟨⟨own3, hXm.out, hg1, by omega⟩, bh, bp, bel, hne1, hne2⟩
    clear bh bp bel own3 hne1 hne2 hhl hgl2 h1m h2m h3m hv1 hg6 hg8
    refine (hadr.out _ _ _ hs.wr).mono ?_
    rintro e w4 ⟨rfl, h4', u4⟩
    replace hs := hs.step h4' u4
    clear h4' u4 hadr
    have q0 := hs.bh.cell 0
    have q3 := hs.bh.cell 3
    have p6 := hs.bp.cell 6
    go_wp2_with fail
    refine (hin.out _ _ _ hs.wr).mono ?_
    rintro e w5 ⟨rfl, h5', u5⟩
    replace hs := hs.step h5' u5
    have hown := hs.wr.1
    have hbel := hs.bel
    clear h5' u5
    go_wp2_with fail
    go_ret2
    exact ⟨⟨_, rfl, fun _ => hY.out ▸ hown, fun h => absurd rfl h⟩, hbel⟩
 | false =>
  rw [show (addrAt 0 false : Nat) = 16 from rfl] at hadr
  replace hadr := Lib.hid hadr
  cases er with
  | true =>
   obtain ⟨isz, pat, rfl, rfl, e1, e2, e3⟩ := herr rfl
   clear herr
   simp only [if_true, Int.toNat_natCast] at hY
   unfold innerW at hY
   simp only [] at hY
   rw [show addrAt pat (!false) = pat + 12 from rfl] at hY
   have hin := fun g c1 W' (h : Bw W' w.heap.size g m c1 X1) => daddr_any w.heap.size g m c1 X1 pat (pat + 12) addr W' h (by omega) (by omega) ha
   unfold DStep at hin
   rw [show put2 (put4 X1 (pat + 12) addr) (pat + 10) (fixW (n2 (put4 X1 (pat + 12) addr) (pat + 10)) (n4 X1 (pat + 12)) addr) = addrL X1 pat (!false) addr from rfl] at hin
   have hob : (∀ x, x ∈ X1 → 0 ≤ x ∧ x ≤ 255) → 0 ≤ n4 X1 (pat + 12) ∧ n4 X1 (pat + 12) ≤ 4294967295 := fun h8 => n4_bd h8 (by rw [hX1m.out]; omega)
   generalize addrL X1 pat (!false) addr = X2 at *
   generalize n4 X1 (pat + 12) = old2 at *
   obtain ⟨q, hq⟩ : ∃ q, pat + 12 = q := ⟨_, rfl⟩
   have hqI : (pat : Int) + 28 - 16 = (q : Int) := by omega
   obtain ⟨r, hr2⟩ : ∃ r, pat + isz = r := ⟨_, rfl⟩
   have hrI : (pat : Int) + (isz : Int) = (r : Int) := by omega
   obtain ⟨s2, hs2⟩ : ∃ s, sz + 2 = s := ⟨_, rfl⟩
   have hs2I : (sz : Int) + 2 = (s2 : Int) := by omega
   rw [hq] at hin
   rw [hr2, hs2] at hY
   have hc4 : r + 8 ≤ m := by omega
   have hs22 : s2 + 2 ≤ m := by omega
   have hz := fun X3 g c1 W' (h : Bw W' w.heap.size g m c1 X3) => dset_any w.heap.size g m c1 X3 s2 0 W' h hs22 (by omega)
   have hzz := fun X4 g c1 v hv W' (h : Bw W' w.heap.size g m c1 X4) => dset_any w.heap.size g m c1 X4 s2 v W' h hs22 hv
   have hOf := fun X4 g c1 W' (h : Bw W' w.heap.size g m c1 X4) (hc1 : m ≤ c1) => rOf_any (X4.drop sz) (some ⟨g, sz, none⟩) (m - sz) (c1 - sz) _ W' (by omega) (by
    have := (h.1.rd h.2.1).drop (m := sz) (cap := c1) (by omega) (by omega)
    rw [if_neg (by omega)] at this
    simpa [Addr.add, show sz ≠ 0 by omega] using this)
   have hsum : ∀ X4 : List Int, (∀ x, x ∈ X4 → 0 ≤ x ∧ x ≤ 255) → 0 ≤ sumOf (X4.drop sz) ∧ sumOf (X4.drop sz) ≤ 65535 := fun X4 hY => sumOf_bd (fun x hx => hY x (List.mem_of_mem_drop hx))
   by_cases h1 : i3 = 1
   ·subst h1
    simp only [if_true] at hY
    have hmid := fun g c1 W' (h : Bw W' w.heap.size g m c1 X2) (_ : 0 ≤ old2 ∧ old2 ≤ 4294967295) => decho_any w.heap.size g m c1 X2 r port W' h (by omega) hport
    unfold DStep at hmid
    generalize echoW X2 r port = X3 at *
    replace hz := hz X3
    replace hzz := hzz (put2 X3 s2 0)
    replace hOf := hOf (put2 X3 s2 0)
    replace hsum := hsum (put2 X3 s2 0)
    generalize put2 X3 s2 0 = X4 at *
    replace hY := Lib.hid hY
    replace hin := Lib.hid hin
    replace hob := Lib.hid hob
    replace hmid := Lib.hid hmid
    replace hz := Lib.hid hz
    replace hzz := Lib.hid hzz
    replace hOf := Lib.hid hOf
    replace hsum := Lib.hid hsum
    replace hq := Lib.hid hq
    replace hr2 := Lib.hid hr2
    replace hs2 := Lib.hid hs2
    have h1m : (0 : Int) ≤ (m : Int) := by omega
    have h2m : (m : Int) ≤ (c : Int) := by omega
    have h3m : m ≤ c := by omega
    go_enter Tryz.func64, Tryz.ntmps64
    go_wp2_with fail
    refine (hget.out _ (Below.refl _ _)).mono ?_
    rintro e w1 ⟨rfl, hb1⟩
    have bel := hb1
    clear hb1 hget
    have bh := (Blk.new w1 67 Z1).setRow (A6 sz m h2 pr h4 h5)
    replace bel := below_setRow (bel.alloc bel.size (.cells Z1 67)) bel.size (A6 sz m h2 pr h4 h5)
    go_wp2_with (first
     | (refine wpList_stRow rfl rfl rfl rfl rfl (Blk.new w1 _ _) rhd_size rfl (by simp [Value.oneCell']) ?_; generalize (w1.alloc (.cells Z1 67)).setRow w1.heap.size (A6 sz m h2 pr h4 h5) = W1 at *; generalize w1.heap.size = g6 at *)
     | (refine wpList_ldRow rfl rfl rfl bh Tryz.underlying67 rhd_size ?_))
    refine (hpg.out _ bel).mono ?_
    rintro e w2 ⟨rfl, hb2⟩
    replace bh := bh.bel hb2
    replace bel := bel_after bel hb2
    clear hb2 hpg
    have hhl := bh.lt
    have bp := (Blk.new w2 69 Z0).setRow (A0 pr sr ds fl ki co true isz i1 i2 1 i4 i5 pat ba)
    replace bh := (bh.alloc (.cells Z0 69)).setRow_far (g' := w2.heap.size) (by omega) (A0 pr sr ds fl ki co true isz i1 i2 1 i4 i5 pat ba)
    replace bel := below_setRow (bel.alloc bel.size (.cells Z0 69)) bel.size (A0 pr sr ds fl ki co true isz i1 i2 1 i4 i5 pat ba)
    have q1 := bh.cell 1
    have hgl2 := bp.lt
    go_upto_region 7 with (refine wpList_stRow rfl rfl rfl rfl rfl (Blk.new w2 _ _) rpt_size rfl (by simp [Value.oneCell']) ?_; generalize (w2.alloc (.cells Z0 69)).setRow w2.heap.size (A0 pr sr ds fl ki co true isz i1 i2 1 i4 i5 pat ba) = W2 at *; generalize w2.heap.size = g8 at *)
    have own0 := Own.new .u8 W2 5 w.heap.size bel.size [] (by simp) #[] rfl 0 rfl (by simp)
    have hr2 := Lib.hid ((hrX.out.below bel).alloc bel.size (.cells #[] 5))
    have bel0 := bel.alloc bel.size (.cells #[] 5)
    have hW := bel.size
    have bh0 := bh.alloc (.cells #[] 5)
    have bp0 := bp.alloc (.cells #[] 5)
    have q10 := bh0.cell 1
    have hg6 := bh.lt
    have hg8 := bp.lt
    go_wp2_with (at_builtin; go_loud (refine wpList_app _ rfl (.tmp 34) (.tmp 38) 22 rfl .u8 w.heap.size 5 i00 (.int .u8 0) 1 Tryz.underlying22 hi hz0 hz1 hz2 rfl (.slice (some ⟨W2.heap.size, 0, none⟩) 0 0) rfl [] own0 w.heap.size _ _ _ rfl X hr2.out (by simp; omega) (by decide) (by simp; omega) ?_; intro v1 w3 own3 hg1 hv1; rw [List.nil_append] at own3; replace bel := bel0.grown hg1 (by simp; omega) (fun k h => by simp [Value.ownBlock] at h; omega); replace bh := bh0.grown hg1 (by simp [Value.ownBlock]; omega); replace bp := bp0.grown hg1 (by simp [Value.ownBlock]; omega); clear hg1 own0 hr2 bel0 bh0 bp0 q10 q1 hW; obtain ⟨g, c1, rfl, hc1, hc2, hg1, hg2⟩ := own3.formG hXm.out (by omega)))
    unfold maxLen at hc2
    have hne1 := own3.ne bh (by decide)
    have hne2 := own3.ne bp (by decide)
    have hs : DrS w w3 g m c1 g6 g8 X (A6 sz m h2 pr h4 h5) (A0 pr sr ds fl ki co true isz i1 i2 1 i4 i5 pat ba) := ⟨⟨own3, hXm.out, hg1, by omega⟩, bh, bp, bel, hne1, hne2⟩
    clear bh bp bel own3 hne1 hne2 hhl hgl2 h1m h2m h3m hv1 hg6 hg8
    refine (hadr.out _ _ _ hs.wr).mono ?_
    rintro e w4 ⟨rfl, h4', u4⟩
    replace hs := hs.step h4' u4
    clear h4' u4 hadr
    have q0 := hs.bh.cell 0
    have q3 := hs.bh.cell 3
    have p6 := hs.bp.cell 6
    have p13 := hs.bp.cell 13
    have hold2 := hob.out hs.wr.bd
    go_wp2_with fail
    refine (hin.out _ _ _ hs.wr).mono ?_
    rintro e w5 ⟨rfl, h5', u5⟩
    replace hs := hs.step h5' u5
    clear h5' u5 p6 p13 q0 q3
    have p7 := hs.bp.cell 7
    have p13 := hs.bp.cell 13
    have p10 := hs.bp.cell 10
    go_wp2_with fail
    refine (hmid.out _ _ _ hs.wr hold2).mono ?_
    rintro e w6 ⟨rfl, h6', u6⟩
    replace hs := hs.step h6' u6
    clear h6' u6 p7 p13 p10
    have q0 := hs.bh.cell 0
    go_wp2_with fail
    refine (hz.out _ _ _ hs.wr).mono ?_
    rintro e w7 ⟨rfl, h7', u7⟩
    replace hs := hs.step h7' u7
    clear h7' u7 q0
    go_upto_region 23 with fail
    replace hs := hs.drew
    have hcc1 : ((c1 : Int) = (sz : Int)) = False := eq_false (by omega)
    have hcc2 : (c1 = sz) = False := eq_false (by omega)
    have hc0 : (0 : Int) ≤ (sz : Int) := by omega
    have hcm1 : (sz : Int) ≤ (m : Int) := by omega
    have hcm2 : (m : Int) - (sz : Int) = ((m - sz : Nat) : Int) := by omega
    have z0 : ∀ t : Tw (fun w' => Blk w' g6 67 (A6 sz m h2 pr h4 h5)), t.w.cell? ⟨g6, 0, none⟩ = some (.int .i64 sz) := fun t => t.h.cell 0
    have zz : Nonempty (Tw (fun w' => Blk w' g6 67 (A6 sz m h2 pr h4 h5))) := ⟨⟨_, hs.bh⟩⟩
    refine wp_region_plan (fun w' => Blk w' g6 67 (A6 sz m h2 pr h4 h5)) [(0, true), (1, true), (2, true), (3, true), (4, true), (5, true), (6, true), (7, true), (8, false), (9, false)] (by kernel_rfl) (by kernel_rfl) (by kernel_rfl) (by kernel_rfl) hs.bh ?_
    generalize w7.drew = W8 at *
    refine wpPl_qs 8 _ _ _ (by kernel_rfl) (by kernel_rfl) (by simp) ?_
    unfold clsS
    simp only [qq1, qq2, qq3, qq4, List.filterMap_cons, qq6, qq7, qq8, qq9]
    repeat (first | go_big_quiet_skip | (go_big_quiet_want; go_big_quiet_op; go_big_quiet_on) | refine id (?_ : wpQuiet _ _ _ _ (_ :: _) _))
    refine wpQuiet_nil ?_
    clear z0 zz
    have hsb := hsum.out hs.wr.bd
    replace hY := hY.out
    have hofx := hOf.out g c1 W8 hs.wr hc1
    generalize sumOf (X4.drop sz) = SM at *
    refine wpPl_e _ (by rfl) (by kernel_rfl) (fun K hK => ?_)
    go_simp
    refine hofx.mono ?_
    rintro e w8 ⟨rfl, rfl⟩
    refine hK _ _ hs.bh ?_
    clear hK K hofx
    refine wpPl_e _ (by rfl) (by kernel_rfl) (fun K hK => ?_)
    go_simp
    refine (hzz.out _ _ SM hsb _ hs.wr).mono ?_
    rintro e w9 ⟨rfl, h5', u5⟩
    have hn := hs.step h5' u5
    refine hK _ _ hn.bh ?_
    clear hK K
    unfold wpPl
    refine NoPanic.normal ?_
    replace hs := hn
    have hown := hs.wr.1
    have hbel := hs.bel
    clear h5' u5 hn
    go_wp2_with fail
    go_ret2
    exact ⟨⟨_, rfl, fun _ => hY ▸ hown, fun h => absurd rfl h⟩, hbel⟩
   ·rw [if_neg h1] at hY
    have d1 : (i3 == 1) = false := by simpa using h1
    have hmid := fun g c1 W' (h : Bw W' w.heap.size g m c1 X2) (ho2 : 0 ≤ old2 ∧ old2 ≤ 4294967295) => dcar_any w.heap.size g m c1 X2 r i3 true port old2 addr W' h (by omega) hport ho2 ha (by omega)
    unfold DStep at hmid
    rw [show (!false) = true from rfl] at hY
    generalize carW X2 r (i3 == 17) true port old2 addr = X3 at *
    replace hz := hz X3
    replace hzz := hzz (put2 X3 s2 0)
    replace hOf := hOf (put2 X3 s2 0)
    replace hsum := hsum (put2 X3 s2 0)
    generalize put2 X3 s2 0 = X4 at *
    replace h1 := Lib.hid h1
    replace hY := Lib.hid hY
    replace hin := Lib.hid hin
    replace hob := Lib.hid hob
    replace hmid := Lib.hid hmid
    replace hz := Lib.hid hz
    replace hzz := Lib.hid hzz
    replace hOf := Lib.hid hOf
    replace hsum := Lib.hid hsum
    replace hq := Lib.hid hq
    replace hr2 := Lib.hid hr2
    replace hs2 := Lib.hid hs2
    have h1m : (0 : Int) ≤ (m : Int) := by omega
    have h2m : (m : Int) ≤ (c : Int) := by omega
    have h3m : m ≤ c := by omega
    go_enter Tryz.func64, Tryz.ntmps64
    go_wp2_with fail
    refine (hget.out _ (Below.refl _ _)).mono ?_
    rintro e w1 ⟨rfl, hb1⟩
    have bel := hb1
    clear hb1 hget
    have bh := (Blk.new w1 67 Z1).setRow (A6 sz m h2 pr h4 h5)
    replace bel := below_setRow (bel.alloc bel.size (.cells Z1 67)) bel.size (A6 sz m h2 pr h4 h5)
    go_wp2_with (first
     | (refine wpList_stRow rfl rfl rfl rfl rfl (Blk.new w1 _ _) rhd_size rfl (by simp [Value.oneCell']) ?_; generalize (w1.alloc (.cells Z1 67)).setRow w1.heap.size (A6 sz m h2 pr h4 h5) = W1 at *; generalize w1.heap.size = g6 at *)
     | (refine wpList_ldRow rfl rfl rfl bh Tryz.underlying67 rhd_size ?_))
    refine (hpg.out _ bel).mono ?_
    rintro e w2 ⟨rfl, hb2⟩
    replace bh := bh.bel hb2
    replace bel := bel_after bel hb2
    clear hb2 hpg
    have hhl := bh.lt
    have bp := (Blk.new w2 69 Z0).setRow (A0 pr sr ds fl ki co true isz i1 i2 i3 i4 i5 pat ba)
    replace bh := (bh.alloc (.cells Z0 69)).setRow_far (g' := w2.heap.size) (by omega) (A0 pr sr ds fl ki co true isz i1 i2 i3 i4 i5 pat ba)
    replace bel := below_setRow (bel.alloc bel.size (.cells Z0 69)) bel.size (A0 pr sr ds fl ki co true isz i1 i2 i3 i4 i5 pat ba)
    have q1 := bh.cell 1
    have hgl2 := bp.lt
    go_upto_region 7 with (refine wpList_stRow rfl rfl rfl rfl rfl (Blk.new w2 _ _) rpt_size rfl (by simp [Value.oneCell']) ?_; generalize (w2.alloc (.cells Z0 69)).setRow w2.heap.size (A0 pr sr ds fl ki co true isz i1 i2 i3 i4 i5 pat ba) = W2 at *; generalize w2.heap.size = g8 at *)
    have own0 := Own.new .u8 W2 5 w.heap.size bel.size [] (by simp) #[] rfl 0 rfl (by simp)
    have hr2 := Lib.hid ((hrX.out.below bel).alloc bel.size (.cells #[] 5))
    have bel0 := bel.alloc bel.size (.cells #[] 5)
    have hW := bel.size
    have bh0 := bh.alloc (.cells #[] 5)
    have bp0 := bp.alloc (.cells #[] 5)
    have q10 := bh0.cell 1
    have hg6 := bh.lt
    have hg8 := bp.lt
    go_wp2_with (at_builtin; go_loud (refine wpList_app _ rfl (.tmp 34) (.tmp 38) 22 rfl .u8 w.heap.size 5 i00 (.int .u8 0) 1 Tryz.underlying22 hi hz0 hz1 hz2 rfl (.slice (some ⟨W2.heap.size, 0, none⟩) 0 0) rfl [] own0 w.heap.size _ _ _ rfl X hr2.out (by simp; omega) (by decide) (by simp; omega) ?_; intro v1 w3 own3 hg1 hv1; rw [List.nil_append] at own3; replace bel := bel0.grown hg1 (by simp; omega) (fun k h => by simp [Value.ownBlock] at h; omega); replace bh := bh0.grown hg1 (by simp [Value.ownBlock]; omega); replace bp := bp0.grown hg1 (by simp [Value.ownBlock]; omega); clear hg1 own0 hr2 bel0 bh0 bp0 q10 q1 hW; obtain ⟨g, c1, rfl, hc1, hc2, hg1, hg2⟩ := own3.formG hXm.out (by omega)))
    unfold maxLen at hc2
    have hne1 := own3.ne bh (by decide)
    have hne2 := own3.ne bp (by decide)
    have hs : DrS w w3 g m c1 g6 g8 X (A6 sz m h2 pr h4 h5) (A0 pr sr ds fl ki co true isz i1 i2 i3 i4 i5 pat ba) := ⟨⟨own3, hXm.out, hg1, by omega⟩, bh, bp, bel, hne1, hne2⟩
    clear bh bp bel own3 hne1 hne2 hhl hgl2 h1m h2m h3m hv1 hg6 hg8
    refine (hadr.out _ _ _ hs.wr).mono ?_
    rintro e w4 ⟨rfl, h4', u4⟩
    replace hs := hs.step h4' u4
    clear h4' u4 hadr
    have q0 := hs.bh.cell 0
    have q3 := hs.bh.cell 3
    have p6 := hs.bp.cell 6
    have p13 := hs.bp.cell 13
    have hold2 := hob.out hs.wr.bd
    go_wp2_with fail
    refine (hin.out _ _ _ hs.wr).mono ?_
    rintro e w5 ⟨rfl, h5', u5⟩
    replace hs := hs.step h5' u5
    clear h5' u5 p6 p13 q0 q3
    have p7 := hs.bp.cell 7
    have p13 := hs.bp.cell 13
    have p10 := hs.bp.cell 10
    go_wp2_with fail
    refine (hmid.out _ _ _ hs.wr hold2).mono ?_
    rintro e w6 ⟨rfl, h6', u6⟩
    replace hs := hs.step h6' u6
    clear h6' u6 p7 p13 p10
    have q0 := hs.bh.cell 0
    go_wp2_with fail
    refine (hz.out _ _ _ hs.wr).mono ?_
    rintro e w7 ⟨rfl, h7', u7⟩
    replace hs := hs.step h7' u7
    clear h7' u7 q0
    go_upto_region 23 with fail
    replace hs := hs.drew
    have hcc1 : ((c1 : Int) = (sz : Int)) = False := eq_false (by omega)
    have hcc2 : (c1 = sz) = False := eq_false (by omega)
    have hc0 : (0 : Int) ≤ (sz : Int) := by omega
    have hcm1 : (sz : Int) ≤ (m : Int) := by omega
    have hcm2 : (m : Int) - (sz : Int) = ((m - sz : Nat) : Int) := by omega
    have z0 : ∀ t : Tw (fun w' => Blk w' g6 67 (A6 sz m h2 pr h4 h5)), t.w.cell? ⟨g6, 0, none⟩ = some (.int .i64 sz) := fun t => t.h.cell 0
    have zz : Nonempty (Tw (fun w' => Blk w' g6 67 (A6 sz m h2 pr h4 h5))) := ⟨⟨_, hs.bh⟩⟩
    refine wp_region_plan (fun w' => Blk w' g6 67 (A6 sz m h2 pr h4 h5)) [(0, true), (1, true), (2, true), (3, true), (4, true), (5, true), (6, true), (7, true), (8, false), (9, false)] (by kernel_rfl) (by kernel_rfl) (by kernel_rfl) (by kernel_rfl) hs.bh ?_
    generalize w7.drew = W8 at *
    refine wpPl_qs 8 _ _ _ (by kernel_rfl) (by kernel_rfl) (by simp) ?_
    unfold clsS
    simp only [qq1, qq2, qq3, qq4, List.filterMap_cons, qq6, qq7, qq8, qq9]
    repeat (first | go_big_quiet_skip | (go_big_quiet_want; go_big_quiet_op; go_big_quiet_on) | refine id (?_ : wpQuiet _ _ _ _ (_ :: _) _))
    refine wpQuiet_nil ?_
    clear z0 zz
    have hsb := hsum.out hs.wr.bd
    replace hY := hY.out
    have hofx := hOf.out g c1 W8 hs.wr hc1
    generalize sumOf (X4.drop sz) = SM at *
    refine wpPl_e _ (by rfl) (by kernel_rfl) (fun K hK => ?_)
    go_simp
    refine hofx.mono ?_
    rintro e w8 ⟨rfl, rfl⟩
    refine hK _ _ hs.bh ?_
    clear hK K hofx
    refine wpPl_e _ (by rfl) (by kernel_rfl) (fun K hK => ?_)
    go_simp
    refine (hzz.out _ _ SM hsb _ hs.wr).mono ?_
    rintro e w9 ⟨rfl, h5', u5⟩
    have hn := hs.step h5' u5
    refine hK _ _ hn.bh ?_
    clear hK K
    unfold wpPl
    refine NoPanic.normal ?_
    replace hs := hn
    have hown := hs.wr.1
    have hbel := hs.bel
    clear h5' u5 hn
    go_wp2_with fail
    go_ret2
    exact ⟨⟨_, rfl, fun _ => hY ▸ hown, fun h => absurd rfl h⟩, hbel⟩
  | false =>
   clear herr
   simp only [Bool.false_eq_true, if_false, Int.toNat_natCast] at hY
   by_cases h1 : pr = 1
   ·subst h1
    have hin := fun g c1 W' (h : Bw W' w.heap.size g m c1 X1) => decho_any w.heap.size g m c1 X1 sz port W' h (by omega) hport
    unfold DStep at hin
    simp only [if_true] at hY
    replace hin := Lib.hid hin
    replace hY := Lib.hid hY
    have h1m : (0 : Int) ≤ (m : Int) := by omega
    have h2m : (m : Int) ≤ (c : Int) := by omega
    have h3m : m ≤ c := by omega
    go_enter Tryz.func64, Tryz.ntmps64
    go_wp2_with fail
    refine (hget.out _ (Below.refl _ _)).mono ?_
    rintro e w1 ⟨rfl, hb1⟩
    have bel := hb1
    clear hb1 hget
    have bh := (Blk.new w1 67 Z1).setRow (A6 sz m h2 1 h4 h5)
    replace bel := below_setRow (bel.alloc bel.size (.cells Z1 67)) bel.size (A6 sz m h2 1 h4 h5)
    go_wp2_with (first
     | (refine wpList_stRow rfl rfl rfl rfl rfl (Blk.new w1 _ _) rhd_size rfl (by simp [Value.oneCell']) ?_; generalize (w1.alloc (.cells Z1 67)).setRow w1.heap.size (A6 sz m h2 1 h4 h5) = W1 at *; generalize w1.heap.size = g6 at *)
     | (refine wpList_ldRow rfl rfl rfl bh Tryz.underlying67 rhd_size ?_))
    refine (hpg.out _ bel).mono ?_
    rintro e w2 ⟨rfl, hb2⟩
    replace bh := bh.bel hb2
    replace bel := bel_after bel hb2
    clear hb2 hpg
    have hhl := bh.lt
    have bp := (Blk.new w2 69 Z0).setRow (A0 1 sr ds fl ki co false i0 i1 i2 i3 i4 i5 pa ba)
    replace bh := (bh.alloc (.cells Z0 69)).setRow_far (g' := w2.heap.size) (by omega) (A0 1 sr ds fl ki co false i0 i1 i2 i3 i4 i5 pa ba)
    replace bel := below_setRow (bel.alloc bel.size (.cells Z0 69)) bel.size (A0 1 sr ds fl ki co false i0 i1 i2 i3 i4 i5 pa ba)
    have q1 := bh.cell 1
    have hgl2 := bp.lt
    go_upto_region 7 with (refine wpList_stRow rfl rfl rfl rfl rfl (Blk.new w2 _ _) rpt_size rfl (by simp [Value.oneCell']) ?_; generalize (w2.alloc (.cells Z0 69)).setRow w2.heap.size (A0 1 sr ds fl ki co false i0 i1 i2 i3 i4 i5 pa ba) = W2 at *; generalize w2.heap.size = g8 at *)
    have own0 := Own.new .u8 W2 5 w.heap.size bel.size [] (by simp) #[] rfl 0 rfl (by simp)
    have hr2 := Lib.hid ((hrX.out.below bel).alloc bel.size (.cells #[] 5))
    have bel0 := bel.alloc bel.size (.cells #[] 5)
    have hW := bel.size
    have bh0 := bh.alloc (.cells #[] 5)
    have bp0 := bp.alloc (.cells #[] 5)
    have q10 := bh0.cell 1
    have hg6 := bh.lt
    have hg8 := bp.lt
    go_wp2_with (at_builtin; go_loud (refine wpList_app _ rfl (.tmp 34) (.tmp 38) 22 rfl .u8 w.heap.size 5 i00 (.int .u8 0) 1 Tryz.underlying22 hi hz0 hz1 hz2 rfl (.slice (some ⟨W2.heap.size, 0, none⟩) 0 0) rfl [] own0 w.heap.size _ _ _ rfl X hr2.out (by simp; omega) (by decide) (by simp; omega) ?_; intro v1 w3 own3 hg1 hv1; rw [List.nil_append] at own3; replace bel := bel0.grown hg1 (by simp; omega) (fun k h => by simp [Value.ownBlock] at h; omega); replace bh := bh0.grown hg1 (by simp [Value.ownBlock]; omega); replace bp := bp0.grown hg1 (by simp [Value.ownBlock]; omega); clear hg1 own0 hr2 bel0 bh0 bp0 q10 q1 hW; obtain ⟨g, c1, rfl, hc1, hc2, hg1, hg2⟩ := own3.formG hXm.out (by omega)))
    unfold maxLen at hc2
    have hne1 := own3.ne bh (by decide)
    have hne2 := own3.ne bp (by decide)
    have hs : DrS w w3 g m c1 g6 g8 X (A6 sz m h2 1 h4 h5) (A0 1 sr ds fl ki co false i0 i1 i2 i3 i4 i5 pa ba) := ⟨⟨own3, hXm.out, hg1, by omega⟩, bh, bp, bel, hne1, hne2⟩
    clear bh bp bel own3 hne1 hne2 hhl hgl2 h1m h2m h3m hv1 hg6 hg8
    refine (hadr.out _ _ _ hs.wr).mono ?_
    rintro e w4 ⟨rfl, h4', u4⟩
    replace hs := hs.step h4' u4
    clear h4' u4 hadr
    have q0 := hs.bh.cell 0
    have q3 := hs.bh.cell 3
    have p6 := hs.bp.cell 6
    go_wp2_with fail
    refine (hin.out _ _ _ hs.wr).mono ?_
    rintro e w5 ⟨rfl, h5', u5⟩
    replace hs := hs.step h5' u5
    have hown := hs.wr.1
    have hbel := hs.bel
    clear h5' u5
    go_wp2_with fail
    go_ret2
    exact ⟨⟨_, rfl, fun _ => hY.out ▸ hown, fun h => absurd rfl h⟩, hbel⟩
   ·rw [if_neg h1] at hY
    have d1 : (pr == 1) = false := by simpa using h1
    have hin := fun g c1 W' (h : Bw W' w.heap.size g m c1 X1) => dcar_any w.heap.size g m c1 X1 sz pr false port old addr W' h (by omega) hport ho ha (by omega)
    unfold DStep at hin
    replace hin := Lib.hid hin
    replace h1 := Lib.hid h1
    replace hY := Lib.hid hY
    have h1m : (0 : Int) ≤ (m : Int) := by omega
    have h2m : (m : Int) ≤ (c : Int) := by omega
    have h3m : m ≤ c := by omega
    go_enter Tryz.func64, Tryz.ntmps64
    go_wp2_with fail
    refine (hget.out _ (Below.refl _ _)).mono ?_
    rintro e w1 ⟨rfl, hb1⟩
    have bel := hb1
    clear hb1 hget
    have bh := (Blk.new w1 67 Z1).setRow (A6 sz m h2 pr h4 h5)
    replace bel := below_setRow (bel.alloc bel.size (.cells Z1 67)) bel.size (A6 sz m h2 pr h4 h5)
    go_wp2_with (first
     | (refine wpList_stRow rfl rfl rfl rfl rfl (Blk.new w1 _ _) rhd_size rfl (by simp [Value.oneCell']) ?_; generalize (w1.alloc (.cells Z1 67)).setRow w1.heap.size (A6 sz m h2 pr h4 h5) = W1 at *; generalize w1.heap.size = g6 at *)
     | (refine wpList_ldRow rfl rfl rfl bh Tryz.underlying67 rhd_size ?_))
    refine (hpg.out _ bel).mono ?_
    rintro e w2 ⟨rfl, hb2⟩
    replace bh := bh.bel hb2
    replace bel := bel_after bel hb2
    clear hb2 hpg
    have hhl := bh.lt
    have bp := (Blk.new w2 69 Z0).setRow (A0 pr sr ds fl ki co false i0 i1 i2 i3 i4 i5 pa ba)
    replace bh := (bh.alloc (.cells Z0 69)).setRow_far (g' := w2.heap.size) (by omega) (A0 pr sr ds fl ki co false i0 i1 i2 i3 i4 i5 pa ba)
    replace bel := below_setRow (bel.alloc bel.size (.cells Z0 69)) bel.size (A0 pr sr ds fl ki co false i0 i1 i2 i3 i4 i5 pa ba)
    have q1 := bh.cell 1
    have hgl2 := bp.lt
    go_upto_region 7 with (refine wpList_stRow rfl rfl rfl rfl rfl (Blk.new w2 _ _) rpt_size rfl (by simp [Value.oneCell']) ?_; generalize (w2.alloc (.cells Z0 69)).setRow w2.heap.size (A0 pr sr ds fl ki co false i0 i1 i2 i3 i4 i5 pa ba) = W2 at *; generalize w2.heap.size = g8 at *)
    have own0 := Own.new .u8 W2 5 w.heap.size bel.size [] (by simp) #[] rfl 0 rfl (by simp)
    have hr2 := Lib.hid ((hrX.out.below bel).alloc bel.size (.cells #[] 5))
    have bel0 := bel.alloc bel.size (.cells #[] 5)
    have hW := bel.size
    have bh0 := bh.alloc (.cells #[] 5)
    have bp0 := bp.alloc (.cells #[] 5)
    have q10 := bh0.cell 1
    have hg6 := bh.lt
    have hg8 := bp.lt
    go_wp2_with (at_builtin; go_loud (refine wpList_app _ rfl (.tmp 34) (.tmp 38) 22 rfl .u8 w.heap.size 5 i00 (.int .u8 0) 1 Tryz.underlying22 hi hz0 hz1 hz2 rfl (.slice (some ⟨W2.heap.size, 0, none⟩) 0 0) rfl [] own0 w.heap.size _ _ _ rfl X hr2.out (by simp; omega) (by decide) (by simp; omega) ?_; intro v1 w3 own3 hg1 hv1; rw [List.nil_append] at own3; replace bel := bel0.grown hg1 (by simp; omega) (fun k h => by simp [Value.ownBlock] at h; omega); replace bh := bh0.grown hg1 (by simp [Value.ownBlock]; omega); replace bp := bp0.grown hg1 (by simp [Value.ownBlock]; omega); clear hg1 own0 hr2 bel0 bh0 bp0 q10 q1 hW; obtain ⟨g, c1, rfl, hc1, hc2, hg1, hg2⟩ := own3.formG hXm.out (by omega)))
    unfold maxLen at hc2
    have hne1 := own3.ne bh (by decide)
    have hne2 := own3.ne bp (by decide)
    have hs : DrS w w3 g m c1 g6 g8 X (A6 sz m h2 pr h4 h5) (A0 pr sr ds fl ki co false i0 i1 i2 i3 i4 i5 pa ba) := ⟨⟨own3, hXm.out, hg1, by omega⟩, bh, bp, bel, hne1, hne2⟩
    clear bh bp bel own3 hne1 hne2 hhl hgl2 h1m h2m h3m hv1 hg6 hg8
    refine (hadr.out _ _ _ hs.wr).mono ?_
    rintro e w4 ⟨rfl, h4', u4⟩
    replace hs := hs.step h4' u4
    clear h4' u4 hadr
    have q0 := hs.bh.cell 0
    have q3 := hs.bh.cell 3
    have p6 := hs.bp.cell 6
    go_wp2_with fail
    refine (hin.out _ _ _ hs.wr).mono ?_
    rintro e w5 ⟨rfl, h5', u5⟩
    replace hs := hs.step h5' u5
    have hown := hs.wr.1
    have hbel := hs.bel
    clear h5' u5
    go_wp2_with fail
    go_ret2
    exact ⟨⟨_, rfl, fun _ => hY.out ▸ hown, fun h => absurd rfl h⟩, hbel⟩
end
section
variable (out : Bool) (l : List Int) (A : Option Addr) (len c : Nat) (addr port : Int) (w : World) (hr : Rd .u8 w w.heap.size A len l) (hlc : len ≤ c) (hcm : c ≤ 9223372036854775807) (hl : len ≤ 60000) (ha : 0 ≤ addr ∧ addr ≤ 4294967295) (hport : 0 ≤ port ∧ port ≤ 65535)
include hr hlc hcm hl ha hport
theorem drw_any : Calls Tryz.prog 64 (A23 A len c out addr port) w (ChgR w (rwE l) (rwL l out addr port)) := by
 have h8 : Bytes8 l := fun x hx => inr_u8 (hr.rng x hx)
 by_cases h1 : getE l = 0
 ·have eh : hdIf l 0 = hdOf l := rfl
  by_cases h2 : (getR (hdOf l) l).1 = 0
  ·have e0 : rwE l = 0 := by unfold rwE; rw [if_neg (by simp [h1])]; exact h2
   obtain ⟨_, hR⟩ := rw_ok e0
   have hL : rwL l out addr port = chgW (l.take (hdOf l).len.toNat) (hdOf l) (getR (hdOf l) l).2 out addr port := by unfold rwL; rw [if_pos e0]
   rw [e0, hL]
   generalize (getR (hdOf l) l).2 = p at *
   obtain ⟨sz, m, s1, s2, s3, s4, s5, s6, s7, s8, s9, s10, _⟩ := got_pre h8 h1 hR
   rcases hH : hdOf l with ⟨H0, H1, H2, H3, H4, H5⟩
   simp only [hH] at s1 s2 s8 s9
   subst s1 s2
   obtain ⟨pr, sr, ds, fl, ki, co, er, ⟨i0, i1, i2, i3, i4, i5⟩, pa, ba⟩ := p
   simp only at s8
   subst s8
   refine drw_ok out l A len c addr port w hr hlc hcm hl sz m H2 H4 H5 _ pr sr ds fl ki co i0 i1 i2 i3 i4 i5 pa er ba h1 (eh.trans hH) (by rw [eh]; rw [hH] at hR ⊢; exact hR) (by have := hr.len; omega) s6 s3 s5 (fun he => ?_) rfl ha hport
   obtain ⟨isz, pat, t1, t2, t3, t4, t5, t6, _⟩ := s10 he
   exact ⟨isz, pat, t1, t2, t3, t4, t6⟩
  ·have e0 : rwE l = (getR (hdIf l 0) l).1 := by unfold rwE; rw [if_neg (by simp [h1]), eh]
   have hL : rwL l out addr port = [] := by unfold rwL; rw [if_neg (by rw [e0, eh]; exact h2)]
   rw [e0, hL]
   exact drw_part out l A len c addr port w hr hlc hcm hl h1 (by rw [eh]; exact h2)
 ·have e0 : rwE l = getE l := by unfold rwE; rw [if_pos h1]
  have hL : rwL l out addr port = [] := by unfold rwL; rw [if_neg (by rw [e0]; exact h1)]
  rw [e0, hL]
  exact drw_head out l A len c addr port w hr hlc hcm hl h1
end
end Go.Proofs.YtbckoohljkmahaaGreat
