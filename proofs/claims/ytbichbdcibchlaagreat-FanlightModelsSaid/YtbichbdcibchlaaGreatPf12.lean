/- Contracts and plain facts. -/
import Derived.Test.YtbichbdcibchlaaGreatPf05
import Derived.Test.YtbichbdcibchlaaGreatPf06
namespace Go.Proofs.YtbichbdcibchlaaGreat
set_option linter.unusedVariables false
set_option linter.unusedSimpArgs false
set_option maxRecDepth 100000
set_option maxHeartbeats 16000000
open Go.RowKit
theorem rwhd_size : (Tryz.prog.info? 71).map (·.size) = some 6 := by kernel_rfl
theorem Own.lower {k : IntKind} {e : TypeId} {w : World} {base base' : Nat} {v : Value} {l : List Int} (h : Own k e w base v l) (hb : base' ≤ base) : Own k e w base' v l := by
 refine ⟨⟨h.row.1, ?_⟩, h.rng⟩
 rcases h.row.2 with hn | ⟨g, cap, cur, hv, hg, rest⟩
 ·exact .inl hn
 ·exact .inr ⟨g, cap, cur, hv, by omega, rest⟩
theorem rw_bds {l : List Int} (hl : ∀ x, x ∈ l → 0 ≤ x ∧ x ≤ 255) (h : getE l = 0) : (0 ≤ (hdIf l 0).src ∧ (hdIf l 0).src ≤ 4294967295) ∧ (0 ≤ (hdIf l 0).dst ∧ (hdIf l 0).dst ≤ 4294967295) := by
 have h20 : 20 ≤ l.length := by
  rcases Nat.lt_or_ge l.length 20 with hh | hh
  ·exfalso
   unfold getE shapeE at h
   rw [if_pos hh] at h
   simp at h
  ·exact hh
 unfold hdIf
 rw [if_pos rfl]
 exact ⟨n4_bd hl (by omega), n4_bd hl (by omega)⟩
def ChgR (w : World) (E : Int) (L : List Int) (e : Ending) (w' : World) : Prop :=
 (∃ v, e = .returned (.tuple #[v, .int .i64 E]) ∧ (E = 0 → Own .u8 5 w' w.heap.size v L) ∧ (E ≠ 0 → v = .slice none 0 0)) ∧ Below w.heap.size w w'
section
variable (out : Bool) (l : List Int) (A : Option Addr) (len c B : Nat) (addr port : Int) (w : World) (hr : Rd .u8 w B A len l) (hB : B ≤ w.heap.size) (hlc : len ≤ c) (hcm : c ≤ 9223372036854775807) (hl : len ≤ 60000)
include hr hB hlc hcm hl
theorem change_head (hE : getE l ≠ 0) :
  Calls Tryz.prog 59 #[.slice A len c, .bool out, .int .u32 addr, .int .u16 port] w (ChgR w (getE l) []) := by
 have hget := fun W (h : Below w.heap.size w W) => Get_any l _ len c w.heap.size W ((hr.more hB).below h) h.size hlc hcm (by omega)
 have hz : hdIf l (getE l) = Hd.z := by unfold hdIf; rw [if_neg hE]
 rw [hz] at hget
 simp only [Hd.z, Hd.val] at hget
 clear hz
 have d1 : (getE l != 0) = true := by simpa using hE
 generalize getE l = E at *
 replace hget := Lib.hid hget
 replace hE := Lib.hid hE
 go_enter Tryz.func59, Tryz.ntmps59
 go_wp2_with fail
 refine (hget.out _ (Below.refl _ _)).mono ?_
 rintro e w1 ⟨rfl, hb1⟩
 go_wp2_with (refine wpList_stRow rfl rfl rfl rfl rfl (Blk.new w1 _ _) rwhd_size rfl (by simp [Value.oneCell']) ?_)
 go_ret2
 exact ⟨⟨_, rfl, fun h => absurd h hE.out, fun _ => rfl⟩, below_setRow (hb1.alloc hb1.size _) hb1.size _⟩
theorem change_part (hE : getE l = 0) (hE2 : (getR (hdIf l 0) l).1 ≠ 0) :
  Calls Tryz.prog 59 #[.slice A len c, .bool out, .int .u32 addr, .int .u16 port] w (ChgR w (getR (hdIf l 0) l).1 []) := by
 have hb := rw_bds (fun x hx => inr_u8 (hr.rng x hx)) hE
 have hget := fun W (h : Below w.heap.size w W) => Get_any l _ len c w.heap.size W ((hr.more hB).below h) h.size hlc hcm (by omega)
 have hpg := fun W (h : Below w.heap.size w W) => PGet_any (hdIf l 0) l _ len c w.heap.size W ((hr.more hB).below h) h.size hlc hcm (by omega) hb.1 hb.2
 rw [hE] at hget
 clear hb hE
 generalize getR (hdIf l 0) l = R at *
 generalize hdIf l 0 = H at *
 obtain ⟨h0, h1, h2, h3, h4, h5⟩ := H
 obtain ⟨E, ⟨pr, sr, ds, fl, ki, co, er, ⟨i0, i1, i2, i3, i4, i5⟩, pa, ba⟩⟩ := R
 simp only [Hd.val, Tells, Pt.val] at hget hpg
 replace hget := Lib.hid hget
 replace hpg := Lib.hid hpg
 simp only at hE2 ⊢
 have hE3 : (E != 0) = true := by simpa using hE2
 replace hE2 := Lib.hid hE2
 go_enter Tryz.func59, Tryz.ntmps59
 go_wp2_with fail
 refine (hget.out _ (Below.refl _ _)).mono ?_
 rintro e w1 ⟨rfl, hb1⟩
 have bel := hb1
 clear hb1 hget
 have bh := (Blk.new w1 71 Z1).setRow (A4 h0 h1 h2 h3 h4 h5)
 replace bel := below_setRow (bel.alloc bel.size (.cells Z1 71)) bel.size (A4 h0 h1 h2 h3 h4 h5)
 go_wp2_with (first
  | (refine wpList_stRow rfl rfl rfl rfl rfl (Blk.new w1 _ _) rwhd_size rfl (by simp [Value.oneCell']) ?_; generalize (w1.alloc (.cells Z1 71)).setRow w1.heap.size (A4 h0 h1 h2 h3 h4 h5) = W1 at *; generalize w1.heap.size = g6 at *)
  | (refine wpList_ldRow rfl rfl rfl bh Tryz.underlying71 rwhd_size ?_))
 refine (hpg.out _ bel).mono ?_
 rintro e w2 ⟨rfl, hb2⟩
 replace bh := bh.bel hb2
 replace bel := bel_after bel hb2
 clear hb2 hpg
 have hhl := bh.lt
 have bp := (Blk.new w2 76 Z0).setRow (A0 pr sr ds fl ki co er i0 i1 i2 i3 i4 i5 pa ba)
 replace bh := (bh.alloc (.cells Z0 76)).setRow_far (g' := w2.heap.size) (by omega) (A0 pr sr ds fl ki co er i0 i1 i2 i3 i4 i5 pa ba)
 replace bel := below_setRow (bel.alloc bel.size (.cells Z0 76)) bel.size (A0 pr sr ds fl ki co er i0 i1 i2 i3 i4 i5 pa ba)
 go_wp2_with (refine wpList_stRow rfl rfl rfl rfl rfl (Blk.new w2 _ _) pt_size rfl (by simp [Value.oneCell']) ?_)
 go_ret2
 exact ⟨⟨_, rfl, fun h => absurd h hE2.out, fun _ => rfl⟩, bel⟩
end
structure ChS (w W : World) (gw g n c gh gp : Nat) (out : Bool) (X : List Int) (hv pv : Array Value) : Prop where
 wr : Wr W w.heap.size gw g n c out X
 bh : Blk W gh 71 hv
 bp : Blk W gp 76 pv
 bel : Below w.heap.size w W
 ne : gh ≠ g ∧ gp ≠ g
theorem ChS.step {w W w' : World} {gw g n c gh gp : Nat} {out : Bool} {X Y : List Int} {hv pv : Array Value} (h : ChS w W gw g n c gh gp out X hv pv) (h1 : Wr w' w.heap.size gw g n c out Y) (h2 : Upd (fun k => k = g) W w') : ChS w w' gw g n c gh gp out Y hv pv :=
 ⟨h1, h.bh.upd h2 h.ne.1, h.bp.upd h2 h.ne.2, h.bel.trans (h2.below (B := w.heap.size) h.bel.size (fun k hk e => by have := h1.2.2.2.1; omega)), h.ne⟩
section
variable (out : Bool) (l : List Int) (A : Option Addr) (len c B : Nat) (addr port : Int) (w : World) (hr : Rd .u8 w B A len l) (hB : B ≤ w.heap.size) (hlc : len ≤ c) (hcm : c ≤ 9223372036854775807) (hl : len ≤ 60000)
 (sz m : Nat) (h2 h3 h4 h5 : Int) (ha : 0 ≤ addr ∧ addr ≤ 4294967295) (hport : 0 ≤ port ∧ port ≤ 65535) (Y : List Int)
include hr hB hlc hcm hl
theorem change_ok (pr sr ds fl ki co i0 i1 i2 i3 i4 i5 pa : Int) (er ba : Bool) (hE : getE l = 0) (hH : hdIf l 0 = ⟨sz, m, h2, h3, h4, h5⟩) (hR : getR (hdIf l 0) l = (0, ⟨pr, sr, ds, fl, ki, co, er, ⟨i0, i1, i2, i3, i4, i5⟩, pa, ba⟩)) (hm : m ≤ len) (hm2 : m ≤ 1500) (hsz : 20 ≤ sz) (hszm : sz + 8 ≤ m)
  (herr : er = true → ∃ isz pat : Nat, i0 = isz ∧ pa = pat ∧ pat + isz + 8 ≤ m ∧ 20 ≤ isz ∧ sz + 8 ≤ pat + isz) (hY : Hid (chgW (l.take m) ⟨sz, m, h2, h3, h4, h5⟩ ⟨pr, sr, ds, fl, ki, co, er, ⟨i0, i1, i2, i3, i4, i5⟩, pa, ba⟩ out addr port = Y)) (ha : 0 ≤ addr ∧ addr ≤ 4294967295) (hport : 0 ≤ port ∧ port ≤ 65535) :
  Calls Tryz.prog 59 #[.slice A len c, .bool out, .int .u32 addr, .int .u16 port] w (ChgR w 0 Y) := by
 obtain ⟨b, o, rfl, _, _⟩ := hr.cel (by omega)
 have hb := rw_bds (fun x hx => inr_u8 (hr.rng x hx)) hE
 have hget := fun W (h : Below w.heap.size w W) => Get_any l _ len c w.heap.size W ((hr.more hB).below h) h.size hlc hcm (by omega)
 have hpg := fun W (h : Below w.heap.size w W) => PGet_any (hdIf l 0) l _ len c w.heap.size W ((hr.more hB).below h) h.size hlc hcm (by omega) hb.1 hb.2
 rw [hE] at hget
 rw [hR] at hpg
 rw [hH] at hget hpg
 clear hb hE hH hR
 simp only [Hd.val, Tells, Pt.val] at hget hpg
 have hcl := fun W (h : Below w.heap.size w W) => Clone_any (l.take m) b o m c w.heap.size W (((hr.take hm).more hB).below h) h.size (by omega)
 have hXm : Hid ((l.take m).length = m) := Lib.hid (by rw [List.length_take, hr.len]; omega)
 have hl8 : ∀ x, x ∈ l.take m → 0 ≤ x ∧ x ≤ 255 := fun x hx => inr_u8 (hr.rng x (List.mem_of_mem_take hx))
 clear hr
 generalize l.take m = X at *
 have hadr := fun gw g c1 W' (h : Wr W' w.heap.size gw g m c1 out X) => waddr_any w.heap.size gw g m c1 out X 0 out addr W' h (by omega) ha
 have hb := addrAt_bd 0 out
 have ho := n4_bd hl8 (i := addrAt 0 out) (by rw [hXm.out]; omega)
 unfold chgW at hY
 simp only [] at hY
 generalize addrL X 0 out addr = X1 at *
 generalize n4 X (addrAt 0 out) = old at *
 clear hl8 hb
 replace hget := Lib.hid hget
 replace hpg := Lib.hid hpg
 replace hcl := Lib.hid hcl
 replace hadr := Lib.hid hadr
 cases er with
 | true =>
  obtain ⟨isz, pat, rfl, rfl, e1, e2, e3⟩ := herr rfl
  have hin := fun gw g c1 W' (h : Wr W' w.heap.size gw g m c1 out X1) (hc1 : m ≤ c1) (hc2 : c1 ≤ 9223372036854775807) => winner_any w.heap.size gw g m c1 out X1 pat isz sz pr sr ds fl ki co i1 i2 i3 i4 i5 true ba addr port W' h (by omega) e2 hsz e3 (by omega) hc1 hc2 ha hport
  simp only [if_true, Int.toNat_natCast] at hY
  replace hin := Lib.hid hin
  clear herr
  have h1m : (0 : Int) ≤ (m : Int) := by omega
  have h2m : (m : Int) ≤ (c : Int) := by omega
  have h3m : m ≤ c := by omega
  go_enter Tryz.func59, Tryz.ntmps59
  go_wp2_with fail
  refine (hget.out _ (Below.refl _ _)).mono ?_
  rintro e w1 ⟨rfl, hb1⟩
  have bel := hb1
  clear hb1 hget
  have bh := (Blk.new w1 71 Z1).setRow (A4 sz m h2 h3 h4 h5)
  replace bel := below_setRow (bel.alloc bel.size (.cells Z1 71)) bel.size (A4 sz m h2 h3 h4 h5)
  go_wp2_with (first
   | (refine wpList_stRow rfl rfl rfl rfl rfl (Blk.new w1 _ _) rwhd_size rfl (by simp [Value.oneCell']) ?_; generalize (w1.alloc (.cells Z1 71)).setRow w1.heap.size (A4 sz m h2 h3 h4 h5) = W1 at *; generalize w1.heap.size = g6 at *)
   | (refine wpList_ldRow rfl rfl rfl bh Tryz.underlying71 rwhd_size ?_))
  refine (hpg.out _ bel).mono ?_
  rintro e w2 ⟨rfl, hb2⟩
  replace bh := bh.bel hb2
  replace bel := bel_after bel hb2
  clear hb2 hpg
  have hhl := bh.lt
  have bp := (Blk.new w2 76 Z0).setRow (A0 pr sr ds fl ki co true isz i1 i2 i3 i4 i5 pat ba)
  replace bh := (bh.alloc (.cells Z0 76)).setRow_far (g' := w2.heap.size) (by omega) (A0 pr sr ds fl ki co true isz i1 i2 i3 i4 i5 pat ba)
  replace bel := below_setRow (bel.alloc bel.size (.cells Z0 76)) bel.size (A0 pr sr ds fl ki co true isz i1 i2 i3 i4 i5 pat ba)
  have q1 := bh.cell 1
  have hgl2 := bp.lt
  go_wp2_with (refine wpList_stRow rfl rfl rfl rfl rfl (Blk.new w2 _ _) pt_size rfl (by simp [Value.oneCell']) ?_; generalize (w2.alloc (.cells Z0 76)).setRow w2.heap.size (A0 pr sr ds fl ki co true isz i1 i2 i3 i4 i5 pat ba) = W2 at *; generalize w2.heap.size = g8 at *)
  refine (hcl.out _ bel).mono ?_
  rintro e w3 ⟨v3, rfl, own3, hb3⟩
  replace own3 := own3.lower bel.size
  replace bh := bh.bel hb3
  replace bp := bp.bel hb3
  replace bel := bel_after bel hb3
  have hgl := bh.lt
  clear hb3 hcl q1
  obtain ⟨g, c1, rfl, hc1, hc2, hg1, hg2⟩ := own3.formG hXm.out (by omega)
  unfold maxLen at hc2
  have hne1 := own3.ne bh (by decide)
  have hne2 := own3.ne bp (by decide)
  have hs : ChS w (w3.alloc (.cells #[.slice (some ⟨g, 0, none⟩) m c1, .bool out] 141)) w3.heap.size g m c1 g6 g8 out X (A4 sz m h2 h3 h4 h5) (A0 pr sr ds fl ki co true isz i1 i2 i3 i4 i5 pat ba) :=
   ⟨⟨Blk.new _ _ _, own3.alloc _, hXm.out, hg1, by omega⟩, bh.alloc _, bp.alloc _, bel.alloc bel.size _, hne1, hne2⟩
  clear bh bp bel own3 hne1 hne2 hgl hhl hgl2 h1m h2m h3m
  go_upto_region 8 with fail
  generalize w3.alloc (.cells #[.slice (some ⟨g, 0, none⟩) m c1, .bool out] 141) = W3 at *
  generalize w3.heap.size = gw at *
  go_wp2_with fail
  refine (hadr.out _ _ _ _ hs.wr).mono ?_
  rintro e w4 ⟨rfl, h4', u4⟩
  replace hs := hs.step h4' u4
  clear h4' u4 hadr
  have q0 := hs.bh.cell 0
  have p0 := hs.bp.cell 0
  have p6 := hs.bp.cell 6
  go_wp2_with (refine wpList_ldRow rfl rfl rfl hs.bp Tryz.underlying76 pt_size ?_)
  refine (hin.out _ _ _ _ hs.wr hc1 hc2).mono ?_
  rintro e w5 ⟨rfl, h5', u5⟩
  replace hs := hs.step h5' u5
  have r0 := hs.wr.1.cell 0
  have hown := hs.wr.2.1
  have hbel := hs.bel
  clear q0 p0 p6 h5' u5
  go_wp2
  go_ret2
  exact ⟨⟨_, rfl, fun _ => hY.out ▸ hown, fun h => absurd rfl h⟩, hbel⟩
 | false =>
  clear herr
  simp only [Bool.false_eq_true, if_false, Int.toNat_natCast] at hY
  by_cases h1 : pr = 1
  ·subst h1
   have hin := fun gw g c1 W' (h : Wr W' w.heap.size gw g m c1 out X1) => wecho_any w.heap.size gw g m c1 out X1 sz port W' h (by omega) hport
   simp only [if_true] at hY
   replace hin := Lib.hid hin
   have h1m : (0 : Int) ≤ (m : Int) := by omega
   have h2m : (m : Int) ≤ (c : Int) := by omega
   have h3m : m ≤ c := by omega
   go_enter Tryz.func59, Tryz.ntmps59
   go_wp2_with fail
   refine (hget.out _ (Below.refl _ _)).mono ?_
   rintro e w1 ⟨rfl, hb1⟩
   have bel := hb1
   clear hb1 hget
   have bh := (Blk.new w1 71 Z1).setRow (A4 sz m h2 h3 h4 h5)
   replace bel := below_setRow (bel.alloc bel.size (.cells Z1 71)) bel.size (A4 sz m h2 h3 h4 h5)
   go_wp2_with (first
    | (refine wpList_stRow rfl rfl rfl rfl rfl (Blk.new w1 _ _) rwhd_size rfl (by simp [Value.oneCell']) ?_; generalize (w1.alloc (.cells Z1 71)).setRow w1.heap.size (A4 sz m h2 h3 h4 h5) = W1 at *; generalize w1.heap.size = g6 at *)
    | (refine wpList_ldRow rfl rfl rfl bh Tryz.underlying71 rwhd_size ?_))
   refine (hpg.out _ bel).mono ?_
   rintro e w2 ⟨rfl, hb2⟩
   replace bh := bh.bel hb2
   replace bel := bel_after bel hb2
   clear hb2 hpg
   have hhl := bh.lt
   have bp := (Blk.new w2 76 Z0).setRow (A0 1 sr ds fl ki co false i0 i1 i2 i3 i4 i5 pa ba)
   replace bh := (bh.alloc (.cells Z0 76)).setRow_far (g' := w2.heap.size) (by omega) (A0 1 sr ds fl ki co false i0 i1 i2 i3 i4 i5 pa ba)
   replace bel := below_setRow (bel.alloc bel.size (.cells Z0 76)) bel.size (A0 1 sr ds fl ki co false i0 i1 i2 i3 i4 i5 pa ba)
   have q1 := bh.cell 1
   have hgl2 := bp.lt
   go_wp2_with (refine wpList_stRow rfl rfl rfl rfl rfl (Blk.new w2 _ _) pt_size rfl (by simp [Value.oneCell']) ?_; generalize (w2.alloc (.cells Z0 76)).setRow w2.heap.size (A0 1 sr ds fl ki co false i0 i1 i2 i3 i4 i5 pa ba) = W2 at *; generalize w2.heap.size = g8 at *)
   refine (hcl.out _ bel).mono ?_
   rintro e w3 ⟨v3, rfl, own3, hb3⟩
   replace own3 := own3.lower bel.size
   replace bh := bh.bel hb3
   replace bp := bp.bel hb3
   replace bel := bel_after bel hb3
   have hgl := bh.lt
   clear hb3 hcl q1
   obtain ⟨g, c1, rfl, hc1, hc2, hg1, hg2⟩ := own3.formG hXm.out (by omega)
   unfold maxLen at hc2
   have hne1 := own3.ne bh (by decide)
   have hne2 := own3.ne bp (by decide)
   have hs : ChS w (w3.alloc (.cells #[.slice (some ⟨g, 0, none⟩) m c1, .bool out] 141)) w3.heap.size g m c1 g6 g8 out X (A4 sz m h2 h3 h4 h5) (A0 1 sr ds fl ki co false i0 i1 i2 i3 i4 i5 pa ba) :=
    ⟨⟨Blk.new _ _ _, own3.alloc _, hXm.out, hg1, by omega⟩, bh.alloc _, bp.alloc _, bel.alloc bel.size _, hne1, hne2⟩
   clear bh bp bel own3 hne1 hne2 hgl hhl hgl2 h1m h2m h3m
   go_upto_region 8 with fail
   generalize w3.alloc (.cells #[.slice (some ⟨g, 0, none⟩) m c1, .bool out] 141) = W3 at *
   generalize w3.heap.size = gw at *
   go_wp2_with fail
   refine (hadr.out _ _ _ _ hs.wr).mono ?_
   rintro e w4 ⟨rfl, h4', u4⟩
   replace hs := hs.step h4' u4
   clear h4' u4 hadr
   have q0 := hs.bh.cell 0
   have p0 := hs.bp.cell 0
   have p6 := hs.bp.cell 6
   go_wp2_with fail
   refine (hin.out _ _ _ _ hs.wr).mono ?_
   rintro e w5 ⟨rfl, h5', u5⟩
   replace hs := hs.step h5' u5
   have r0 := hs.wr.1.cell 0
   have hown := hs.wr.2.1
   have hbel := hs.bel
   clear q0 p0 p6 h5' u5
   go_wp2
   go_ret2
   exact ⟨⟨_, rfl, fun _ => hY.out ▸ hown, fun h => absurd rfl h⟩, hbel⟩
  ·rw [if_neg h1] at hY
   have d1 : (pr == 1) = false := by simpa using h1
   have hin := fun gw g c1 W' (h : Wr W' w.heap.size gw g m c1 out X1) => wcar_any w.heap.size gw g m c1 out X1 sz pr out port old addr W' h (by omega) hport ho ha (by omega)
   replace hin := Lib.hid hin
   replace h1 := Lib.hid h1
   have h1m : (0 : Int) ≤ (m : Int) := by omega
   have h2m : (m : Int) ≤ (c : Int) := by omega
   have h3m : m ≤ c := by omega
   go_enter Tryz.func59, Tryz.ntmps59
   go_wp2_with fail
   refine (hget.out _ (Below.refl _ _)).mono ?_
   rintro e w1 ⟨rfl, hb1⟩
   have bel := hb1
   clear hb1 hget
   have bh := (Blk.new w1 71 Z1).setRow (A4 sz m h2 h3 h4 h5)
   replace bel := below_setRow (bel.alloc bel.size (.cells Z1 71)) bel.size (A4 sz m h2 h3 h4 h5)
   go_wp2_with (first
    | (refine wpList_stRow rfl rfl rfl rfl rfl (Blk.new w1 _ _) rwhd_size rfl (by simp [Value.oneCell']) ?_; generalize (w1.alloc (.cells Z1 71)).setRow w1.heap.size (A4 sz m h2 h3 h4 h5) = W1 at *; generalize w1.heap.size = g6 at *)
    | (refine wpList_ldRow rfl rfl rfl bh Tryz.underlying71 rwhd_size ?_))
   refine (hpg.out _ bel).mono ?_
   rintro e w2 ⟨rfl, hb2⟩
   replace bh := bh.bel hb2
   replace bel := bel_after bel hb2
   clear hb2 hpg
   have hhl := bh.lt
   have bp := (Blk.new w2 76 Z0).setRow (A0 pr sr ds fl ki co false i0 i1 i2 i3 i4 i5 pa ba)
   replace bh := (bh.alloc (.cells Z0 76)).setRow_far (g' := w2.heap.size) (by omega) (A0 pr sr ds fl ki co false i0 i1 i2 i3 i4 i5 pa ba)
   replace bel := below_setRow (bel.alloc bel.size (.cells Z0 76)) bel.size (A0 pr sr ds fl ki co false i0 i1 i2 i3 i4 i5 pa ba)
   have q1 := bh.cell 1
   have hgl2 := bp.lt
   go_wp2_with (refine wpList_stRow rfl rfl rfl rfl rfl (Blk.new w2 _ _) pt_size rfl (by simp [Value.oneCell']) ?_; generalize (w2.alloc (.cells Z0 76)).setRow w2.heap.size (A0 pr sr ds fl ki co false i0 i1 i2 i3 i4 i5 pa ba) = W2 at *; generalize w2.heap.size = g8 at *)
   refine (hcl.out _ bel).mono ?_
   rintro e w3 ⟨v3, rfl, own3, hb3⟩
   replace own3 := own3.lower bel.size
   replace bh := bh.bel hb3
   replace bp := bp.bel hb3
   replace bel := bel_after bel hb3
   have hgl := bh.lt
   clear hb3 hcl q1
   obtain ⟨g, c1, rfl, hc1, hc2, hg1, hg2⟩ := own3.formG hXm.out (by omega)
   unfold maxLen at hc2
   have hne1 := own3.ne bh (by decide)
   have hne2 := own3.ne bp (by decide)
   have hs : ChS w (w3.alloc (.cells #[.slice (some ⟨g, 0, none⟩) m c1, .bool out] 141)) w3.heap.size g m c1 g6 g8 out X (A4 sz m h2 h3 h4 h5) (A0 pr sr ds fl ki co false i0 i1 i2 i3 i4 i5 pa ba) :=
    ⟨⟨Blk.new _ _ _, own3.alloc _, hXm.out, hg1, by omega⟩, bh.alloc _, bp.alloc _, bel.alloc bel.size _, hne1, hne2⟩
   clear bh bp bel own3 hne1 hne2 hgl hhl hgl2 h1m h2m h3m
   go_upto_region 8 with fail
   generalize w3.alloc (.cells #[.slice (some ⟨g, 0, none⟩) m c1, .bool out] 141) = W3 at *
   generalize w3.heap.size = gw at *
   go_wp2_with fail
   refine (hadr.out _ _ _ _ hs.wr).mono ?_
   rintro e w4 ⟨rfl, h4', u4⟩
   replace hs := hs.step h4' u4
   clear h4' u4 hadr
   have q0 := hs.bh.cell 0
   have p0 := hs.bp.cell 0
   have p6 := hs.bp.cell 6
   go_wp2_with fail
   refine (hin.out _ _ _ _ hs.wr).mono ?_
   rintro e w5 ⟨rfl, h5', u5⟩
   replace hs := hs.step h5' u5
   have r0 := hs.wr.1.cell 0
   have hown := hs.wr.2.1
   have hbel := hs.bel
   clear q0 p0 p6 h5' u5
   go_wp2
   go_ret2
   exact ⟨⟨_, rfl, fun _ => hY.out ▸ hown, fun h => absurd rfl h⟩, hbel⟩
end
end Go.Proofs.YtbichbdcibchlaaGreat
