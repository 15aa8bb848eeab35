/- Contracts and plain facts. -/
import Derived.Test.YtbckoohljkmahaaGreatPk05
import Derived.Test.YtbckoohljkmahaaGreatPk02
namespace Go.Proofs.YtbckoohljkmahaaGreat
set_option linter.unusedVariables false
set_option linter.unusedSimpArgs false
set_option maxRecDepth 100000
set_option maxHeartbeats 16000000
open Go.RowKit
theorem rwhd_size : (Tryz.prog.info? 105).map (·.size) = some 6 := by kernel_rfl
theorem Own.lower {k : IntKind} {e : TypeId} {w : World} {base base' : Nat} {v : Value} {l : List Int} (h : Own k e w base v l) (hb : base' ≤ base) : Own k e w base' v l := by
 refine ⟨⟨h.row.1, ?_⟩, h.rng⟩
 rcases h.row.2 with hn | ⟨g, cap, cur, hv, hg, rest⟩
 ·exact .inl hn
 ·exact .inr ⟨g, cap, cur, hv, by omega, rest⟩
theorem rw_bds {l : List Int} (hl : ∀ x, x ∈ l → 0 ≤ x ∧ x ≤ 255) (h : getE l = 0) : (0 ≤ (hdIf l 0).src ∧ (hdIf l 0).src ≤ 4294967295) ∧ (0 ≤ (hdIf l 0).dst ∧ (hdIf l 0).dst ≤ 4294967295) := by
 have h20 : 20 ≤ l.length := by
  rcases Nat.lt_or_ge l.length 20 with hh | hh
  ·exfalso
   unfold getE shapeE at h
   rw [if_pos hh] at h
   simp at h
  ·exact hh
 unfold hdIf
 rw [if_pos rfl]
 exact ⟨n4_bd hl (by omega), n4_bd hl (by omega)⟩
def ChgR (w : World) (E : Int) (L : List Int) (e : Ending) (w' : World) : Prop :=
 (∃ v, e = .returned (.tuple #[v, .int .i64 E]) ∧ (E = 0 → Own .u8 5 w' w.heap.size v L) ∧ (E ≠ 0 → v = .slice none 0 0)) ∧ Below w.heap.size w w'
section
variable (out : Bool) (l : List Int) (A : Option Addr) (len c B : Nat) (addr port : Int) (w : World) (hr : Rd .u8 w B A len l) (hB : B ≤ w.heap.size) (hlc : len ≤ c) (hcm : c ≤ 9223372036854775807) (hl : len ≤ 60000)
include hr hB hlc hcm hl
theorem change_head (hE : getE l ≠ 0) :
  Calls Tryz.prog 78 (A23 A len c out addr port) w (ChgR w (getE l) []) := by
 have hget := fun W (h : Below w.heap.size w W) => Get_any l _ len c w.heap.size W ((hr.more hB).below h) h.size hlc hcm (by omega)
 have hz : hdIf l (getE l) = Hd.z := by unfold hdIf; rw [if_neg hE]
 rw [hz] at hget
 simp only [Hd.z, Hd.val] at hget
 clear hz
 have d1 : (getE l != 0) = true := by simpa using hE
 generalize getE l = E at *
 replace hget := Lib.hid hget
 replace hE := Lib.hid hE
 go_enter Tryz.func78, Tryz.ntmps78
 go_wp2_with fail
 refine (hget.out _ (Below.refl _ _)).mono ?_
 rintro e w1 ⟨rfl, hb1⟩
 go_wp2_with (refine wpList_stRow rfl rfl rfl rfl rfl (Blk.new w1 _ _) rwhd_size rfl (by simp [Value.oneCell']) ?_)
 go_ret2
 exact ⟨⟨_, rfl, fun h => absurd h hE.out, fun _ => rfl⟩, below_setRow (hb1.alloc hb1.size _) hb1.size _⟩
theorem change_part (hE : getE l = 0) (hE2 : (getR (hdIf l 0) l).1 ≠ 0) :
  Calls Tryz.prog 78 (A23 A len c out addr port) w (ChgR w (getR (hdIf l 0) l).1 []) := by
 have hb := rw_bds (fun x hx => inr_u8 (hr.rng x hx)) hE
 have hget := fun W (h : Below w.heap.size w W) => Get_any l _ len c w.heap.size W ((hr.more hB).below h) h.size hlc hcm (by omega)
 have hpg := fun W (h : Below w.heap.size w W) => PGet_any (hdIf l 0) l _ len c w.heap.size W ((hr.more hB).below h) h.size hlc hcm (by omega) hb.1 hb.2
 rw [hE] at hget
 clear hb hE
 generalize getR (hdIf l 0) l = R at *
 generalize hdIf l 0 = H at *
 obtain ⟨h0, h1, h2, h3, h4, h5⟩ := H
 obtain ⟨E, ⟨pr, sr, ds, fl, ki, co, er, ⟨i0, i1, i2, i3, i4, i5⟩, pa, ba⟩⟩ := R
 simp only [Hd.val, Tells, Pt.val] at hget hpg
 replace hget := Lib.hid hget
 replace hpg := Lib.hid hpg
 simp only at hE2 ⊢
 have hE3 : (E != 0) = true := by simpa using hE2
 replace hE2 := Lib.hid hE2
 go_enter Tryz.func78, Tryz.ntmps78
 go_wp2_with fail
 refine (hget.out _ (Below.refl _ _)).mono ?_
 rintro e w1 ⟨rfl, hb1⟩
 have bel := hb1
 clear hb1 hget
 have bh := (Blk.new w1 105 Z1).setRow (A6 h0 h1 h2 h3 h4 h5)
 replace bel := below_setRow (bel.alloc bel.size (.cells Z1 105)) bel.size (A6 h0 h1 h2 h3 h4 h5)
 go_wp2_with (first
  | (refine wpList_stRow rfl rfl rfl rfl rfl (Blk.new w1 _ _) rwhd_size rfl (by simp [Value.oneCell']) ?_; generalize (w1.alloc (.cells Z1 105)).setRow w1.heap.size (A6 h0 h1 h2 h3 h4 h5) = W1 at *; generalize w1.heap.size = g6 at *)
  | (refine wpList_ldRow rfl rfl rfl bh Tryz.underlying105 rwhd_size ?_))
 refine (hpg.out _ bel).mono ?_
 rintro e w2 ⟨rfl, hb2⟩
 replace bh := bh.bel hb2
 replace bel := bel_after bel hb2
 clear hb2 hpg
 have hhl := bh.lt
 have bp := (Blk.new w2 107 Z0).setRow (A0 pr sr ds fl ki co er i0 i1 i2 i3 i4 i5 pa ba)
 replace bh := (bh.alloc (.cells Z0 107)).setRow_far (g' := w2.heap.size) (by omega) (A0 pr sr ds fl ki co er i0 i1 i2 i3 i4 i5 pa ba)
 replace bel := below_setRow (bel.alloc bel.size (.cells Z0 107)) bel.size (A0 pr sr ds fl ki co er i0 i1 i2 i3 i4 i5 pa ba)
 go_wp2_with (refine wpList_stRow rfl rfl rfl rfl rfl (Blk.new w2 _ _) pt_size rfl (by simp [Value.oneCell']) ?_)
 go_ret2
 exact ⟨⟨_, rfl, fun h => absurd h hE2.out, fun _ => rfl⟩, bel⟩
end
structure ChS (w W : World) (gw g n c gh gp : Nat) (out : Bool) (X : List Int) (hv pv : Array Value) : Prop where
 wr : Wr W w.heap.size gw g n c out X
 bh : Blk W gh 105 hv
 bp : Blk W gp 107 pv
 bel : Below w.heap.size w W
 ne : gh ≠ g ∧ gp ≠ g
theorem ChS.step {w W w' : World} {gw g n c gh gp : Nat} {out : Bool} {X Y : List Int} {hv pv : Array Value} (h : ChS w W gw g n c gh gp out X hv pv) (h1 : Wr w' w.heap.size gw g n c out Y) (h2 : Upd (fun k => k = g) W w') : ChS w w' gw g n c gh gp out Y hv pv :=
 ⟨h1, h.bh.upd h2 h.ne.1, h.bp.upd h2 h.ne.2, h.bel.trans (h2.below (B := w.heap.size) h.bel.size (fun k hk e => by have := h1.2.2.2.1; omega)), h.ne⟩
section
variable (out : Bool) (l : List Int) (A : Option Addr) (len c B : Nat) (addr port : Int) (w : World) (hr : Rd .u8 w B A len l) (hB : B ≤ w.heap.size) (hlc : len ≤ c) (hcm : c ≤ 9223372036854775807) (hl : len ≤ 60000)
 (sz m : Nat) (h2 h3 h4 h5 : Int) (ha : 0 ≤ addr ∧ addr ≤ 4294967295) (hport : 0 ≤ port ∧ port ≤ 65535) (Y : List Int)
include hr hB hlc hcm hl
theorem change_ok (pr sr ds fl ki co i0 i1 i2 i3 i4 i5 pa : Int) (er ba : Bool) (hE : getE l = 0) (hH : hdIf l 0 = ⟨sz, m, h2, h3, h4, h5⟩) (hR : getR (hdIf l 0) l = (0, ⟨pr, sr, ds, fl, ki, co, er, ⟨i0, i1, i2, i3, i4, i5⟩, pa, ba⟩)) (hm : m ≤ len) (hm2 : m ≤ 1500) (hsz : 20 ≤ sz) (hszm : sz + 8 ≤ m)
  (herr : er = true → ∃ isz pat : Nat, i0 = isz ∧ pa = pat ∧ pat + isz + 8 ≤ m ∧ 20 ≤ isz ∧ sz + 8 ≤ pat + isz) (hY : Hid (chgW (l.take m) ⟨sz, m, h2, h3, h4, h5⟩ ⟨pr, sr, ds, fl, ki, co, er, ⟨i0, i1, i2, i3, i4, i5⟩, pa, ba⟩ out addr port = Y)) (ha : 0 ≤ addr ∧ addr ≤ 4294967295) (hport : 0 ≤ port ∧ port ≤ 65535) :
  Calls Tryz.prog 78 (A23 A len c out addr port) w (ChgR w 0 Y) := by
 obtain ⟨b, o, rfl, _, _⟩ := hr.cel (by omega)
 have hb := rw_bds (fun x hx => inr_u8 (hr.rng x hx)) hE
 have hget := fun W (h : Below w.heap.size w W) => Get_any l _ len c w.heap.size W ((hr.more hB).below h) h.size hlc hcm (by omega)
 have hpg := fun W (h : Below w.heap.size w W) => PGet_any (hdIf l 0) l _ len c w.heap.size W ((hr.more hB).below h) h.size hlc hcm (by omega) hb.1 hb.2
 rw [hE] at hget
 rw [hR] at hpg
 rw [hH] at hget hpg
 clear hb hE hH hR
 simp only [Hd.val, Tells, Pt.val] at hget hpg
 have hcl := fun W (h : Below w.heap.size w W) => Clone_any (l.take m) b o m c w.heap.size W (((hr.take hm).more hB).below h) h.size (by omega)
 have hXm : Hid ((l.take m).length = m) := Lib.hid (by rw [List.length_take, hr.len]; omega)
 have hl8 : ∀ x, x ∈ l.take m → 0 ≤ x ∧ x ≤ 255 := fun x hx => inr_u8 (hr.rng x (List.mem_of_mem_take hx))
 clear hr
 generalize l.take m = X at *
 have hadr := fun gw g c1 W' (h : Wr W' w.heap.size gw g m c1 out X) => waddr_any w.heap.size gw g m c1 out X 0 out addr W' h (by omega) ha
 have hb := addrAt_bd 0 out
 have ho := n4_bd hl8 (i := addrAt 0 out) (by rw [hXm.out]; omega)
 unfold chgW at hY
 simp only [] at hY
 generalize addrL X 0 out addr = X1 at *
 generalize n4 X (addrAt 0 out) = old at *
 clear hl8 hb
 replace hget := Lib.hid hget
 replace hpg := Lib.hid hpg
 replace hcl := Lib.hid hcl
 replace hadr := Lib.hid hadr
 cases er with
 | true =>
  obtain ⟨isz, pat, rfl, rfl, e1, e2, e3⟩ := herr rfl
  have hin := fun gw g c1 W' (h : Wr W' w.heap.size gw g m c1 out X1) (hc1 : m ≤ c1) (hc2 : c1 ≤ 9223372036854775807) => winner_any w.heap.size gw g m c1 out X1 pat isz sz pr sr ds fl ki co i1 i2 i3 i4 i5 true ba addr port W' h (by omega) e2 hsz e3 (by omega) hc1 hc2 ha hport
  simp only [if_true, Int.toNat_natCast] at hY
  replace hin := Lib.hid hin
  clear herr
  have h1m : (0 : Int) ≤ (m : Int) := by omega
  have h2m : (m : Int) ≤ (c : Int) := by omega
  have h3m : m ≤ c := by omega
  go_enter Tryz.func78, Tryz.ntmps78
  go_wp2_with fail
  refine (hget.out _ (Below.refl _ _)).mono ?_
  rintro e w1 ⟨rfl, hb1⟩
  have bel := hb1
  clear hb1 hget
  have bh := (Blk.new w1 105 Z1).setRow (A6 sz m h2 h3 h4 h5)
  replace bel := below_setRow (bel.alloc bel.size (.cells Z1 105)) bel.size (A6 sz m h2 h3 h4 h5)
  go_wp2_with (first
   | (refine wpList_stRow rfl rfl rfl rfl rfl (Blk.new w1 _ _) rwhd_size rfl (by simp [Value.oneCell']) ?_; generalize (w1.alloc (.cells Z1 105)).setRow w1.heap.size (A6 sz m h2 h3 h4 h5) = W1 at *; generalize w1.heap.size = g6 at *)
   | (refine wpList_ldRow rfl rfl rfl bh Tryz.underlying105 rwhd_size ?_))
  refine (hpg.out _ bel).mono ?_
  rintro e w2 ⟨rfl, hb2⟩
  replace bh := bh.bel hb2
  replace bel := bel_after bel hb2
  clear hb2 hpg
  have hhl := bh.lt
  have bp := (Blk.new w2 107 Z0).setRow (A0 pr sr ds fl ki co true isz i1 i2 i3 i4 i5 pat ba)
  replace bh := (bh.alloc (.cells Z0 107)).setRow_far (g' := w2.heap.size) (by omega) (A0 pr sr ds fl ki co true isz i1 i2 i3 i4 i5 pat ba)
  replace bel := below_setRow (bel.alloc bel.size (.cells Z0 107)) bel.size (A0 pr sr ds fl ki co true isz i1 i2 i3 i4 i5 pat ba)
  have q1 := bh.cell 1
  have hgl2 := bp.lt
  go_wp2_with (refine wpList_stRow rfl rfl rfl rfl rfl (Blk.new w2 _ _) pt_size rfl (by simp [Value.oneCell']) ?_; generalize (w2.alloc (.cells Z0 107)).setRow w2.heap.size (A0 pr sr ds fl ki co true isz i1 i2 i3 i4 i5 pat ba) = W2 at *; generalize w2.heap.size = g8 at *)
  refine (hcl.out _ bel).mono ?_
  rintro e w3 ⟨v3, rfl, own3, hb3⟩
  replace own3 := own3.lower bel.size
  replace bh := bh.bel hb3
  replace bp := bp.bel hb3
  replace bel := bel_after bel hb3
  have hgl := bh.lt
  clear hb3 hcl q1
  obtain ⟨g, c1, rfl, hc1, hc2, hg1, hg2⟩ := own3.formG hXm.out (by omega)
  unfold maxLen at hc2
  have hne1 := own3.ne bh (by decide)
  have hne2 := own3.ne bp (by decide)
  have hs : ChS w (w3.alloc (.cells #[.slice (some ⟨g, 0, none⟩) m c1, .bool out] 169)) w3.heap.size g m c1 g6 g8 out X (A6 sz m h2 h3 h4 h5) (A0 pr sr ds fl ki co true isz i1 i2 i3 i4 i5 pat ba) :=
   ⟨⟨Blk.new _ _ _, own3.alloc _, hXm.out, hg1, by omega⟩, bh.alloc _, bp.alloc _, bel.alloc bel.size _, hne1, hne2⟩
  clear bh bp bel own3 hne1 hne2 hgl hhl hgl2 h1m h2m h3m
  go_upto_region 8 with fail
  generalize w3.alloc (.cells #[.slice (some ⟨g, 0, none⟩) m c1, .bool out] 169) = W3 at *
  generalize w3.heap.size = gw at *
  go_wp2_with fail
  refine (hadr.out _ _ _ _ hs.wr).mono ?_
  rintro e w4 ⟨rfl, h4', u4⟩
  replace hs := hs.step h4' u4
  clear h4' u4 hadr
  have q0 := hs.bh.cell 0
  have p0 := hs.bp.cell 0
  have p6 := hs.bp.cell 6
  go_wp2_with (refine wpList_ldRow rfl rfl rfl hs.bp Tryz.underlying107 pt_size ?_)
  refine (hin.out _ _ _ _ hs.wr hc1 hc2).mono ?_
  rintro e w5 ⟨rfl, h5', u5⟩
  replace hs := hs.step h5' u5
  have r0 := hs.wr.1.cell 0
  have hown := hs.wr.2.1
  have hbel := hs.bel
  clear q0 p0 p6 h5' u5
  go_wp2
  go_ret2
  exact ⟨⟨_, rfl, fun _ => hY.out ▸ hown, fun h => absurd rfl h⟩, hbel⟩
 | false =>
  clear herr
  simp only [Bool.false_eq_true, if_false, Int.toNat_natCast] at hY
  by_cases h1 : pr = 1
  ·subst h1
   have hin := fun gw g c1 W' (h : Wr W' w.heap.size gw g m c1 out X1) => wecho_any w.heap.size gw g m c1 out X1 sz port W' h (by omega) hport
   simp only [if_true] at hY
   replace hin := Lib.hid hin
   have h1m : (0 : Int) ≤ (m : Int) := by omega
   have h2m : (m : Int) ≤ (c : Int) := by omega
   have h3m : m ≤ c := by omega
   go_enter Tryz.func78, Tryz.ntmps78
   go_wp2_with fail
   refine (hget.out _ (Below.refl _ _)).mono ?_
   rintro e w1 ⟨rfl, hb1⟩
   have bel := hb1
   clear hb1 hget
   have bh := (Blk.new w1 105 Z1).setRow (A6 sz m h2 h3 h4 h5)
   replace bel := below_setRow (bel.alloc bel.size (.cells Z1 105)) bel.size (A6 sz m h2 h3 h4 h5)
   go_wp2_with (first
    | (refine wpList_stRow rfl rfl rfl rfl rfl (Blk.new w1 _ _) rwhd_size rfl (by simp [Value.oneCell']) ?_; generalize (w1.alloc (.cells Z1 105)).setRow w1.heap.size (A6 sz m h2 h3 h4 h5) = W1 at *; generalize w1.heap.size = g6 at *)
    | (refine wpList_ldRow rfl rfl rfl bh Tryz.underlying105 rwhd_size ?_))
   refine (hpg.out _ bel).mono ?_
   rintro e w2 ⟨rfl, hb2⟩
   replace bh := bh.bel hb2
   replace bel := bel_after bel hb2
   clear hb2 hpg
   have hhl := bh.lt
   have bp := (Blk.new w2 107 Z0).setRow (A0 1 sr ds fl ki co false i0 i1 i2 i3 i4 i5 pa ba)
   replace bh := (bh.alloc (.cells Z0 107)).setRow_far (g' := w2.heap.size) (by omega) (A0 1 sr ds fl ki co false i0 i1 i2 i3 i4 i5 pa ba)
   replace bel := below_setRow (bel.alloc bel.size (.cells Z0 107)) bel.size (A0 1 sr ds fl ki co false i0 i1 i2 i3 i4 i5 pa ba)
   have q1 := bh.cell 1
   have hgl2 := bp.lt
   go_wp2_with (refine wpList_stRow rfl rfl rfl rfl rfl (Blk.new w2 _ _) pt_size rfl (by simp [Value.oneCell']) ?_; generalize (w2.alloc (.cells Z0 107)).setRow w2.heap.size (A0 1 sr ds fl ki co false i0 i1 i2 i3 i4 i5 pa ba) = W2 at *; generalize w2.heap.size = g8 at *)
   refine (hcl.out _ bel).mono ?_
   rintro e w3 ⟨v3, rfl, own3, hb3⟩
   replace own3 := own3.lower bel.size
   replace bh := bh.bel hb3
   replace bp := bp.bel hb3
   replace bel := bel_after bel hb3
   have hgl := bh.lt
   clear hb3 hcl q1
   obtain ⟨g, c1, rfl, hc1, hc2, hg1, hg2⟩ := own3.formG hXm.out (by omega)
   unfold maxLen at hc2
   have hne1 := own3.ne bh (by decide)
   have hne2 := own3.ne bp (by decide)
   have hs : ChS w (w3.alloc (.cells #[.slice (some ⟨g, 0, none⟩) m c1, .bool out] 169)) w3.heap.size g m c1 g6 g8 out X (A6 sz m h2 h3 h4 h5) (A0 1 sr ds fl ki co false i0 i1 i2 i3 i4 i5 pa ba) :=
    ⟨⟨Blk.new _ _ _, own3.alloc _, hXm.out, hg1, by omega⟩, bh.alloc _, bp.alloc _, bel.alloc bel.size _, hne1, hne2⟩
   clear bh bp bel own3 hne1 hne2 hgl hhl hgl2 h1m h2m h3m
   go_upto_region 8 with fail
   generalize w3.alloc (.cells #[.slice (some ⟨g, 0, none⟩) m c1, .bool out] 169) = W3 at *
   generalize w3.heap.size = gw at *
   go_wp2_with fail
   refine (hadr.out _ _ _ _ hs.wr).mono ?_
   rintro e w4 ⟨rfl, h4', u4⟩
   replace hs := hs.step h4' u4
   clear h4' u4 hadr
   have q0 := hs.bh.cell 0
   have p0 := hs.bp.cell 0
   have p6 := hs.bp.cell 6
   go_wp2_with fail
   refine (hin.out _ _ _ _ hs.wr).mono ?_
   rintro e w5 ⟨rfl, h5', u5⟩
   replace hs := hs.step h5' u5
   have r0 := hs.wr.1.cell 0
   have hown := hs.wr.2.1
   have hbel := hs.bel
   clear q0 p0 p6 h5' u5
   go_wp2
   go_ret2
   exact ⟨⟨_, rfl, fun _ => hY.out ▸ hown, fun h => absurd rfl h⟩, hbel⟩
  ·rw [if_neg h1] at hY
   have d1 : (pr == 1) = false := by simpa using h1
   have hin := fun gw g c1 W' (h : Wr W' w.heap.size gw g m c1 out X1) => wcar_any w.heap.size gw g m c1 out X1 sz pr out port old addr W' h (by omega) hport ho ha (by omega)
   replace hin := Lib.hid hin
   replace h1 := Lib.hid h1
   have h1m : (0 : Int) ≤ (m : Int) := by omega
   have h2m : (m : Int) ≤ (c : Int) := by omega
   have h3m : m ≤ c := by omega
   go_enter Tryz.func78, Tryz.ntmps78
   go_wp2_with fail
   refine (hget.out _ (Below.refl _ _)).mono ?_
   rintro e w1 ⟨rfl, hb1⟩
   have bel := hb1
   clear hb1 hget
   have bh := (Blk.new w1 105 Z1).setRow (A6 sz m h2 h3 h4 h5)
   replace bel := below_setRow (bel.alloc bel.size (.cells Z1 105)) bel.size (A6 sz m h2 h3 h4 h5)
   go_wp2_with (first
    | (refine wpList_stRow rfl rfl rfl rfl rfl (Blk.new w1 _ _) rwhd_size rfl (by simp [Value.oneCell']) ?_; generalize (w1.alloc (.cells Z1 105)).setRow w1.heap.size (A6 sz m h2 h3 h4 h5) = W1 at *; generalize w1.heap.size = g6 at *)
    | (refine wpList_ldRow rfl rfl rfl bh Tryz.underlying105 rwhd_size ?_))
   refine (hpg.out _ bel).mono ?_
   rintro e w2 ⟨rfl, hb2⟩
   replace bh := bh.bel hb2
   replace bel := bel_after bel hb2
   clear hb2 hpg
   have hhl := bh.lt
   have bp := (Blk.new w2 107 Z0).setRow (A0 pr sr ds fl ki co false i0 i1 i2 i3 i4 i5 pa ba)
   replace bh := (bh.alloc (.cells Z0 107)).setRow_far (g' := w2.heap.size) (by omega) (A0 pr sr ds fl ki co false i0 i1 i2 i3 i4 i5 pa ba)
   replace bel := below_setRow (bel.alloc bel.size (.cells Z0 107)) bel.size (A0 pr sr ds fl ki co false i0 i1 i2 i3 i4 i5 pa ba)
   have q1 := bh.cell 1
   have hgl2 := bp.lt
   go_wp2_with (refine wpList_stRow rfl rfl rfl rfl rfl (Blk.new w2 _ _) pt_size rfl (by simp [Value.oneCell']) ?_; generalize (w2.alloc (.cells Z0 107)).setRow w2.heap.size (A0 pr sr ds fl ki co false i0 i1 i2 i3 i4 i5 pa ba) = W2 at *; generalize w2.heap.size = g8 at *)
   refine (hcl.out _ bel).mono ?_
   rintro e w3 ⟨v3, rfl, own3, hb3⟩
   replace own3 := own3.lower bel.size
   replace bh := bh.bel hb3
   replace bp := bp.bel hb3
   replace bel := bel_after bel hb3
   have hgl := bh.lt
   clear hb3 hcl q1
   obtain ⟨g, c1, rfl, hc1, hc2, hg1, hg2⟩ := own3.formG hXm.out (by omega)
   unfold maxLen at hc2
   have hne1 := own3.ne bh (by decide)
   have hne2 := own3.ne bp (by decide)
   have hs : ChS w (w3.alloc (.cells #[.slice (some ⟨g, 0, none⟩) m c1, .bool out] 169)) w3.heap.size g m c1 g6 g8 out X (A6 sz m h2 h3 h4 h5) (A0 pr sr ds fl ki co false i0 i1 i2 i3 i4 i5 pa ba) :=
    ⟨⟨Blk.new _ _ _, own3.alloc _, hXm.out, hg1, by omega⟩, bh.alloc _, bp.alloc _, bel.alloc bel.size _, hne1, hne2⟩
   clear bh bp bel own3 hne1 hne2 hgl hhl hgl2 h1m h2m h3m
   go_upto_region 8 with fail
   generalize w3.alloc (.cells #[.slice (some ⟨g, 0, none⟩) m c1, .bool out] 169) = W3 at *
   generalize w3.heap.size = gw at *
   go_wp2_with fail
   refine (hadr.out _ _ _ _ hs.wr).mono ?_
   rintro e w4 ⟨rfl, h4', u4⟩
   replace hs := hs.step h4' u4
   clear h4' u4 hadr
   have q0 := hs.bh.cell 0
   have p0 := hs.bp.cell 0
   have p6 := hs.bp.cell 6
   go_wp2_with fail
   refine (hin.out _ _ _ _ hs.wr).mono ?_
   rintro e w5 ⟨rfl, h5', u5⟩
   replace hs := hs.step h5' u5
   have r0 := hs.wr.1.cell 0
   have hown := hs.wr.2.1
   have hbel := hs.bel
   clear q0 p0 p6 h5' u5
   go_wp2
   go_ret2
   exact ⟨⟨_, rfl, fun _ => hY.out ▸ hown, fun h => absurd rfl h⟩, hbel⟩
end
variable {α : Type} {P : Program} {cs : α → List Value} {sz : Nat}
theorem wp_appT (hs : ∀ x, (cs x).length = sz) (h1c : ∀ x, ∀ u ∈ cs x, u.oneCell' = true) (hsz : 0 < sz) {o : Oper} {a : Act} {K : Act → World → Prop} {Q : Exit → Act → World → Prop} (w : World) (s x : Operand) (t : TypeId)
  (ho : o.op = .call { callee := .builtin .append, args := #[s, x], argTypes := #[t, t] })
  (base : Nat) (e : TypeId) (i : TypeInfo) (z : Value) (bytes : Nat) (ht : P.underlying t = some (.slice e)) (hi : P.info? e = some i) (hz : i.zero = some z)
  (hsize : i.size = sz) (hby : i.bytes = bytes) (hzs : z.cells.size = sz) (v : Value) (hsv : a.eval s = v) (l : List α) (hown : OwnT cs sz e w base v l)
  (B : Nat) (A : Option Addr) (m c : Nat) (hx : a.eval x = .slice A m c) (l2 : List α) (hr : RdT cs sz w B A m l2) (hlen : (l.length + m) * bytes ≤ 140737488355328) (hbp : 0 < bytes) (hbase : base ≤ w.heap.size)
  (h : ∀ v' w', OwnT cs sz e w' base v' (l ++ l2) → w.grownBy w' v.ownBlock → (v'.ownBlock = v.ownBlock ∨ v'.ownBlock = some w.heap.size) → K (a.put o.dst v') w') : o.wp P a w K Q := by
 obtain ⟨v', w', hrun, h2, h3, h4⟩ := run_appT (P := P) hs h1c hsz w base t o.type e i z bytes ht hi hz hsize hby hzs v l hown B A m c l2 hr hlen hbp hbase
 unfold Oper.wp execOp
 simp only [ho, resolve, invoke, builtin, Sem.run_bind, Sem.run_pure, Result.andThen_ok, List.map_toArray, List.map_cons, List.map_nil, hsv, hx, hrun]
 exact h v' w' h2 h3 h4
section
variable {P : Program} {ops : Array Oper} {Q : Exit → Act → World → Prop} {S : World → Prop}
def waitsT (ops : Array Oper) : Nat → Nat → Nat → Bool
 | 0, _, _ => false
 | f + 1, j, i => match ops[j]? with | some o => o.after.any fun e => Region.binds .any e && (e.on == i || waitsT ops f e.on i) | none => false
def DC (ops : Array Oper) (L : Array Bool) : Prop := ∀ j o, ops[j]? = some o → L.getD j false = true → ∀ e ∈ o.after, Region.binds .any e = true → L.getD e.on false = true
theorem DC.start (n : Nat) : DC ops (Array.replicate n false) := fun j o _ h => by
 rw [getD_replicate_false] at h; cases h
theorem DC.set {L : Array Bool} (h : DC ops L) {i : Nat} (hi : i ∈ Region.ready .any ops L) : DC ops (L.setIfInBounds i true) := by
 obtain ⟨_, o, ho, hall⟩ := mem_ready.1 hi
 have keep : ∀ k, L.getD k false = true → (L.setIfInBounds i true).getD k false = true := fun k hk => by
  by_cases hik : i = k
  ·subst hik
   rw [Array.getD_eq_getD_getElem?] at hk ⊢
   rw [Array.getElem?_setIfInBounds_self]
   split
   ·rfl
   ·rename_i hlt
    rw [Array.getElem?_eq_none (by omega)] at hk; simp at hk
  ·rw [getD_set_ne false hik]; exact hk
 intro j oj hoj hj e he hb
 by_cases hij : i = j
 ·subst hij
  rw [ho] at hoj
  injection hoj with hoj
  subst hoj
  exact keep _ (hall e he hb)
 ·rw [getD_set_ne false hij] at hj
  exact keep _ (h j oj hoj hj e he hb)
theorem waits_listed {L : Array Bool} (h : DC ops L) {i : Nat} : ∀ (f j : Nat), waitsT ops f j i = true → (∃ o, ops[j]? = some o ∧ ∀ e ∈ o.after, Region.binds .any e = true → L.getD e.on false = true) → L.getD i false = true
 | 0, _, hw, _ => by simp [waitsT] at hw
 | f + 1, j, hw, ⟨o, ho, hall⟩ => by
  simp only [waitsT, ho, Array.any_eq_true, Bool.and_eq_true, Bool.or_eq_true] at hw
  obtain ⟨k, hk, hb, hw⟩ := hw
  have hl := hall _ (Array.getElem_mem hk) hb
  rcases hw with hw | hw
  ·rw [beq_iff_eq] at hw; rw [← hw]; exact hl
  ·cases ho2 : ops[o.after[k].on]? with
   | none =>
    cases f with
    | zero => simp [waitsT] at hw
    | succ f => simp [waitsT, ho2] at hw
   | some o2 => exact waits_listed h f _ hw ⟨o2, ho2, fun e he hb2 => h _ o2 ho2 hl e he hb2⟩
def wpAnyG (P : Program) (ops : Array Oper) (Q : Exit → Act → World → Prop) (S : World → Prop) (late : List Nat) : Nat → Array Bool → Act → World → Prop
 | 0, listed, a, w => Region.ready .any ops listed = [] ∧ Q .normal a w
 | fuel + 1, listed, a, w =>
  (Region.ready .any ops listed = [] → Q .normal a w) ∧
  ∀ i ∈ Region.ready .any ops listed, wpOp P ops Q i (fun a' w' => (late.contains i = false → S w') ∧ wpAnyG P ops Q S late fuel (listed.setIfInBounds i true) a' w') a w
variable {late : List Nat}
theorem wpAny_of_G : ∀ (fuel : Nat) (listed : Array Bool) (a : Act) (w : World), wpAnyG P ops Q S late fuel listed a w → wpAny P .any ops Q fuel listed a w
 | 0, _, _, _, h => h
 | fuel + 1, _, _, _, h => ⟨h.1, fun i hi => wpOp_mono (fun a' w' h' => wpAny_of_G fuel _ a' w' h'.2) (h.2 i hi)⟩
theorem wpAnyG_first {i : Nat} {oi : Oper} {v : Value} (hi : ops[i]? = some oi) (hsel : ∀ (j : Nat) (o : Oper) cs b, ops[j]? = some o → o.op ≠ .select cs b)
  (hQ : ∀ c a w, Q (.panic c) (a.put oi.dst v) w → Q (.panic c) a w) (hlate : ∀ j, late.contains j = true → ∃ f, waitsT ops f j i = true) :
  ∀ (fuel : Nat) (listed : Array Bool) (a : Act) (w : World), DC ops listed →
   (∀ j oj, ops[j]? = some oj → j ≠ i → listed.getD j true = false → (∀ e ∈ oj.after, Region.binds .any e = true → e.on ≠ i) → oi.apart ops oj = true) →
   i ∈ Region.ready .any ops listed → YieldsIf P ops S oi v a → S w →
   wpAnyG P ops Q S late fuel (listed.setIfInBounds i true) (a.put oi.dst v) w → wpAnyG P ops Q S late (fuel + 1) listed a w := by
 intro fuel
 induction fuel with
 | zero =>
  intro listed a w hdc hfree hr hy hS H
  refine ⟨fun h => (by rw [h] at hr; cases hr), fun j hj => ?_⟩
  by_cases hji : j = i
  ·subst hji; exact hy.wpOp hi hS ⟨fun _ => hS, H⟩
  ·have := ready_mono hj hji
   rw [H.1] at this
   cases this
 | succ fuel ih =>
  intro listed a w hdc hfree hr hy hS H
  refine ⟨fun h => (by rw [h] at hr; cases hr), fun j hj => ?_⟩
  by_cases hji : j = i
  ·subst hji; exact hy.wpOp hi hS ⟨fun _ => hS, H⟩
  ·have h1 := H.2 j (ready_mono hj hji)
   obtain ⟨hjun, oj, hoj, hall⟩ := mem_ready.1 hj
   have hiun := (mem_ready.1 hr).1
   have hif : listed.getD i false = false := getD_both hiun
   have hnl : late.contains j = false := by
    cases hc : late.contains j with
    | false => rfl
    | true =>
     obtain ⟨f, hw⟩ := hlate j hc
     have := waits_listed hdc f j hw ⟨oj, hoj, hall⟩
     rw [hif] at this; cases this
   have hnot : ∀ e ∈ oj.after, Region.binds .any e = true → e.on ≠ i := fun e he hb heq => by
    have h1 := hall e he hb
    rw [heq, hif] at h1; cases h1
   have h2 := wpOp_putIf hoj (hfree j oj hoj hji hjun hnot) (fun cs b => hsel i oi cs b hi) (fun cs b => hsel j oj cs b hoj) hQ hy h1
   have hfree' : ∀ k ok, ops[k]? = some ok → k ≠ i → (listed.setIfInBounds j true).getD k true = false →
     (∀ e ∈ ok.after, Region.binds .any e = true → e.on ≠ i) → oi.apart ops ok = true := fun k ok hk hki hun hno => by
    refine hfree k ok hk hki ?_ hno
    by_cases hjk : j = k
    ·subst hjk; exact hjun
    ·rw [getD_set_ne true hjk] at hun; exact hun
   refine wpOp_mono (fun a' w' h3 => ⟨h3.2.1, ih (listed.setIfInBounds j true) a' w' (hdc.set hj) hfree' (ready_mono hr (Ne.symm hji)) h3.1 (h3.2.1 hnl) ?_⟩) h2
   rw [Array.setIfInBounds_comm _ _ hji]
   exact h3.2.2
def wpPt (P : Program) (ops : Array Oper) (Q : Exit → Act → World → Prop) : List Nat → Act → World → Prop
 | [], a, w => Q .normal a w
 | i :: r, a, w => ∀ o, ops[i]? = some o → ∀ K : Act → World → Prop, (∀ a' w', wpPt P ops Q r a' w' → K a' w') → Region.wanted o (yielded ops a.tmps) = true ∧ o.wp P a w K Q
def tailB (ops : Array Oper) : List Nat → Array Bool → Bool
 | [], L => (Region.ready .any ops L).isEmpty
 | i :: r, L => decide (Region.ready .any ops L = [i]) && tailB ops r (L.setIfInBounds i true)
theorem wpAnyG_tail : ∀ (l : List Nat) (listed : Array Bool) (a : Act) (w : World), (∀ i ∈ l, late.contains i = true) → tailB ops l listed = true → wpPt P ops Q l a w → ∀ fuel, l.length ≤ fuel → wpAnyG P ops Q S late fuel listed a w
 | [], listed, a, w, _, hB, h, 0, _ => ⟨by simpa [tailB] using hB, h⟩
 | [], listed, a, w, _, hB, h, fuel + 1, _ => ⟨fun _ => h, fun i hi => absurd hi (by rw [show Region.ready .any ops listed = [] by simpa [tailB] using hB]; simp)⟩
 | i :: r, listed, a, w, _, hB, h, 0, hf => by simp at hf
 | i :: r, listed, a, w, hl, hB, h, fuel + 1, hf => by
  simp only [tailB, Bool.and_eq_true, decide_eq_true_eq] at hB
  refine ⟨fun h0 => (by rw [h0] at hB; simp at hB), fun j hj => ?_⟩
  rw [hB.1] at hj
  obtain rfl : j = i := by simpa using hj
  have hm : j ∈ Region.ready .any ops listed := by rw [hB.1]; simp
  obtain ⟨_, o, ho, _⟩ := mem_ready.1 hm
  obtain ⟨hw, hx⟩ := h o ho (fun a' w' => (late.contains j = false → S w') ∧ wpAnyG P ops Q S late fuel (listed.setIfInBounds j true) a' w') (fun a' w' hr => ⟨fun hc => (by rw [hl j (by simp)] at hc; cases hc), wpAnyG_tail r _ a' w' (fun i hi => hl i (by simp [hi])) hB.2 hr fuel (by simpa using hf)⟩)
  unfold wpOp
  simp only [ho]
  rw [if_pos hw]
  exact .inl hx
def planT (ops : Array Oper) (tl : List Nat) : List (Nat × Bool) → Array Bool → Bool
 | [], listed => tailB ops tl listed
 | (i, true) :: r, listed => (match ops[i]? with | some o => isV o.op | none => false) && (Region.ready .any ops listed).contains i && Region.free .any ops listed i && tl.all (fun j => waitsT ops ops.size j i) && planT ops tl r (listed.setIfInBounds i true)
 | (i, false) :: r, listed => decide (Region.ready .any ops listed = [i]) && !tl.contains i && planT ops tl r (listed.setIfInBounds i true)
def wpPh (P : Program) (ops : Array Oper) (Q : Exit → Act → World → Prop) (S : World → Prop) (tl : List Nat) : List (Nat × Bool) → Act → World → Prop
 | [], a, w => wpPt P ops Q tl a w
 | (i, true) :: r, a, w => ∀ o, ops[i]? = some o → ∃ v, ((Region.wanted o (yielded ops a.tmps) = true ∧ ∀ w, S w → o.quietAt P a (clsS S) w v) ∨ (Region.wanted o (yielded ops a.tmps) = false ∧ v = undef)) ∧ wpPh P ops Q S tl r (a.put o.dst v) w
 | (i, false) :: r, a, w => ∀ o, ops[i]? = some o → ∀ K : Act → World → Prop, (∀ a' w', S w' → wpPh P ops Q S tl r a' w' → K a' w') → Region.wanted o (yielded ops a.tmps) = true ∧ o.wp P a w K Q
theorem wpAnyG_of_plan {tl : List Nat} (hs : Region.noSelect ops = true) (hQ : ∀ c a w, ¬ Q (.panic c) a w) : ∀ (l : List (Nat × Bool)) (listed : Array Bool) (a : Act) (w : World), DC ops listed → S w → planT ops tl l listed = true → wpPh P ops Q S tl l a w → ∀ fuel, l.length + tl.length ≤ fuel → wpAnyG P ops Q S tl fuel listed a w
 | [], listed, a, w, _, _, hB, h, fuel, hf => wpAnyG_tail tl listed a w (fun i hi => by simpa using hi) hB h fuel (by simpa using hf)
 | (i, true) :: r, listed, a, w, hdc, hS, hB, h, 0, hf => by simp at hf
 | (i, false) :: r, listed, a, w, hdc, hS, hB, h, 0, hf => by simp at hf
 | (i, true) :: r, listed, a, w, hdc, hS, hB, h, fuel + 1, hf => by
  simp only [planT, Bool.and_eq_true] at hB
  obtain ⟨⟨⟨⟨h1, h2⟩, h3⟩, h5⟩, h4⟩ := hB
  have h2' : i ∈ Region.ready .any ops listed := by simpa using h2
  cases ho : ops[i]? with
  | none => rw [ho] at h1; cases h1
  | some o =>
   rw [ho] at h1
   obtain ⟨v, hy, hr⟩ := h o ho
   refine wpAnyG_first ho (Region.noSelect_spec hs) (fun c a w hq => absurd hq (hQ _ _ _)) (fun j hj => ⟨ops.size, by rw [List.all_eq_true] at h5; exact h5 j (by simpa using hj)⟩) fuel listed a w hdc (Region.free_spec ho h3) h2' (v := v) ?_ hS (wpAnyG_of_plan hs hQ r _ _ w (hdc.set h2') hS h4 hr fuel (by simp at hf; omega))
   rcases hy with ⟨hw, hy⟩ | hy
   ·refine .inl ⟨hw, fun w' hS' => ?_⟩
    have h5 := hy w' hS'
    unfold Oper.quietAt at h5
    cases hr : (execOp a.eval o).run P w' with
    | ok nx w2 =>
     obtain ⟨u, rfl⟩ := isV_spec h1 hr
     rw [hr] at h5
     simp only [Oper.quietUpon] at h5
     rw [h5.1, h5.2]
    | halt x w2 => rw [hr] at h5; simp only [Oper.quietUpon] at h5
   ·exact .inr hy
 | (i, false) :: r, listed, a, w, hdc, hS, hB, h, fuel + 1, hf => by
  simp only [planT, Bool.and_eq_true, decide_eq_true_eq, Bool.not_eq_true'] at hB
  obtain ⟨⟨hB1, hB3⟩, hB2⟩ := hB
  refine ⟨fun h0 => (by rw [h0] at hB1; simp at hB1), fun j hj => ?_⟩
  rw [hB1] at hj
  obtain rfl : j = i := by simpa using hj
  have hm : j ∈ Region.ready .any ops listed := by rw [hB1]; simp
  obtain ⟨_, o, ho, _⟩ := mem_ready.1 hm
  obtain ⟨hw, hx⟩ := h o ho (fun a' w' => (tl.contains j = false → S w') ∧ wpAnyG P ops Q S tl fuel (listed.setIfInBounds j true) a' w') (fun a' w' hS' hr => ⟨fun _ => hS', wpAnyG_of_plan hs hQ r _ a' w' (hdc.set hm) hS' hB2 hr fuel (by simp at hf; omega)⟩)
  unfold wpOp
  simp only [ho]
  rw [if_pos hw]
  exact .inl hx
theorem wp_region_planT {id : Nat} {a : Act} {w : World} {l : List Oper} (S : World → Prop) (pl : List (Nat × Bool)) (tl : List Nat) (hm : P.follows .mixedOrders = true) (hs : Region.noSelect l.toArray = true) (hB : planT l.toArray tl pl (Array.replicate l.length false) = true) (hl : pl.length + tl.length = l.length) (hS : S w.drew)
  (h : wpPh P l.toArray (NoPanic Q) S tl pl a w.drew) : (Code.region id l.toArray true).wp P Q a w := by
 refine wp_region_noPanic (wp_region_any hm (wpAny_of_G (S := S) (late := tl) _ _ _ _ ?_))
 have := wpAnyG_of_plan (P := P) (Q := NoPanic Q) (S := S) (tl := tl) hs (fun c a w h => h) pl (Array.replicate l.length false) a w.drew (DC.start _) hS hB h l.length (by omega)
 simpa using this
theorem wpPh_qs {tl : List Nat} : ∀ (n : Nat) (l : List (Nat × Bool)) (a : Act) (w : World), ((l.take n).all fun x => x.2) = true → ((l.take n).all fun x => (ops[x.1]?).isSome) = true → n ≤ l.length →
  wpQuiet P ops (clsS S) (fun a' => wpPh P ops Q S tl (l.drop n) a' w) ((l.take n).filterMap fun x => ops[x.1]?) a → wpPh P ops Q S tl l a w
 | 0, l, a, w, _, _, _, h => h
 | n + 1, [], a, w, _, _, hn, _ => by simp at hn
 | n + 1, (i, false) :: l, a, w, h1, _, _, _ => by simp at h1
 | n + 1, (i, true) :: l, a, w, h1, h2, hn, h => by
  simp only [List.take_succ_cons, List.all_cons, Bool.and_eq_true] at h1 h2
  intro o ho
  simp only [List.take_succ_cons, List.drop_succ_cons, List.filterMap_cons, ho, wpQuiet] at h
  by_cases hw : Region.wanted o (yielded ops a.tmps) = true
  ·rw [if_pos hw] at h
   obtain ⟨v, h3, h4⟩ := h
   exact ⟨v, .inl ⟨hw, fun w' hS => h3 w' ⟨⟨w', hS⟩, rfl⟩⟩, wpPh_qs n l _ w h1.2 h2.2 (by simpa using hn) h4⟩
  ·rw [if_neg hw] at h
   exact ⟨undef, .inr ⟨by simpa using hw, rfl⟩, wpPh_qs n l _ w h1.2 h2.2 (by simpa using hn) h⟩
theorem wpPh_e {tl : List Nat} {i : Nat} {r : List (Nat × Bool)} {a : Act} {w : World} (o : Oper) (ho : ops[i]? = some o) (hw : Region.wanted o (yielded ops a.tmps) = true)
  (h : ∀ K : Act → World → Prop, (∀ a' w', S w' → wpPh P ops Q S tl r a' w' → K a' w') → o.wp P a w K Q) : wpPh P ops Q S tl ((i, false) :: r) a w :=
 fun o' ho' K hK => by
  obtain rfl : o = o' := Option.some.inj (ho.symm.trans ho')
  exact ⟨hw, h K hK⟩
theorem wpPt_e {i : Nat} {r : List Nat} {a : Act} {w : World} (o : Oper) (ho : ops[i]? = some o) (hw : Region.wanted o (yielded ops a.tmps) = true)
  (h : ∀ K : Act → World → Prop, (∀ a' w', wpPt P ops Q r a' w' → K a' w') → o.wp P a w K Q) : wpPt P ops Q (i :: r) a w :=
 fun o' ho' K hK => by
  obtain rfl : o = o' := Option.some.inj (ho.symm.trans ho')
  exact ⟨hw, h K hK⟩
end
end Go.Proofs.YtbckoohljkmahaaGreat
