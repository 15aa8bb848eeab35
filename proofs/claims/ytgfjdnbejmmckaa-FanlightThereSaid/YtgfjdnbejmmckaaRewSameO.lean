/- The walk of law 4's same, out. (Laid by wip/tools out of RewSame.tpl.) -/
import Derived.Test.YtgfjdnbejmmckaaRewAll3
import Derived.Test.YtgfjdnbejmmckaaPart16
import Derived.Test.YtgfjdnbejmmckaaPart17
namespace Go.Proofs.Ytgfjdnbejmmckaa
set_option linter.unusedVariables false
set_option linter.unusedSimpArgs false
open Go.RowKit
theorem srhd_size : (Try.prog.info? 47).map (·.size) = some 6 := by kernel_rfl
theorem srpt_size : (Try.prog.info? 73).map (·.size) = some 15 := by kernel_rfl
set_option maxRecDepth 100000 in
set_option maxHeartbeats 8000000 in
theorem same_out (X Y : List Int) (A1 A2 : Option Addr) (n1 c1 m c2 : Nat) (w : World) (hrX : Rd .u8 w w.heap.size A1 n1 X) (hrY : Rd .u8 w w.heap.size A2 m Y) (hc1 : n1 ≤ c1) (hc1m : c1 ≤ 9223372036854775807) (hc2 : m ≤ c2) (hc2m : c2 ≤ 9223372036854775807) (hn1 : n1 ≤ 60000)
    (sz isz pat : Nat) (h2 h3 h4 h5 x4 x5 sr ds ys yd fl ki co i1 i2 i3 i4 i5 z4 z5 addr port : Int) (er ba : Bool) (hm : m ≤ n1) (hm2 : m ≤ 1500) (hsz : 20 ≤ sz ∧ sz ≤ 60) (hszm : sz + 8 ≤ m) (hisz : isz ≤ 60) (hpi : er = true → pat + isz + 8 ≤ m ∧ 28 ≤ pat) (hpat : pat ≤ 1500)
    (hE : getE X = 0) (hE2 : getE Y = 0) (hH : hdOf X = ⟨sz, m, h2, h3, h4, h5⟩) (hH2 : hdOf Y = ⟨sz, m, h2, h3, x4, x5⟩) (hR : getR (hdOf X) X = (0, ⟨h3, sr, ds, fl, ki, co, er, ⟨isz, i1, i2, i3, i4, i5⟩, pat, ba⟩)) (hR2 : getR (hdOf Y) Y = (0, ⟨h3, ys, yd, fl, ki, co, er, ⟨isz, i1, i2, i3, z4, z5⟩, pat, ba⟩))
    (hfar : ∀ k : Nat, k < m → freeF ⟨sz, m, h2, h3, h4, h5⟩ ⟨h3, sr, ds, fl, ki, co, er, ⟨isz, i1, i2, i3, i4, i5⟩, pat, ba⟩ true k = 0 → Y.getD k 0 = X.getD k 0)
    (hsum : er = true → sumOf (seg Y pat isz) % 65535 = sumOf (seg X pat isz) % 65535)
    (hx4 : true = true → addr = x4 ∧ h5 = x5) (hx5 : true = false → h4 = x4 ∧ addr = x5)
    (hp1 : er = false → h3 = 1 → port = ys ∧ port = yd) (hp2 : er = false → h3 ≠ 1 → true = true → port = ys ∧ ds = yd) (hp3 : er = false → h3 ≠ 1 → true = false → sr = ys ∧ port = yd)
    (he1 : er = true → true = true → addr = z5 ∧ i4 = z4) (he2 : er = true → true = false → addr = z4 ∧ i5 = z5)
    (he3 : er = true → i3 = 1 → port = ys ∧ port = yd) (he4 : er = true → i3 ≠ 1 → true = true → sr = ys ∧ port = yd) (he5 : er = true → i3 ≠ 1 → true = false → port = ys ∧ ds = yd) :
    Calls Try.prog 16 #[.slice A1 n1 c1, .slice A2 m c2, .bool true, .int .u32 addr, .int .u16 port] w fun e w' => e = .returned (.bool true) ∧ Below w.heap.size w w' := by
  have hb := rw_bds (fun x hx => inr_u8 (hrX.rng x hx)) hE
  have hb2 := rw_bds (fun x hx => inr_u8 (hrY.rng x hx)) hE2
  have eX : hdIf X 0 = hdOf X := rfl
  have eY : hdIf Y 0 = hdOf Y := rfl
  rw [eX] at hb
  rw [eY] at hb2
  have k1 := fun W (h : Below w.heap.size w W) => rGet_any X false A1 n1 c1 w.heap.size W (hrX.below h) h.size hc1 hc1m (by omega)
  have k2 := fun W (h : Below w.heap.size w W) => rGet_any Y false A2 m c2 w.heap.size W (hrY.below h) h.size hc2 hc2m (by omega)
  have k3 := fun W (h : Below w.heap.size w W) => rPGet_any (hdOf X) X A1 n1 c1 w.heap.size W (hrX.below h) h.size hc1 hc1m hn1 hb.1 hb.2
  have k4 := fun W (h : Below w.heap.size w W) => rPGet_any (hdOf Y) Y A2 m c2 w.heap.size W (hrY.below h) h.size hc2 hc2m (by omega) hb2.1 hb2.2
  have g1 : getP X false = 0 := hE
  have g2 : getP Y false = 0 := hE2
  rw [g1, eX, hH] at k1
  rw [g2, eY, hH2] at k2
  rw [hR, hH] at k3
  rw [hR2, hH2] at k4
  simp only [Hd.val, Pt.val, Tells] at k1 k2 k3 k4
  clear hb hb2 eX eY hE hE2 hH hH2 hR hR2 g1 g2
  obtain ⟨F, hF⟩ : ∃ F, freeF ⟨sz, m, h2, h3, h4, h5⟩ ⟨h3, sr, ds, fl, ki, co, er, ⟨isz, i1, i2, i3, i4, i5⟩, pat, ba⟩ true = F := ⟨_, rfl⟩
  rw [hF] at hfar
  have kf : ∀ W, Calls Try.prog 40 #[.agg #[.int .i64 sz, .int .i64 m, .int .i64 h2, .int .i64 h3, .int .u32 h4, .int .u32 h5], .agg #[.int .i64 h3, .int .u16 sr, .int .u16 ds, .int .i64 fl, .int .i64 ki, .int .i64 co, .bool er, .int .i64 isz, .int .i64 i1, .int .i64 i2, .int .i64 i3, .int .u32 i4, .int .u32 i5, .int .i64 pat, .bool ba], .bool true] W (FreeR W F) := by
    intro W
    replace hF := Lib.hid hF
    exact Free_out _ _ _ _ _ _ _ _ _ _ _ _ _ _ _ _ _ _ _ _ _ W F ⟨by omega, by omega⟩ ⟨by omega, by omega⟩ ⟨by omega, by omega⟩ hF
  clear hF
  have hlX := hrX.len
  have hlY := hrY.len
  replace hfar := Lib.hid hfar
  replace k1 := Lib.hid k1
  replace k2 := Lib.hid k2
  replace k3 := Lib.hid k3
  replace k4 := Lib.hid k4
  replace kf := Lib.hid kf
  replace hsum := Lib.hid hsum
  replace hx4 := Lib.hid hx4
  replace hx5 := Lib.hid hx5
  replace hp1 := Lib.hid hp1
  replace hp2 := Lib.hid hp2
  replace hp3 := Lib.hid hp3
  replace he1 := Lib.hid he1
  replace he2 := Lib.hid he2
  replace he3 := Lib.hid he3
  replace he4 := Lib.hid he4
  replace he5 := Lib.hid he5
  replace hlX := Lib.hid hlX
  replace hlY := Lib.hid hlY
  have bel : Below w.heap.size w w := Below.refl _ _
  go_enter Try.func16, Try.ntmps16
  go_wp2_with fail
  refine (k1.out _ bel).mono ?_
  rintro e w1 ⟨rfl, hb1⟩
  replace bel := bel_after bel hb1
  clear hb1 k1
  have bh := (Blk.new w1 47 #[.int .i64 0, .int .i64 0, .int .i64 0, .int .i64 0, .int .u32 0, .int .u32 0]).setRow #[.int .i64 sz, .int .i64 m, .int .i64 h2, .int .i64 h3, .int .u32 h4, .int .u32 h5]
  replace bel := below_setRow (bel.alloc bel.size (.cells #[.int .i64 0, .int .i64 0, .int .i64 0, .int .i64 0, .int .u32 0, .int .u32 0] 47)) bel.size #[.int .i64 sz, .int .i64 m, .int .i64 h2, .int .i64 h3, .int .u32 h4, .int .u32 h5]
  go_wp2_with (first
    | (refine wpList_stRow rfl rfl rfl rfl rfl (Blk.new w1 _ _) srhd_size rfl (by simp [Value.oneCell']) ?_; generalize (w1.alloc (.cells #[.int .i64 0, .int .i64 0, .int .i64 0, .int .i64 0, .int .u32 0, .int .u32 0] 47)).setRow w1.heap.size #[.int .i64 sz, .int .i64 m, .int .i64 h2, .int .i64 h3, .int .u32 h4, .int .u32 h5] = W1 at *; generalize w1.heap.size = gh at *)
    | (refine wpList_ldRow rfl rfl rfl bh Try.underlying47 srhd_size ?_))
  refine (k3.out _ bel).mono ?_
  rintro e w2 ⟨rfl, hb2⟩
  replace bh := bh.bel hb2
  replace bel := bel_after bel hb2
  clear hb2 k3
  have ll := bh.lt
  have bp := (Blk.new w2 73 #[.int .i64 0, .int .u16 0, .int .u16 0, .int .i64 0, .int .i64 0, .int .i64 0, .bool false, .int .i64 0, .int .i64 0, .int .i64 0, .int .i64 0, .int .u32 0, .int .u32 0, .int .i64 0, .bool false]).setRow #[.int .i64 h3, .int .u16 sr, .int .u16 ds, .int .i64 fl, .int .i64 ki, .int .i64 co, .bool er, .int .i64 isz, .int .i64 i1, .int .i64 i2, .int .i64 i3, .int .u32 i4, .int .u32 i5, .int .i64 pat, .bool ba]
  replace bh := (bh.alloc (.cells #[.int .i64 0, .int .u16 0, .int .u16 0, .int .i64 0, .int .i64 0, .int .i64 0, .bool false, .int .i64 0, .int .i64 0, .int .i64 0, .int .i64 0, .int .u32 0, .int .u32 0, .int .i64 0, .bool false] 73)).setRow_far (g' := w2.heap.size) (by omega) #[.int .i64 h3, .int .u16 sr, .int .u16 ds, .int .i64 fl, .int .i64 ki, .int .i64 co, .bool er, .int .i64 isz, .int .i64 i1, .int .i64 i2, .int .i64 i3, .int .u32 i4, .int .u32 i5, .int .i64 pat, .bool ba]
  replace bel := below_setRow (bel.alloc bel.size (.cells #[.int .i64 0, .int .u16 0, .int .u16 0, .int .i64 0, .int .i64 0, .int .i64 0, .bool false, .int .i64 0, .int .i64 0, .int .i64 0, .int .i64 0, .int .u32 0, .int .u32 0, .int .i64 0, .bool false] 73)) bel.size #[.int .i64 h3, .int .u16 sr, .int .u16 ds, .int .i64 fl, .int .i64 ki, .int .i64 co, .bool er, .int .i64 isz, .int .i64 i1, .int .i64 i2, .int .i64 i3, .int .u32 i4, .int .u32 i5, .int .i64 pat, .bool ba]
  clear ll
  go_wp2_with (refine wpList_stRow rfl rfl rfl rfl rfl (Blk.new w2 _ _) srpt_size rfl (by simp [Value.oneCell']) ?_; generalize (w2.alloc (.cells #[.int .i64 0, .int .u16 0, .int .u16 0, .int .i64 0, .int .i64 0, .int .i64 0, .bool false, .int .i64 0, .int .i64 0, .int .i64 0, .int .i64 0, .int .u32 0, .int .u32 0, .int .i64 0, .bool false] 73)).setRow w2.heap.size #[.int .i64 h3, .int .u16 sr, .int .u16 ds, .int .i64 fl, .int .i64 ki, .int .i64 co, .bool er, .int .i64 isz, .int .i64 i1, .int .i64 i2, .int .i64 i3, .int .u32 i4, .int .u32 i5, .int .i64 pat, .bool ba] = W2 at *; generalize w2.heap.size = gp at *)
  refine (k2.out _ bel).mono ?_
  rintro e w3 ⟨rfl, hb3⟩
  replace bh := bh.bel hb3
  replace bp := bp.bel hb3
  replace bel := bel_after bel hb3
  clear hb3 k2
  have ll := bh.lt
  have ll2 := bp.lt
  have bx := (Blk.new w3 47 #[.int .i64 0, .int .i64 0, .int .i64 0, .int .i64 0, .int .u32 0, .int .u32 0]).setRow #[.int .i64 sz, .int .i64 m, .int .i64 h2, .int .i64 h3, .int .u32 x4, .int .u32 x5]
  replace bh := (bh.alloc (.cells #[.int .i64 0, .int .i64 0, .int .i64 0, .int .i64 0, .int .u32 0, .int .u32 0] 47)).setRow_far (g' := w3.heap.size) (by omega) #[.int .i64 sz, .int .i64 m, .int .i64 h2, .int .i64 h3, .int .u32 x4, .int .u32 x5]
  replace bp := (bp.alloc (.cells #[.int .i64 0, .int .i64 0, .int .i64 0, .int .i64 0, .int .u32 0, .int .u32 0] 47)).setRow_far (g' := w3.heap.size) (by omega) #[.int .i64 sz, .int .i64 m, .int .i64 h2, .int .i64 h3, .int .u32 x4, .int .u32 x5]
  replace bel := below_setRow (bel.alloc bel.size (.cells #[.int .i64 0, .int .i64 0, .int .i64 0, .int .i64 0, .int .u32 0, .int .u32 0] 47)) bel.size #[.int .i64 sz, .int .i64 m, .int .i64 h2, .int .i64 h3, .int .u32 x4, .int .u32 x5]
  clear ll ll2
  go_wp2_with (first
    | (refine wpList_stRow rfl rfl rfl rfl rfl (Blk.new w3 _ _) srhd_size rfl (by simp [Value.oneCell']) ?_; generalize (w3.alloc (.cells #[.int .i64 0, .int .i64 0, .int .i64 0, .int .i64 0, .int .u32 0, .int .u32 0] 47)).setRow w3.heap.size #[.int .i64 sz, .int .i64 m, .int .i64 h2, .int .i64 h3, .int .u32 x4, .int .u32 x5] = W3 at *; generalize w3.heap.size = gx at *)
    | (refine wpList_ldRow rfl rfl rfl bx Try.underlying47 srhd_size ?_))
  refine (k4.out _ bel).mono ?_
  rintro e w4 ⟨rfl, hb4⟩
  replace bh := bh.bel hb4
  replace bp := bp.bel hb4
  replace bx := bx.bel hb4
  replace bel := bel_after bel hb4
  clear hb4 k4
  have ll := bh.lt
  have ll2 := bp.lt
  have ll3 := bx.lt
  have bY := (Blk.new w4 73 #[.int .i64 0, .int .u16 0, .int .u16 0, .int .i64 0, .int .i64 0, .int .i64 0, .bool false, .int .i64 0, .int .i64 0, .int .i64 0, .int .i64 0, .int .u32 0, .int .u32 0, .int .i64 0, .bool false]).setRow #[.int .i64 h3, .int .u16 ys, .int .u16 yd, .int .i64 fl, .int .i64 ki, .int .i64 co, .bool er, .int .i64 isz, .int .i64 i1, .int .i64 i2, .int .i64 i3, .int .u32 z4, .int .u32 z5, .int .i64 pat, .bool ba]
  replace bh := (bh.alloc (.cells #[.int .i64 0, .int .u16 0, .int .u16 0, .int .i64 0, .int .i64 0, .int .i64 0, .bool false, .int .i64 0, .int .i64 0, .int .i64 0, .int .i64 0, .int .u32 0, .int .u32 0, .int .i64 0, .bool false] 73)).setRow_far (g' := w4.heap.size) (by omega) #[.int .i64 h3, .int .u16 ys, .int .u16 yd, .int .i64 fl, .int .i64 ki, .int .i64 co, .bool er, .int .i64 isz, .int .i64 i1, .int .i64 i2, .int .i64 i3, .int .u32 z4, .int .u32 z5, .int .i64 pat, .bool ba]
  replace bp := (bp.alloc (.cells #[.int .i64 0, .int .u16 0, .int .u16 0, .int .i64 0, .int .i64 0, .int .i64 0, .bool false, .int .i64 0, .int .i64 0, .int .i64 0, .int .i64 0, .int .u32 0, .int .u32 0, .int .i64 0, .bool false] 73)).setRow_far (g' := w4.heap.size) (by omega) #[.int .i64 h3, .int .u16 ys, .int .u16 yd, .int .i64 fl, .int .i64 ki, .int .i64 co, .bool er, .int .i64 isz, .int .i64 i1, .int .i64 i2, .int .i64 i3, .int .u32 z4, .int .u32 z5, .int .i64 pat, .bool ba]
  replace bx := (bx.alloc (.cells #[.int .i64 0, .int .u16 0, .int .u16 0, .int .i64 0, .int .i64 0, .int .i64 0, .bool false, .int .i64 0, .int .i64 0, .int .i64 0, .int .i64 0, .int .u32 0, .int .u32 0, .int .i64 0, .bool false] 73)).setRow_far (g' := w4.heap.size) (by omega) #[.int .i64 h3, .int .u16 ys, .int .u16 yd, .int .i64 fl, .int .i64 ki, .int .i64 co, .bool er, .int .i64 isz, .int .i64 i1, .int .i64 i2, .int .i64 i3, .int .u32 z4, .int .u32 z5, .int .i64 pat, .bool ba]
  replace bel := below_setRow (bel.alloc bel.size (.cells #[.int .i64 0, .int .u16 0, .int .u16 0, .int .i64 0, .int .i64 0, .int .i64 0, .bool false, .int .i64 0, .int .i64 0, .int .i64 0, .int .i64 0, .int .u32 0, .int .u32 0, .int .i64 0, .bool false] 73)) bel.size #[.int .i64 h3, .int .u16 ys, .int .u16 yd, .int .i64 fl, .int .i64 ki, .int .i64 co, .bool er, .int .i64 isz, .int .i64 i1, .int .i64 i2, .int .i64 i3, .int .u32 z4, .int .u32 z5, .int .i64 pat, .bool ba]
  clear ll ll2 ll3
  go_upto_region 5 with (refine wpList_stRow rfl rfl rfl rfl rfl (Blk.new w4 _ _) srpt_size rfl (by simp [Value.oneCell']) ?_; generalize (w4.alloc (.cells #[.int .i64 0, .int .u16 0, .int .u16 0, .int .i64 0, .int .i64 0, .int .i64 0, .bool false, .int .i64 0, .int .i64 0, .int .i64 0, .int .i64 0, .int .u32 0, .int .u32 0, .int .i64 0, .bool false] 73)).setRow w4.heap.size #[.int .i64 h3, .int .u16 ys, .int .u16 yd, .int .i64 fl, .int .i64 ki, .int .i64 co, .bool er, .int .i64 isz, .int .i64 i1, .int .i64 i2, .int .i64 i3, .int .u32 z4, .int .u32 z5, .int .i64 pat, .bool ba] = W4 at *; generalize w4.heap.size = gy at *)
  have a0 := bh.cell 0
  have a1 := bh.cell 1
  have a2 := bh.cell 2
  have a3 := bh.cell 3
  have c0 := bx.cell 0
  have c1' := bx.cell 1
  have c2' := bx.cell 2
  have c3 := bx.cell 3
  have p3 := bp.cell 3
  have p4 := bp.cell 4
  have p5 := bp.cell 5
  have p6 := bp.cell 6
  have p14 := bp.cell 14
  have y3 := bY.cell 3
  have y4 := bY.cell 4
  have y5 := bY.cell 5
  have y6 := bY.cell 6
  have y14 := bY.cell 14
  go_upto_region 7 with fail
  clear a0 a1 a2 a3 c0 c1' c2' c3 p3 p4 p5 p6 p14 y3 y4 y5 y6 y14
  go_wp2_with (first
    | (refine wpList_ldRow rfl rfl rfl bh Try.underlying47 srhd_size ?_)
    | (refine wpList_ldRow rfl rfl rfl bp Try.underlying73 srpt_size ?_))
  refine (kf.out _).mono ?_
  rintro e w5 ⟨bm, nm, rfl, hmap, hb5, _⟩
  replace bh := bh.bel hb5
  replace bp := bp.bel hb5
  replace bx := bx.bel hb5
  replace bY := bY.bel hb5
  replace bel := bel_after bel hb5
  clear hb5 kf
  go_wp2_with fail
  go_loopw [20] (fun i wr => ∃ k : Nat, k ≤ m ∧ i = .int .i64 k ∧ Below w5.heap.size w5 wr) (fun i _ => m - (intOf i).toNat)
  case atStart => exact ⟨0, by omega, rfl, Below.refl _ _⟩
  case round =>
    obtain ⟨k, hk, rfl, belk⟩ := hrel
    rcases Nat.lt_or_ge k m with hkm | hkm
    · have d1 : decide ((k : Int) < (m : Int)) = true := by simpa using hkm
      have d2 : decide (k < m) = true := by simpa using hkm
      obtain ⟨b1, o1, e1, hb1, f1, r1⟩ := hrX.at_ (j := k) (by omega)
      obtain ⟨b2, o2, e2, hb2, f2, r2⟩ := hrY.at_ (j := k) hkm
      subst e1 e2
      have q1 : ∀ t : Tw (Up wr), t.w.cell? ⟨b1, o1 + k, none⟩ = some (.int .u8 (X.getD k 0)) := fun t => (((bel.mono (Nat.le_refl _)).trans (belk.mono bel.size)).trans (t.h.mono (Nat.le_trans bel.size belk.size))).cell (p := ⟨b1, o1 + k, none⟩) hb1 |>.trans f1
      have q2 : ∀ t : Tw (Up wr), t.w.cell? ⟨b2, o2 + k, none⟩ = some (.int .u8 (Y.getD k 0)) := fun t => (((bel.mono (Nat.le_refl _)).trans (belk.mono bel.size)).trans (t.h.mono (Nat.le_trans bel.size belk.size))).cell (p := ⟨b2, o2 + k, none⟩) hb2 |>.trans f2
      have hmk := hmap.bel belk
      have q3 : ∀ w', (∃ t : Tw (Up wr), w' = t.w) → MapI w' bm nm F := fun w' h => by obtain ⟨t, rfl⟩ := h; exact hmk.bel t.h
      have zz := Up.one wr
      have kb : inr .i64 (k : Int) := i64_inr (by omega)
      have k0 : (0 : Int) ≤ (k : Int) := by omega
      have kI : (k : Int) < (n1 : Int) := by omega
      clear f1 f2 hmk
      go_upto_region 11 with fail
      by_cases hFk : F k = 0
      · have d3 : (F k == 0) = true := by simpa using hFk
        have e3 := hfar.out k hkm hFk
        rw [e3] at q2
        replace hFk := Lib.hid hFk
        clear e3
        refine region_tw (Up wr) (by kernel_rfl) (by kernel_rfl) (Up.rfl_ wr).drew ?_
        unfold clsS
        repeat (first
          | go_big_quiet_skip
          | (go_big_quiet_want; first | (refine quiet_look _ _ rfl bm nm F rfl q3 _ rfl kb ?_; go_simp; go_big_quiet_on) | (go_big_quiet_op; go_big_quiet_on)))
        refine wpQuiet_nil ?_
        intro tq
        go_wp2_with fail
        go_roundw
        case rel => exact ⟨k + 1, by omega, by go_num, bel_after belk tq.h⟩
        case measure => simp [intOf]; omega
      · have d3 : (F k == 0) = false := by simpa using hFk
        replace hFk := Lib.hid hFk
        refine region_tw (Up wr) (by kernel_rfl) (by kernel_rfl) (Up.rfl_ wr).drew ?_
        unfold clsS
        repeat (first
          | go_big_quiet_skip
          | (go_big_quiet_want; first | (refine quiet_look _ _ rfl bm nm F rfl q3 _ rfl kb ?_; go_simp; go_big_quiet_on) | (go_big_quiet_op; go_big_quiet_on)))
        refine wpQuiet_nil ?_
        intro tq
        go_wp2_with fail
        go_roundw
        case rel => exact ⟨k + 1, by omega, by go_num, bel_after belk tq.h⟩
        case measure => simp [intOf]; omega
    · obtain rfl : k = m := by omega
      have d1 : decide ((k : Int) < (k : Int)) = false := by simp
      have d2 : decide (k < k) = false := by simp
      replace bh := bh.bel belk
      replace bp := bp.bel belk
      replace bx := bx.bel belk
      replace bY := bY.bel belk
      replace bel := bel_after bel belk
      clear hmap belk d1 d2 hfar
      obtain ⟨b1, o1, rfl, hb1, _⟩ := hrX.cel (by omega)
      obtain ⟨b2, o2, rfl, hb2, _⟩ := hrY.cel (by omega)
      obtain ⟨rfl, rfl⟩ := hx4.out trivial
      go_upto_region 13 with fail
      have zz := Up.one wr
      have z1 : ∀ t : Tw (Up wr), t.w.cell? ⟨gx, 4, none⟩ = some (.int .u32 addr) := fun t => bx.up t 4
      have z2 : ∀ t : Tw (Up wr), t.w.cell? ⟨gx, 5, none⟩ = some (.int .u32 h5) := fun t => bx.up t 5
      have z3 : ∀ t : Tw (Up wr), t.w.cell? ⟨gy, 1, none⟩ = some (.int .u16 ys) := fun t => bY.up t 1
      have z4' : ∀ t : Tw (Up wr), t.w.cell? ⟨gy, 2, none⟩ = some (.int .u16 yd) := fun t => bY.up t 2
      have z5' : ∀ t : Tw (Up wr), t.w.cell? ⟨gy, 11, none⟩ = some (.int .u32 z4) := fun t => bY.up t 11
      have z6 : ∀ t : Tw (Up wr), t.w.cell? ⟨gy, 12, none⟩ = some (.int .u32 z5) := fun t => bY.up t 12
      have z7 : ∀ t : Tw (Up wr), t.w.cell? ⟨gp, 1, none⟩ = some (.int .u16 sr) := fun t => bp.up t 1
      have z8 : ∀ t : Tw (Up wr), t.w.cell? ⟨gp, 2, none⟩ = some (.int .u16 ds) := fun t => bp.up t 2
      have z9 : ∀ t : Tw (Up wr), t.w.cell? ⟨gh, 4, none⟩ = some (.int .u32 h4) := fun t => bh.up t 4
      have z10 : ∀ t : Tw (Up wr), t.w.cell? ⟨gh, 5, none⟩ = some (.int .u32 h5) := fun t => bh.up t 5
      refine region_tw (Up wr) (by kernel_rfl) (by kernel_rfl) (Up.rfl_ wr).drew ?_
      unfold clsS
      repeat (first
        | go_big_quiet_skip
        | (go_big_quiet_want; go_big_quiet_op; go_big_quiet_on))
      refine wpQuiet_nil ?_
      intro tA
      clear zz z1 z2 z3 z4' z5' z6 z7 z8 z9 z10
      replace bh := bh.bel tA.h
      replace bp := bp.bel tA.h
      replace bx := bx.bel tA.h
      replace bY := bY.bel tA.h
      replace bel := bel_after bel tA.h
      go_upto_region 14 with fail
      have zz := Up.one tA.w
      have z1 : ∀ t : Tw (Up tA.w), t.w.cell? ⟨gx, 4, none⟩ = some (.int .u32 addr) := fun t => bx.up t 4
      have z2 : ∀ t : Tw (Up tA.w), t.w.cell? ⟨gx, 5, none⟩ = some (.int .u32 h5) := fun t => bx.up t 5
      have z3 : ∀ t : Tw (Up tA.w), t.w.cell? ⟨gy, 1, none⟩ = some (.int .u16 ys) := fun t => bY.up t 1
      have z4' : ∀ t : Tw (Up tA.w), t.w.cell? ⟨gy, 2, none⟩ = some (.int .u16 yd) := fun t => bY.up t 2
      have z5' : ∀ t : Tw (Up tA.w), t.w.cell? ⟨gy, 11, none⟩ = some (.int .u32 z4) := fun t => bY.up t 11
      have z6 : ∀ t : Tw (Up tA.w), t.w.cell? ⟨gy, 12, none⟩ = some (.int .u32 z5) := fun t => bY.up t 12
      have z7 : ∀ t : Tw (Up tA.w), t.w.cell? ⟨gp, 1, none⟩ = some (.int .u16 sr) := fun t => bp.up t 1
      have z8 : ∀ t : Tw (Up tA.w), t.w.cell? ⟨gp, 2, none⟩ = some (.int .u16 ds) := fun t => bp.up t 2
      have z9 : ∀ t : Tw (Up tA.w), t.w.cell? ⟨gh, 4, none⟩ = some (.int .u32 h4) := fun t => bh.up t 4
      have z10 : ∀ t : Tw (Up tA.w), t.w.cell? ⟨gh, 5, none⟩ = some (.int .u32 h5) := fun t => bh.up t 5
      refine region_tw (Up tA.w) (by kernel_rfl) (by kernel_rfl) (Up.rfl_ tA.w).drew ?_
      unfold clsS
      repeat (first
        | go_big_quiet_skip
        | (go_big_quiet_want; go_big_quiet_op; go_big_quiet_on))
      refine wpQuiet_nil ?_
      intro tB
      clear zz z1 z2 z3 z4' z5' z6 z7 z8 z9 z10
      replace bh := bh.bel tB.h
      replace bp := bp.bel tB.h
      replace bx := bx.bel tB.h
      replace bY := bY.bel tB.h
      replace bel := bel_after bel tB.h
      cases er with
      | false =>
        by_cases h31 : h3 = 1
        · subst h31
          obtain ⟨rfl, rfl⟩ := hp1.out rfl rfl
          rcases Bool.eq_false_or_eq_true (port == ds) with e1 | e1
          · have a3 := bh.cell 3
            have p6 := bp.cell 6
            go_wp2
            go_ret
            exact ⟨rfl, bel⟩
          · have a3 := bh.cell 3
            have p6 := bp.cell 6
            go_wp2
            go_ret
            exact ⟨rfl, bel⟩
        · have d31 : (h3 == 1) = false := by simpa using h31
          obtain ⟨rfl, rfl⟩ := (hp2).out rfl h31 trivial
          replace h31 := Lib.hid h31
          have a3 := bh.cell 3
          have p6 := bp.cell 6
          go_wp2
          go_ret
          exact ⟨rfl, bel⟩
      | true =>
        obtain ⟨rfl, rfl⟩ := he1.out rfl trivial
        have a3 := bh.cell 3
        have p6 := bp.cell 6
        go_upto_region 22 with fail
        obtain ⟨q, hq⟩ : ∃ q, pat + isz = q := ⟨_, rfl⟩
        have hqI : (pat : Int) + (isz : Int) = (q : Int) := by omega
        have hpi' := hpi rfl
        have hcX : (c1 = pat) = False := eq_false (by omega)
        have hcY : (c2 = pat) = False := eq_false (by omega)
        have r0 : (0 : Int) ≤ (pat : Int) := by omega
        have r1 : (pat : Int) ≤ (q : Int) := by omega
        have r2 : (q : Int) ≤ (c1 : Int) := by omega
        have r3 : (q : Int) ≤ (c2 : Int) := by omega
        have r4 : (q : Int) - (pat : Int) = (isz : Int) := by omega
        have r5 : q - pat = isz := by omega
        have rX : Rd .u8 w w.heap.size (some ⟨b1, o1 + pat, none⟩) isz (seg X pat isz) := by
          have := (hrX.drop (m := pat) (cap := c1) (by omega) (by omega)).take (m := isz) (by omega)
          rw [if_neg (by omega)] at this
          simpa [Addr.add, show pat ≠ 0 by omega, seg] using this
        have rY : Rd .u8 w w.heap.size (some ⟨b2, o2 + pat, none⟩) isz (seg Y pat isz) := by
          have := (hrY.drop (m := pat) (cap := c2) (by omega) (by omega)).take (m := isz) (by omega)
          rw [if_neg (by omega)] at this
          simpa [Addr.add, show pat ≠ 0 by omega, seg] using this
        have kX := fun (t : Tw (Up tB.w)) c => rOf_any (seg X pat isz) (some ⟨b1, o1 + pat, none⟩) isz c w.heap.size t.w (by omega) (rX.below (bel.trans (Below.mono t.h bel.size)))
        have kY := fun (t : Tw (Up tB.w)) c => rOf_any (seg Y pat isz) (some ⟨b2, o2 + pat, none⟩) isz c w.heap.size t.w (by omega) (rY.below (bel.trans (Below.mono t.h bel.size)))
        have s1 := sumOf_bd (fun x hx => inr_u8 (rX.rng x hx))
        have s2 := sumOf_bd (fun x hx => inr_u8 (rY.rng x hx))
        have hs := hsum.out rfl
        generalize sumOf (seg X pat isz) = S1 at *
        generalize sumOf (seg Y pat isz) = S2 at *
        have dS : (S2 % 65535 != S1 % 65535) = false := by simpa using hs
        have hs2 : S2.tmod 65535 = S1.tmod 65535 := by rw [Int.tmod_eq_emod_of_nonneg s2.1, Int.tmod_eq_emod_of_nonneg s1.1]; exact hs
        have dS2 : (S2.tmod 65535 != S1.tmod 65535) = false := by simpa using hs2
        clear rX rY hs hs2 hpi'
        replace kX := Lib.hid kX
        replace kY := Lib.hid kY
        replace hq := Lib.hid hq
        have zz := Up.one tB.w
        have z1 : ∀ t : Tw (Up tB.w), t.w.cell? ⟨gp, 13, none⟩ = some (.int .i64 pat) := fun t => bp.up t 13
        have z2 : ∀ t : Tw (Up tB.w), t.w.cell? ⟨gp, 7, none⟩ = some (.int .i64 isz) := fun t => bp.up t 7
        have z3 : ∀ t : Tw (Up tB.w), t.w.cell? ⟨gy, 13, none⟩ = some (.int .i64 pat) := fun t => bY.up t 13
        have z4' : ∀ t : Tw (Up tB.w), t.w.cell? ⟨gy, 7, none⟩ = some (.int .i64 isz) := fun t => bY.up t 7
        refine region_tw (Up tB.w) (by kernel_rfl) (by kernel_rfl) (Up.rfl_ tB.w).drew ?_
        unfold clsS
        repeat (first
          | go_big_quiet_skip
          | (go_big_quiet_want; go_big_quiet_op; first | go_big_quiet_on | go_big_quiet_call (
            (first | (with_reducible exact q_tw_same (kX.out _ _)) | (with_reducible exact q_tw_same (kY.out _ _))))))
        refine wpQuiet_nil ?_
        intro tS
        clear zz z1 z2 z3 z4' a3 p6 hcX hcY r0 r1 r2 r3 r4 r5 hqI
        replace bh := bh.bel tS.h
        replace bp := bp.bel tS.h
        replace bx := bx.bel tS.h
        replace bY := bY.bel tS.h
        replace bel := bel_after bel tS.h
        obtain ⟨u1, e1⟩ : ∃ u : Bool, (S1 == 0) = u := ⟨_, rfl⟩
        obtain ⟨u2, e2⟩ : ∃ u : Bool, (S2 == 0) = u := ⟨_, rfl⟩
        go_upto_region 25 with fail
        all_goals
          by_cases h31 : i3 = 1
          · subst h31
            obtain ⟨rfl, rfl⟩ := he3.out rfl rfl
            have p1 := bp.cell 1
            have p2 := bp.cell 2
            have p10 := bp.cell 10
            have p11 := bp.cell 11
            have p12 := bp.cell 12
            have y1 := bY.cell 1
            have y2 := bY.cell 2
            go_wp2
            go_ret
            exact ⟨rfl, bel⟩
          · have d31 : (i3 == 1) = false := by simpa using h31
            obtain ⟨rfl, rfl⟩ := (he4).out rfl h31 trivial
            replace h31 := Lib.hid h31
            have p1 := bp.cell 1
            have p2 := bp.cell 2
            have p10 := bp.cell 10
            have p11 := bp.cell 11
            have p12 := bp.cell 12
            have y1 := bY.cell 1
            have y2 := bY.cell 2
            go_wp2
            go_ret
            exact ⟨rfl, bel⟩
end Go.Proofs.Ytgfjdnbejmmckaa
