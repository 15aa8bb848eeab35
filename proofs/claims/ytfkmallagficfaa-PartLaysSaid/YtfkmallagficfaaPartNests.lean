/- Every input of PartNests answers true, and reads behind the call as it read before. No condition. -/
import Derived.Test.YtfkmallagficfaaPartFacts3
import Derived.Test.YtfkmallagficfaaPartGets
namespace Go.Proofs.Ytfkmallagficfaa
set_option linter.unusedVariables false
set_option linter.unusedSimpArgs false
open Go.RowKit
set_option maxRecDepth 100000 in
set_option maxHeartbeats 2000000 in
theorem must_any (l : List Int) (h0 h1 h2 h3 h4 h5 : Int) (A : Option Addr) (len c B : Nat) (w : World) (hr : Rd .u8 w B A len l) (hB : B ≤ w.heap.size) (hlc : len ≤ c) (hcm : c ≤ 9223372036854775807) (hl : len ≤ 100000) (he : getE l = 0) (hh : hdIf l 0 = ⟨h0, h1, h2, h3, h4, h5⟩) :
    Calls Try.prog 20 #[.slice A len c] w fun e w' => e = .returned (.agg #[.int .i64 h0, .int .i64 h1, .int .i64 h2, .int .i64 h3, .int .u32 h4, .int .u32 h5]) ∧ Below w.heap.size w w' := by
  have hget := fun W (h : Below w.heap.size w W) => Get_any l A len c w.heap.size W ((hr.more hB).below h) h.size hlc hcm hl
  rw [he, hh] at hget
  simp only [Hd.val] at hget
  clear he hh hr
  replace hget := Lib.hid hget
  go_enter Try.func20, Try.ntmps20
  go_upto_region 1 with fail
  have bk := Blk.new w 35 #[.int .i64 0, .int .i64 0, .int .i64 0, .int .i64 0, .int .u32 0, .int .u32 0]
  have bel := bel_alloc w (.cells #[.int .i64 0, .int .i64 0, .int .i64 0, .int .i64 0, .int .u32 0, .int .u32 0] 35)
  generalize w.alloc (.cells #[.int .i64 0, .int .i64 0, .int .i64 0, .int .i64 0, .int .u32 0, .int .u32 0] 35) = W at *
  go_wp2_with fail
  refine (hget.out _ bel).mono ?_
  rintro e w2 ⟨rfl, hb2⟩
  replace bk := bk.bel hb2
  replace bel := bel_after bel hb2
  clear hb2 hget
  have hgl := bk.lt
  have bh := (Blk.new w2 35 #[.int .i64 0, .int .i64 0, .int .i64 0, .int .i64 0, .int .u32 0, .int .u32 0]).setRow #[.int .i64 h0, .int .i64 h1, .int .i64 h2, .int .i64 h3, .int .u32 h4, .int .u32 h5]
  replace bk := (bk.alloc (.cells #[.int .i64 0, .int .i64 0, .int .i64 0, .int .i64 0, .int .u32 0, .int .u32 0] 35)).setRow_far (g' := w2.heap.size) (by omega) #[.int .i64 h0, .int .i64 h1, .int .i64 h2, .int .i64 h3, .int .u32 h4, .int .u32 h5]
  replace bel := below_setRow (bel.alloc bel.size (.cells #[.int .i64 0, .int .i64 0, .int .i64 0, .int .i64 0, .int .u32 0, .int .u32 0] 35)) bel.size #[.int .i64 h0, .int .i64 h1, .int .i64 h2, .int .i64 h3, .int .u32 h4, .int .u32 h5]
  go_wp2_with (first
    | (refine wpList_stRow rfl rfl rfl rfl rfl (Blk.new w2 _ _) hd_size rfl (by simp [Value.oneCell']) ?_; generalize (w2.alloc (.cells #[.int .i64 0, .int .i64 0, .int .i64 0, .int .i64 0, .int .u32 0, .int .u32 0] 35)).setRow w2.heap.size #[.int .i64 h0, .int .i64 h1, .int .i64 h2, .int .i64 h3, .int .u32 h4, .int .u32 h5] = W3 at *; generalize w2.heap.size = g3 at *)
    | (refine wpList_ldRow rfl rfl rfl bh Try.underlying35 hd_size ?_)
    | (refine wpList_stRow rfl rfl rfl rfl rfl bk hd_size rfl (by simp [Value.oneCell']) ?_))
  exact bodyPost_ret (results_row rfl _ rfl (bk.setRow _) Try.underlying35 hd_size) rfl ⟨rfl, below_setRow bel (by omega) _⟩
theorem nest_head {Y : List Int} (hY : Y.length ≤ 1480) : getE (putL 5 1 1 2 Y) = 0 ∧ hdIf (putL 5 1 1 2 Y) 0 = ⟨20, (putL 5 1 1 2 Y).length, 5, 1, 1, 2⟩ := by
  have h := put_get (t := 5) (p := 1) (s := 1) (d := 2) (l := Y) (by omega) (by omega) (by omega) (by omega) hY []
  rw [List.append_nil] at h
  refine ⟨h.1, ?_⟩
  unfold hdIf
  rw [if_pos rfl, h.2, put_len]
  push_cast
  rfl
theorem nest_get (Y : List Int) : getR ⟨20, (putL 5 1 1 2 Y).length, 5, 1, 1, 2⟩ (putL 5 1 1 2 Y) = icmpR ⟨20, (putL 5 1 1 2 Y).length, 5, 1, 1, 2⟩ Y :=
  getR_put 5 1 1 2 Y _ (by rw [put_len]; push_cast; rfl)
theorem car_bd7 {k : Nat} {s d a b f : Int} {l : List Int} (hs : 0 ≤ s ∧ s ≤ 4294967295) (hd : 0 ≤ d ∧ d ≤ 4294967295) (ha : 0 ≤ a ∧ a ≤ 65535) (hb : 0 ≤ b ∧ b ≤ 65535) (hl : Bytes8 l) (hn : l.length ≤ 40) : Bytes8 (carL k s d a b f l) := by
  have hf : fewL l = l := few_short (by omega)
  by_cases hk : k < 4
  · exact car_bd hs hd ha hb hl k hk
  by_cases h4 : k = 4
  · subst h4
    exact faultL_bd (put_bd (t := 9) (p := 17) (by omega) (by omega) hd hs (udpL_bd hd hs hb ha hl) (by rw [udpL_len, hf]; omega))
  by_cases h5 : k = 5
  · subst h5
    exact faultL_bd ((put_bd (t := 9) (p := 6) (by omega) (by omega) hd hs (tcpL_bd hd hs hb ha hl 2) (by rw [tcpL_len, hf]; omega)).take _)
  · have e2 : carL k s d a b f l = faultL 3 1 (putL 9 1 d s (echoL false b l)) := by unfold carL; rw [if_neg (by omega), if_neg (by omega), if_neg (by omega), if_neg (by omega), if_neg h4, if_neg h5]
    rw [e2]
    exact faultL_bd (put_bd (t := 9) (p := 1) (by omega) (by omega) hd hs (echoL_bd hl false hb) (by rw [echoL_len, hf]; omega))
set_option maxRecDepth 100000 in
set_option maxHeartbeats 4000000 in
theorem PartNests_deep (wt s d a b f : Int) (l : List Int) (A : Option Addr) (len cap : Nat) (w : World) (hr : Rd .u8 w w.heap.size A len l) (hlc : len ≤ cap) (hcm : cap ≤ maxLen) (hs : 0 ≤ s ∧ s ≤ 4294967295) (hd : 0 ≤ d ∧ d ≤ 4294967295) (ha : 0 ≤ a ∧ a ≤ 65535) (hb : 0 ≤ b ∧ b ≤ 65535) :
    Calls Try.prog 7 #[.agg #[.int .i64 wt, .int .u32 s, .int .u32 d, .int .u16 a, .int .u16 b, .int .i64 f, .slice A len cap], .bool true] w fun e w' => e = .returned (.bool true) ∧ Below w.heap.size w w' := by
  obtain ⟨k4, hk4, hk4b⟩ := modn wt 4 (by omega)
  have hkv : Value.int .u64 ((IntKind.u64.wrap wt).tmod 4) = .int .u64 (k4 : Int) := by rw [hk4]
  obtain ⟨k3, hk3, hk3b⟩ := modn wt 3 (by omega)
  have hkv3 : Value.int .u64 ((IntKind.u64.wrap wt).tmod 3) = .int .u64 (k3 : Int) := by rw [hk3]
  clear hk3 hk4
  obtain ⟨k, hkI, hk7, hk4k⟩ : ∃ k : Nat, 4 + (k3 : Int) = (k : Int) ∧ k < 7 ∧ 4 ≤ k := ⟨4 + k3, by omega, by omega, by omega⟩
  unfold maxLen at hcm
  have hfr := fun w' (h : Below w.heap.size w w') => Frame_any k s d a b f l A len cap k w' ((hr.below h).more h.size) hlc hcm hs hd ha hb (modk k (by omega)) (by omega)
  have hl8 : Bytes8 (l.take 40) := fun x hx => inr_u8 (hr.rng x (List.mem_of_mem_take hx))
  have hlt : (l.take 40).length ≤ 40 := by rw [List.length_take]; omega
  have hbd := frame_bd (k := k) (s := s) (d := d) (a := a) (b := b) (f := f) hlt
  have hgt := frame_get (k := k) (a := a) (b := b) (f := f) hs hd hlt
  have hX8 : Bytes8 (frameL k s d a b f (l.take 40)) := put_bd (by omega) (carP_bd k) hs hd (car_bd7 hs hd ha hb hl8 hlt) (by have := carL_len k s d a b f (l.take 40) hlt; omega)
  have hnest := fun h => car_deep (a := a) (b := b) (f := f) (h := h) hs hd k hk4k hlt hX8
  replace hnest := hnest ⟨20, ((putL 5 1 1 2 (faultL 3 1 (frameL k s d a b f (l.take 40)))).length : Int), 5, 1, 1, 2⟩
  clear hX8 hl8 hlt
  obtain ⟨P, hPe⟩ : ∃ P, P = carP k := ⟨_, rfl⟩
  obtain ⟨X, hXe⟩ : ∃ X, X = frameL k s d a b f (l.take 40) := ⟨_, rfl⟩
  obtain ⟨n, hX⟩ : ∃ n, X.length = n := ⟨_, rfl⟩
  rw [← hPe, ← hXe, hX] at hgt
  rw [← hXe] at hfr hbd hnest
  rw [hX] at hbd
  have hY : (faultL 3 1 X).length = 8 + n := by rw [faultL_len, few_short (by omega), hX]
  have hZ : (putL 5 1 1 2 (faultL 3 1 X)).length = 28 + n := by rw [put_len, hY]; omega
  have hzh := nest_head (Y := faultL 3 1 X) (by omega)
  have hzg := nest_get (faultL 3 1 X)
  rw [← hzg] at hnest
  rw [hZ] at hzh hnest
  clear hzg
  have hfault := fun W (g c1 : Nat) (ho : Own .u8 5 W w.heap.size (.slice (some ⟨g, 0, none⟩) n c1) X) (h1 : n ≤ c1) (h2 : c1 ≤ 9223372036854775807) => pFault_any 3 1 X (some ⟨g, 0, none⟩) n c1 _ W (ho.rd hX) (Nat.le_refl _) h1 h2
  have hput := fun W (g c1 : Nat) (ho : Own .u8 5 W w.heap.size (.slice (some ⟨g, 0, none⟩) (8 + n) c1) (faultL 3 1 X)) => rPut_any 0 0 5 1 1 2 (faultL 3 1 X) (some ⟨g, 0, none⟩) (8 + n) c1 _ W (ho.rd hY) (Nat.le_refl _) (by omega) (by omega) (by omega) (by omega) (by omega)
  unfold rPutRes at hput
  obtain ⟨Y, hYe⟩ : ∃ Y, Y = faultL 3 1 X := ⟨_, rfl⟩
  rw [← hYe] at hY hZ hzh hput hnest
  simp only [← hYe] at hfault
  clear hYe
  obtain ⟨Z, hZe⟩ : ∃ Z, Z = putL 5 1 1 2 Y := ⟨_, rfl⟩
  rw [← hZe] at hZ hzh hput hnest
  clear hZe
  obtain ⟨y, hye⟩ : ∃ y, 8 + n = y := ⟨_, rfl⟩
  obtain ⟨z, hze⟩ : ∃ z, 28 + n = z := ⟨_, rfl⟩
  rw [hye] at hY hput
  rw [hze] at hZ hzh hnest
  have hy1 : 36 ≤ y ∧ y ≤ 138 := by omega
  have hz1 : 56 ≤ z ∧ z ≤ 158 := by omega
  clear hye hze
  obtain ⟨E, ⟨pr, sr, ds, fl, ki, co, er, ⟨i0, i1, i2, i3, i4, i5⟩, pa, ba⟩, hR⟩ : ∃ (E : Int) (p : Pt), getR ⟨20, z, 5, 1, 1, 2⟩ Z = (E, p) := ⟨_, _, rfl⟩
  have hpg := fun W (g c1 : Nat) (ho : Own .u8 5 W w.heap.size (.slice (some ⟨g, 0, none⟩) z c1) Z) (h1 : z ≤ c1) (h2 : c1 ≤ 9223372036854775807) => PGet_any ⟨20, z, 5, 1, 1, 2⟩ Z (some ⟨g, 0, none⟩) z c1 _ W (ho.rd hZ) (Nat.le_refl _) h1 h2 (by omega) (by show (0:Int) ≤ 1 ∧ (1:Int) ≤ _; omega) (by show (0:Int) ≤ 2 ∧ (2:Int) ≤ _; omega)
  rw [hR] at hpg hnest
  simp only [Tells, Pt.val, Hd.val] at hpg
  clear hR
  replace hnest := congrArg Prod.fst hnest
  simp only at hnest
  subst hnest
  replace hX := Lib.hid hX
  replace hY := Lib.hid hY
  replace hZ := Lib.hid hZ
  replace hfr := Lib.hid hfr
  replace hfault := Lib.hid hfault
  replace hput := Lib.hid hput
  replace hpg := Lib.hid hpg
  replace hgt := Lib.hid hgt
  go_enter Try.func7, Try.ntmps7
  go_upto_region 1 with fail
  have bn := Blk.new w 26 #[.int .i64 wt, .int .u32 s, .int .u32 d, .int .u16 a, .int .u16 b, .int .i64 f, .slice A len cap]
  have bel := bel_alloc w (.cells #[.int .i64 wt, .int .u32 s, .int .u32 d, .int .u16 a, .int .u16 b, .int .i64 f, .slice A len cap] 26)
  generalize w.alloc (.cells #[.int .i64 wt, .int .u32 s, .int .u32 d, .int .u16 a, .int .u16 b, .int .i64 f, .slice A len cap] 26) = W at *
  have hgl := bn.lt
  have hgb := bel.size
  have bi := (Blk.new W 26 #[.int .i64 0, .int .u32 0, .int .u32 0, .int .u16 0, .int .u16 0, .int .i64 0, .slice none 0 0]).setRow #[.int .i64 wt, .int .u32 s, .int .u32 d, .int .u16 a, .int .u16 b, .int .i64 f, .slice A len cap]
  have bn2 := (bn.alloc (.cells #[.int .i64 0, .int .u32 0, .int .u32 0, .int .u16 0, .int .u16 0, .int .i64 0, .slice none 0 0] 26)).setRow_far (g' := W.heap.size) (by omega) #[.int .i64 wt, .int .u32 s, .int .u32 d, .int .u16 a, .int .u16 b, .int .i64 f, .slice A len cap]
  replace bel := below_setRow (bel.alloc bel.size (.cells #[.int .i64 0, .int .u32 0, .int .u32 0, .int .u16 0, .int .u16 0, .int .i64 0, .slice none 0 0] 26)) bel.size #[.int .i64 wt, .int .u32 s, .int .u32 d, .int .u16 a, .int .u16 b, .int .i64 f, .slice A len cap]
  go_upto_region 2 with (first
    | (refine wpList_ldRow rfl rfl rfl bn Try.underlying26 sn_size ?_)
    | (refine wpList_stRow rfl rfl rfl rfl rfl (Blk.new W _ _) sn_size rfl (by simp [Value.oneCell']) ?_; clear bn; generalize (W.alloc (.cells #[.int .i64 0, .int .u32 0, .int .u32 0, .int .u16 0, .int .u16 0, .int .i64 0, .slice none 0 0] 26)).setRow W.heap.size #[.int .i64 wt, .int .u32 s, .int .u32 d, .int .u16 a, .int .u16 b, .int .i64 f, .slice A len cap] = W1 at *; generalize W.heap.size = gi at *))
  have q0 := bn2.cell 0
  have r0 := bi.cell 0
  have f0 := bi.frozen 0
  have hgi : w.heap.size ≤ gi := by omega
  replace bi : Blk _ gi 26 #[.int .i64 (k : Int), .int .u32 s, .int .u32 d, .int .u16 a, .int .u16 b, .int .i64 f, .slice A len cap] := (bi.set_ 0 (.int .i64 (k4 : Int))).set_ 0 (.int .i64 (k : Int))
  replace bel := (bel.setCell (p := ⟨gi, 0, none⟩) hgi (.int .i64 (k4 : Int))).setCell (p := ⟨gi, 0, none⟩) hgi (.int .i64 (k : Int))
  go_upto_region 5 with fail
  generalize (W1.setCell ⟨gi, 0, none⟩ (.int .i64 (k4 : Int))).setCell ⟨gi, 0, none⟩ (.int .i64 (k : Int)) = W2 at *
  go_wp2_with (refine wpList_ldRow rfl rfl rfl bi Try.underlying26 sn_size ?_)
  refine (hfr.out _ bel).mono ?_
  rintro e w1 ⟨v1, rfl, own1, bel1⟩
  replace own1 := own1.mono_ bel.size
  replace bel := bel_after bel bel1
  clear bel1 bi bn2 q0 r0 f0
  obtain ⟨g, c1, rfl, hc1, hc2, hg1, hg2⟩ := own1.formG hX.out (by omega)
  unfold maxLen at hc2
  go_wp2_with fail
  refine (hfault.out _ g c1 own1 hc1 (by omega)).mono ?_
  rintro e w2 ⟨v2, rfl, own2, bel2⟩
  replace own2 := own2.mono_ bel.size
  replace own1 := own1.below bel2
  replace bel := bel_after bel bel2
  clear bel2
  obtain ⟨g2, c2, rfl, hd1, hd2, hd3, hd4⟩ := own2.formG hY.out (by omega)
  unfold maxLen at hd2
  go_wp2_with fail
  refine (hput.out _ g2 c2 own2).mono ?_
  rintro e w3 ⟨v3, rfl, own3, bel3⟩
  replace own3 := own3.mono_ bel.size
  replace own1 := own1.below bel3
  replace bel := bel_after bel bel3
  clear bel3 own2
  obtain ⟨g3, c3, rfl, he1, he2, he3, he4⟩ := own3.formG hZ.out (by omega)
  unfold maxLen at he2
  have hget := Get_any Z (some ⟨g3, 0, none⟩) z c3 _ w3 (own3.rd hZ.out) (Nat.le_refl _) he1 (by omega) (by omega)
  rw [hzh.1, hzh.2] at hget
  simp only [Hd.val] at hget
  replace hget := Lib.hid hget
  go_wp2_with fail
  refine hget.out.mono ?_
  rintro e w4 ⟨rfl, hb4⟩
  replace own1 := own1.below hb4
  replace own3 := own3.below hb4
  replace bel := bel_after bel hb4
  clear hb4 hget
  have hgl1 : g < w4.heap.size := (own1.lt g rfl).2
  have hgl3 : g3 < w4.heap.size := (own3.lt g3 rfl).2
  have bh := (Blk.new w4 35 #[.int .i64 0, .int .i64 0, .int .i64 0, .int .i64 0, .int .u32 0, .int .u32 0]).setRow #[.int .i64 20, .int .i64 ((z : Nat) : Int), .int .i64 5, .int .i64 1, .int .u32 1, .int .u32 2]
  replace own1 := (own1.alloc (.cells #[.int .i64 0, .int .i64 0, .int .i64 0, .int .i64 0, .int .u32 0, .int .u32 0] 35)).upd (Upd.row (w4.alloc (.cells #[.int .i64 0, .int .i64 0, .int .i64 0, .int .i64 0, .int .u32 0, .int .u32 0] 35)) w4.heap.size #[.int .i64 20, .int .i64 ((z : Nat) : Int), .int .i64 5, .int .i64 1, .int .u32 1, .int .u32 2]) (by intro x hx e; simp [Value.ownBlock] at hx; omega)
  replace own3 := (own3.alloc (.cells #[.int .i64 0, .int .i64 0, .int .i64 0, .int .i64 0, .int .u32 0, .int .u32 0] 35)).upd (Upd.row (w4.alloc (.cells #[.int .i64 0, .int .i64 0, .int .i64 0, .int .i64 0, .int .u32 0, .int .u32 0] 35)) w4.heap.size #[.int .i64 20, .int .i64 ((z : Nat) : Int), .int .i64 5, .int .i64 1, .int .u32 1, .int .u32 2]) (by intro x hx e; simp [Value.ownBlock] at hx; omega)
  replace bel := below_setRow (bel.alloc bel.size (.cells #[.int .i64 0, .int .i64 0, .int .i64 0, .int .i64 0, .int .u32 0, .int .u32 0] 35)) bel.size #[.int .i64 20, .int .i64 ((z : Nat) : Int), .int .i64 5, .int .i64 1, .int .u32 1, .int .u32 2]
  clear hgl1 hgl3
  go_wp2_with (first
    | (refine wpList_stRow rfl rfl rfl rfl rfl (Blk.new w4 _ _) hd_size rfl (by simp [Value.oneCell']) ?_; generalize (w4.alloc (.cells #[.int .i64 0, .int .i64 0, .int .i64 0, .int .i64 0, .int .u32 0, .int .u32 0] 35)).setRow w4.heap.size #[.int .i64 20, .int .i64 ((z : Nat) : Int), .int .i64 5, .int .i64 1, .int .u32 1, .int .u32 2] = W5 at *; generalize w4.heap.size = g4 at *)
    | (refine wpList_ldRow rfl rfl rfl bh Try.underlying35 hd_size ?_))
  refine (hpg.out _ g3 c3 own3 he1 (by omega)).mono ?_
  rintro e w5 ⟨rfl, hb5⟩
  replace own1 := own1.below hb5
  replace bel := bel_after bel hb5
  clear hb5 own3 bh
  have hgl1 : g < w5.heap.size := (own1.lt g rfl).2
  have bp := (Blk.new w5 37 #[.int .i64 0, .int .u16 0, .int .u16 0, .int .i64 0, .int .i64 0, .int .i64 0, .bool false, .int .i64 0, .int .i64 0, .int .i64 0, .int .i64 0, .int .u32 0, .int .u32 0, .int .i64 0, .bool false]).setRow #[.int .i64 pr, .int .u16 sr, .int .u16 ds, .int .i64 fl, .int .i64 ki, .int .i64 co, .bool er, .int .i64 i0, .int .i64 i1, .int .i64 i2, .int .i64 i3, .int .u32 i4, .int .u32 i5, .int .i64 pa, .bool ba]
  replace own1 := (own1.alloc (.cells #[.int .i64 0, .int .u16 0, .int .u16 0, .int .i64 0, .int .i64 0, .int .i64 0, .bool false, .int .i64 0, .int .i64 0, .int .i64 0, .int .i64 0, .int .u32 0, .int .u32 0, .int .i64 0, .bool false] 37)).upd (Upd.row (w5.alloc (.cells #[.int .i64 0, .int .u16 0, .int .u16 0, .int .i64 0, .int .i64 0, .int .i64 0, .bool false, .int .i64 0, .int .i64 0, .int .i64 0, .int .i64 0, .int .u32 0, .int .u32 0, .int .i64 0, .bool false] 37)) w5.heap.size #[.int .i64 pr, .int .u16 sr, .int .u16 ds, .int .i64 fl, .int .i64 ki, .int .i64 co, .bool er, .int .i64 i0, .int .i64 i1, .int .i64 i2, .int .i64 i3, .int .u32 i4, .int .u32 i5, .int .i64 pa, .bool ba]) (by intro x hx e; simp [Value.ownBlock] at hx; omega)
  replace bel := below_setRow (bel.alloc bel.size (.cells #[.int .i64 0, .int .u16 0, .int .u16 0, .int .i64 0, .int .i64 0, .int .i64 0, .bool false, .int .i64 0, .int .i64 0, .int .i64 0, .int .i64 0, .int .u32 0, .int .u32 0, .int .i64 0, .bool false] 37)) bel.size #[.int .i64 pr, .int .u16 sr, .int .u16 ds, .int .i64 fl, .int .i64 ki, .int .i64 co, .bool er, .int .i64 i0, .int .i64 i1, .int .i64 i2, .int .i64 i3, .int .u32 i4, .int .u32 i5, .int .i64 pa, .bool ba]
  clear hgl1
  go_wp2_with (refine wpList_stRow rfl rfl rfl rfl rfl (Blk.new w5 _ _) pt_size rfl (by simp [Value.oneCell']) ?_; generalize (w5.alloc (.cells #[.int .i64 0, .int .u16 0, .int .u16 0, .int .i64 0, .int .i64 0, .int .i64 0, .bool false, .int .i64 0, .int .i64 0, .int .i64 0, .int .i64 0, .int .u32 0, .int .u32 0, .int .i64 0, .bool false] 37)).setRow w5.heap.size #[.int .i64 pr, .int .u16 sr, .int .u16 ds, .int .i64 fl, .int .i64 ki, .int .i64 co, .bool er, .int .i64 i0, .int .i64 i1, .int .i64 i2, .int .i64 i3, .int .u32 i4, .int .u32 i5, .int .i64 pa, .bool ba] = W6 at *; generalize w5.heap.size = g1 at *)
  refine (parts_any _).mono ?_
  rintro e w6 ⟨rfl, hb6⟩
  replace own1 := own1.below hb6
  replace bp := bp.bel hb6
  replace bel := bel_after bel hb6
  clear hb6
  go_wp2
  go_ret
  exact ⟨rfl, bel⟩
theorem got_proto {k : Nat} {a b f : Int} : (gotP k a b f).proto = carP k := by
  unfold gotP carP
  split
  · rfl
  split
  · rfl
  · rfl
set_option maxRecDepth 100000 in
set_option maxHeartbeats 4000000 in
theorem PartNests_flat (wt s d a b f : Int) (l : List Int) (A : Option Addr) (len cap : Nat) (w : World) (hr : Rd .u8 w w.heap.size A len l) (hlc : len ≤ cap) (hcm : cap ≤ maxLen) (hs : 0 ≤ s ∧ s ≤ 4294967295) (hd : 0 ≤ d ∧ d ≤ 4294967295) (ha : 0 ≤ a ∧ a ≤ 65535) (hb : 0 ≤ b ∧ b ≤ 65535) :
    Calls Try.prog 7 #[.agg #[.int .i64 wt, .int .u32 s, .int .u32 d, .int .u16 a, .int .u16 b, .int .i64 f, .slice A len cap], .bool false] w fun e w' => e = .returned (.bool true) ∧ Below w.heap.size w w' := by
  obtain ⟨k, hk4, hk4b⟩ := modn wt 4 (by omega)
  have hkv : Value.int .u64 ((IntKind.u64.wrap wt).tmod 4) = .int .u64 (k : Int) := by rw [hk4]
  have hkb : k < 4 := by omega
  clear hk4
  unfold maxLen at hcm
  have hfr := fun w' (h : Below w.heap.size w w') => Frame_any k s d a b f l A len cap k w' ((hr.below h).more h.size) hlc hcm hs hd ha hb (modk k (by omega)) (by omega)
  have hl8 : Bytes8 (l.take 40) := fun x hx => inr_u8 (hr.rng x (List.mem_of_mem_take hx))
  have hlt : (l.take 40).length ≤ 40 := by rw [List.length_take]; omega
  have hbd := frame_bd (k := k) (s := s) (d := d) (a := a) (b := b) (f := f) hlt
  have hgt := frame_get (k := k) (a := a) (b := b) (f := f) hs hd hlt
  obtain ⟨p0, hnest, e1, e2, e3, e4, e5⟩ := car_nest (f := f) (h := ⟨20, ((putL 5 1 1 2 (faultL 3 1 (frameL k s d a b f (l.take 40)))).length : Int), 5, 1, 1, 2⟩) hs hd ha hb hl8 rfl k hkb hlt
  have hgot := frame_got (f := f) hs hd ha hb hl8 hkb
  replace e5 := congrArg Hd.proto e5
  simp only at e5
  rw [← got_proto (a := a) (b := b) (f := f)] at e5
  clear hl8 hlt
  obtain ⟨P, hPe⟩ : ∃ P, P = carP k := ⟨_, rfl⟩
  obtain ⟨X, hXe⟩ : ∃ X, X = frameL k s d a b f (l.take 40) := ⟨_, rfl⟩
  obtain ⟨n, hX⟩ : ∃ n, X.length = n := ⟨_, rfl⟩
  rw [← hPe, ← hXe, hX] at hgt
  rw [← hXe] at hfr hbd hnest
  rw [hX] at hbd
  have hY : (faultL 3 1 X).length = 8 + n := by rw [faultL_len, few_short (by omega), hX]
  have hZ : (putL 5 1 1 2 (faultL 3 1 X)).length = 28 + n := by rw [put_len, hY]; omega
  have hzh := nest_head (Y := faultL 3 1 X) (by omega)
  have hzg := nest_get (faultL 3 1 X)
  rw [← hzg] at hnest
  rw [hZ] at hzh hnest
  clear hzg
  have hfault := fun W (g c1 : Nat) (ho : Own .u8 5 W w.heap.size (.slice (some ⟨g, 0, none⟩) n c1) X) (h1 : n ≤ c1) (h2 : c1 ≤ 9223372036854775807) => pFault_any 3 1 X (some ⟨g, 0, none⟩) n c1 _ W (ho.rd hX) (Nat.le_refl _) h1 h2
  have hput := fun W (g c1 : Nat) (ho : Own .u8 5 W w.heap.size (.slice (some ⟨g, 0, none⟩) (8 + n) c1) (faultL 3 1 X)) => rPut_any 0 0 5 1 1 2 (faultL 3 1 X) (some ⟨g, 0, none⟩) (8 + n) c1 _ W (ho.rd hY) (Nat.le_refl _) (by omega) (by omega) (by omega) (by omega) (by omega)
  unfold rPutRes at hput
  obtain ⟨Y, hYe⟩ : ∃ Y, Y = faultL 3 1 X := ⟨_, rfl⟩
  rw [← hYe] at hY hZ hzh hput hnest
  simp only [← hYe] at hfault
  clear hYe
  obtain ⟨Z, hZe⟩ : ∃ Z, Z = putL 5 1 1 2 Y := ⟨_, rfl⟩
  rw [← hZe] at hZ hzh hput hnest
  clear hZe
  obtain ⟨y, hye⟩ : ∃ y, 8 + n = y := ⟨_, rfl⟩
  obtain ⟨z, hze⟩ : ∃ z, 28 + n = z := ⟨_, rfl⟩
  rw [hye] at hY hput
  rw [hze] at hZ hzh hnest
  have hy1 : 36 ≤ y ∧ y ≤ 138 := by omega
  have hz1 : 56 ≤ z ∧ z ≤ 158 := by omega
  clear hye hze
  obtain ⟨E, ⟨pr, sr, ds, fl, ki, co, er, ⟨i0, i1, i2, i3, i4, i5⟩, pa, ba⟩, hR⟩ : ∃ (E : Int) (p : Pt), getR ⟨20, z, 5, 1, 1, 2⟩ Z = (E, p) := ⟨_, _, rfl⟩
  have hpg := fun W (g c1 : Nat) (ho : Own .u8 5 W w.heap.size (.slice (some ⟨g, 0, none⟩) z c1) Z) (h1 : z ≤ c1) (h2 : c1 ≤ 9223372036854775807) => PGet_any ⟨20, z, 5, 1, 1, 2⟩ Z (some ⟨g, 0, none⟩) z c1 _ W (ho.rd hZ) (Nat.le_refl _) h1 h2 (by omega) (by show (0:Int) ≤ 1 ∧ (1:Int) ≤ _; omega) (by show (0:Int) ≤ 2 ∧ (2:Int) ≤ _; omega)
  rw [hR] at hpg hnest
  simp only [Tells, Pt.val, Hd.val] at hpg
  clear hR
  rw [← hXe, ← hPe, hX] at hgot
  obtain ⟨rfl, rfl⟩ := Prod.mk.inj hnest
  simp only at e1 e2 e3 e4 e5
  obtain ⟨⟨xpr, xsr, xds, xfl, xki, xco, xer, ⟨xi0, xi1, xi2, xi3, xi4, xi5⟩, xpa, xba⟩, hQ⟩ : ∃ Q, Q = gotP k a b f := ⟨_, rfl⟩
  rw [← hQ] at hgot e3 e4 e5
  simp only at e3 e4 e5
  replace e1 := Lib.hid e1
  replace e2 := Lib.hid e2
  replace e3 := Lib.hid e3
  replace e4 := Lib.hid e4
  replace e5 := Lib.hid e5
  have hrg := fun W (g c1 : Nat) (ho : Own .u8 5 W w.heap.size (.slice (some ⟨g, 0, none⟩) n c1) X) (h1 : n ≤ c1) (h2 : c1 ≤ 9223372036854775807) => rPGet_any ⟨20, n, 64, P, s, d⟩ X (some ⟨g, 0, none⟩) n c1 _ W (ho.rd hX) (Nat.le_refl _) h1 h2 (by omega) hs hd
  rw [hgot] at hrg
  simp only [Tells, Pt.val, Hd.val] at hrg
  clear hgot hQ hXe hPe hnest
  replace hrg := Lib.hid hrg
  replace hX := Lib.hid hX
  replace hY := Lib.hid hY
  replace hZ := Lib.hid hZ
  replace hfr := Lib.hid hfr
  replace hfault := Lib.hid hfault
  replace hput := Lib.hid hput
  replace hpg := Lib.hid hpg
  replace hgt := Lib.hid hgt
  go_enter Try.func7, Try.ntmps7
  go_upto_region 1 with fail
  have bn := Blk.new w 26 #[.int .i64 wt, .int .u32 s, .int .u32 d, .int .u16 a, .int .u16 b, .int .i64 f, .slice A len cap]
  have bel := bel_alloc w (.cells #[.int .i64 wt, .int .u32 s, .int .u32 d, .int .u16 a, .int .u16 b, .int .i64 f, .slice A len cap] 26)
  generalize w.alloc (.cells #[.int .i64 wt, .int .u32 s, .int .u32 d, .int .u16 a, .int .u16 b, .int .i64 f, .slice A len cap] 26) = W at *
  have hgl := bn.lt
  have hgb := bel.size
  have bi := (Blk.new W 26 #[.int .i64 0, .int .u32 0, .int .u32 0, .int .u16 0, .int .u16 0, .int .i64 0, .slice none 0 0]).setRow #[.int .i64 wt, .int .u32 s, .int .u32 d, .int .u16 a, .int .u16 b, .int .i64 f, .slice A len cap]
  have bn2 := (bn.alloc (.cells #[.int .i64 0, .int .u32 0, .int .u32 0, .int .u16 0, .int .u16 0, .int .i64 0, .slice none 0 0] 26)).setRow_far (g' := W.heap.size) (by omega) #[.int .i64 wt, .int .u32 s, .int .u32 d, .int .u16 a, .int .u16 b, .int .i64 f, .slice A len cap]
  replace bel := below_setRow (bel.alloc bel.size (.cells #[.int .i64 0, .int .u32 0, .int .u32 0, .int .u16 0, .int .u16 0, .int .i64 0, .slice none 0 0] 26)) bel.size #[.int .i64 wt, .int .u32 s, .int .u32 d, .int .u16 a, .int .u16 b, .int .i64 f, .slice A len cap]
  go_upto_region 2 with (first
    | (refine wpList_ldRow rfl rfl rfl bn Try.underlying26 sn_size ?_)
    | (refine wpList_stRow rfl rfl rfl rfl rfl (Blk.new W _ _) sn_size rfl (by simp [Value.oneCell']) ?_; clear bn; generalize (W.alloc (.cells #[.int .i64 0, .int .u32 0, .int .u32 0, .int .u16 0, .int .u16 0, .int .i64 0, .slice none 0 0] 26)).setRow W.heap.size #[.int .i64 wt, .int .u32 s, .int .u32 d, .int .u16 a, .int .u16 b, .int .i64 f, .slice A len cap] = W1 at *; generalize W.heap.size = gi at *))
  have q0 := bn2.cell 0
  have r0 := bi.cell 0
  have f0 := bi.frozen 0
  have hgi : w.heap.size ≤ gi := by omega
  replace bi : Blk _ gi 26 #[.int .i64 (k : Int), .int .u32 s, .int .u32 d, .int .u16 a, .int .u16 b, .int .i64 f, .slice A len cap] := bi.set_ 0 (.int .i64 (k : Int))
  replace bel := bel.setCell (p := ⟨gi, 0, none⟩) hgi (.int .i64 (k : Int))
  go_upto_region 5 with fail
  generalize W1.setCell ⟨gi, 0, none⟩ (.int .i64 (k : Int)) = W2 at *
  go_wp2_with (refine wpList_ldRow rfl rfl rfl bi Try.underlying26 sn_size ?_)
  refine (hfr.out _ bel).mono ?_
  rintro e w1 ⟨v1, rfl, own1, bel1⟩
  replace own1 := own1.mono_ bel.size
  replace bel := bel_after bel bel1
  clear bel1 bi bn2 q0 r0 f0
  obtain ⟨g, c1, rfl, hc1, hc2, hg1, hg2⟩ := own1.formG hX.out (by omega)
  unfold maxLen at hc2
  go_wp2_with fail
  refine (hfault.out _ g c1 own1 hc1 (by omega)).mono ?_
  rintro e w2 ⟨v2, rfl, own2, bel2⟩
  replace own2 := own2.mono_ bel.size
  replace own1 := own1.below bel2
  replace bel := bel_after bel bel2
  clear bel2
  obtain ⟨g2, c2, rfl, hd1, hd2, hd3, hd4⟩ := own2.formG hY.out (by omega)
  unfold maxLen at hd2
  go_wp2_with fail
  refine (hput.out _ g2 c2 own2).mono ?_
  rintro e w3 ⟨v3, rfl, own3, bel3⟩
  replace own3 := own3.mono_ bel.size
  replace own1 := own1.below bel3
  replace bel := bel_after bel bel3
  clear bel3 own2
  obtain ⟨g3, c3, rfl, he1, he2, he3, he4⟩ := own3.formG hZ.out (by omega)
  unfold maxLen at he2
  have hget := Get_any Z (some ⟨g3, 0, none⟩) z c3 _ w3 (own3.rd hZ.out) (Nat.le_refl _) he1 (by omega) (by omega)
  rw [hzh.1, hzh.2] at hget
  simp only [Hd.val] at hget
  replace hget := Lib.hid hget
  go_wp2_with fail
  refine hget.out.mono ?_
  rintro e w4 ⟨rfl, hb4⟩
  replace own1 := own1.below hb4
  replace own3 := own3.below hb4
  replace bel := bel_after bel hb4
  clear hb4 hget
  have hgl1 : g < w4.heap.size := (own1.lt g rfl).2
  have hgl3 : g3 < w4.heap.size := (own3.lt g3 rfl).2
  have bh := (Blk.new w4 35 #[.int .i64 0, .int .i64 0, .int .i64 0, .int .i64 0, .int .u32 0, .int .u32 0]).setRow #[.int .i64 20, .int .i64 ((z : Nat) : Int), .int .i64 5, .int .i64 1, .int .u32 1, .int .u32 2]
  replace own1 := (own1.alloc (.cells #[.int .i64 0, .int .i64 0, .int .i64 0, .int .i64 0, .int .u32 0, .int .u32 0] 35)).upd (Upd.row (w4.alloc (.cells #[.int .i64 0, .int .i64 0, .int .i64 0, .int .i64 0, .int .u32 0, .int .u32 0] 35)) w4.heap.size #[.int .i64 20, .int .i64 ((z : Nat) : Int), .int .i64 5, .int .i64 1, .int .u32 1, .int .u32 2]) (by intro x hx e; simp [Value.ownBlock] at hx; omega)
  replace own3 := (own3.alloc (.cells #[.int .i64 0, .int .i64 0, .int .i64 0, .int .i64 0, .int .u32 0, .int .u32 0] 35)).upd (Upd.row (w4.alloc (.cells #[.int .i64 0, .int .i64 0, .int .i64 0, .int .i64 0, .int .u32 0, .int .u32 0] 35)) w4.heap.size #[.int .i64 20, .int .i64 ((z : Nat) : Int), .int .i64 5, .int .i64 1, .int .u32 1, .int .u32 2]) (by intro x hx e; simp [Value.ownBlock] at hx; omega)
  replace bel := below_setRow (bel.alloc bel.size (.cells #[.int .i64 0, .int .i64 0, .int .i64 0, .int .i64 0, .int .u32 0, .int .u32 0] 35)) bel.size #[.int .i64 20, .int .i64 ((z : Nat) : Int), .int .i64 5, .int .i64 1, .int .u32 1, .int .u32 2]
  clear hgl1 hgl3
  go_wp2_with (first
    | (refine wpList_stRow rfl rfl rfl rfl rfl (Blk.new w4 _ _) hd_size rfl (by simp [Value.oneCell']) ?_; generalize (w4.alloc (.cells #[.int .i64 0, .int .i64 0, .int .i64 0, .int .i64 0, .int .u32 0, .int .u32 0] 35)).setRow w4.heap.size #[.int .i64 20, .int .i64 ((z : Nat) : Int), .int .i64 5, .int .i64 1, .int .u32 1, .int .u32 2] = W5 at *; generalize w4.heap.size = g4 at *)
    | (refine wpList_ldRow rfl rfl rfl bh Try.underlying35 hd_size ?_))
  refine (hpg.out _ g3 c3 own3 he1 (by omega)).mono ?_
  rintro e w5 ⟨rfl, hb5⟩
  replace own1 := own1.below hb5
  replace bel := bel_after bel hb5
  clear hb5 own3 bh
  have hgl1 : g < w5.heap.size := (own1.lt g rfl).2
  have bp := (Blk.new w5 37 #[.int .i64 0, .int .u16 0, .int .u16 0, .int .i64 0, .int .i64 0, .int .i64 0, .bool false, .int .i64 0, .int .i64 0, .int .i64 0, .int .i64 0, .int .u32 0, .int .u32 0, .int .i64 0, .bool false]).setRow #[.int .i64 pr, .int .u16 sr, .int .u16 ds, .int .i64 fl, .int .i64 ki, .int .i64 co, .bool er, .int .i64 i0, .int .i64 i1, .int .i64 i2, .int .i64 i3, .int .u32 i4, .int .u32 i5, .int .i64 pa, .bool ba]
  replace own1 := (own1.alloc (.cells #[.int .i64 0, .int .u16 0, .int .u16 0, .int .i64 0, .int .i64 0, .int .i64 0, .bool false, .int .i64 0, .int .i64 0, .int .i64 0, .int .i64 0, .int .u32 0, .int .u32 0, .int .i64 0, .bool false] 37)).upd (Upd.row (w5.alloc (.cells #[.int .i64 0, .int .u16 0, .int .u16 0, .int .i64 0, .int .i64 0, .int .i64 0, .bool false, .int .i64 0, .int .i64 0, .int .i64 0, .int .i64 0, .int .u32 0, .int .u32 0, .int .i64 0, .bool false] 37)) w5.heap.size #[.int .i64 pr, .int .u16 sr, .int .u16 ds, .int .i64 fl, .int .i64 ki, .int .i64 co, .bool er, .int .i64 i0, .int .i64 i1, .int .i64 i2, .int .i64 i3, .int .u32 i4, .int .u32 i5, .int .i64 pa, .bool ba]) (by intro x hx e; simp [Value.ownBlock] at hx; omega)
  replace bel := below_setRow (bel.alloc bel.size (.cells #[.int .i64 0, .int .u16 0, .int .u16 0, .int .i64 0, .int .i64 0, .int .i64 0, .bool false, .int .i64 0, .int .i64 0, .int .i64 0, .int .i64 0, .int .u32 0, .int .u32 0, .int .i64 0, .bool false] 37)) bel.size #[.int .i64 pr, .int .u16 sr, .int .u16 ds, .int .i64 fl, .int .i64 ki, .int .i64 co, .bool er, .int .i64 i0, .int .i64 i1, .int .i64 i2, .int .i64 i3, .int .u32 i4, .int .u32 i5, .int .i64 pa, .bool ba]
  clear hgl1
  go_wp2_with (refine wpList_stRow rfl rfl rfl rfl rfl (Blk.new w5 _ _) pt_size rfl (by simp [Value.oneCell']) ?_; generalize (w5.alloc (.cells #[.int .i64 0, .int .u16 0, .int .u16 0, .int .i64 0, .int .i64 0, .int .i64 0, .bool false, .int .i64 0, .int .i64 0, .int .i64 0, .int .i64 0, .int .u32 0, .int .u32 0, .int .i64 0, .bool false] 37)).setRow w5.heap.size #[.int .i64 pr, .int .u16 sr, .int .u16 ds, .int .i64 fl, .int .i64 ki, .int .i64 co, .bool er, .int .i64 i0, .int .i64 i1, .int .i64 i2, .int .i64 i3, .int .u32 i4, .int .u32 i5, .int .i64 pa, .bool ba] = W6 at *; generalize w5.heap.size = g1 at *)
  refine (parts_any _).mono ?_
  rintro e w6 ⟨rfl, hb6⟩
  replace own1 := own1.below hb6
  replace bp := bp.bel hb6
  replace bel := bel_after bel hb6
  clear hb6
  go_wp2_with fail
  refine (must_any X 20 n 64 P s d (some ⟨g, 0, none⟩) n c1 _ _ (own1.rd hX.out) (Nat.le_refl _) hc1 (by omega) (by omega) hgt.out.1 hgt.out.2).mono ?_
  rintro e w7 ⟨rfl, hb7⟩
  replace own1 := own1.below hb7
  replace bp := bp.bel hb7
  replace bel := bel_after bel hb7
  clear hb7
  go_wp2_with fail
  refine (From_any _ _ _ _ _ _ _).mono ?_
  rintro e w8 ⟨rfl, hb7⟩
  replace own1 := own1.below hb7
  replace bp := bp.bel hb7
  replace bel := bel_after bel hb7
  clear hb7
  go_wp2_with fail
  refine (hrg.out _ g c1 own1 hc1 (by omega)).mono ?_
  rintro e w9 ⟨rfl, hb7⟩
  replace bp := bp.bel hb7
  replace bel := bel_after bel hb7
  clear hb7 own1
  have hgl1 := bp.lt
  have bq := (Blk.new w9 42 #[.int .i64 0, .int .u16 0, .int .u16 0, .int .i64 0, .int .i64 0, .int .i64 0, .bool false, .int .i64 0, .int .i64 0, .int .i64 0, .int .i64 0, .int .u32 0, .int .u32 0, .int .i64 0, .bool false]).setRow #[.int .i64 xpr, .int .u16 xsr, .int .u16 xds, .int .i64 xfl, .int .i64 xki, .int .i64 xco, .bool xer, .int .i64 xi0, .int .i64 xi1, .int .i64 xi2, .int .i64 xi3, .int .u32 xi4, .int .u32 xi5, .int .i64 xpa, .bool xba]
  replace bp := (bp.alloc (.cells #[.int .i64 0, .int .u16 0, .int .u16 0, .int .i64 0, .int .i64 0, .int .i64 0, .bool false, .int .i64 0, .int .i64 0, .int .i64 0, .int .i64 0, .int .u32 0, .int .u32 0, .int .i64 0, .bool false] 42)).setRow_far (g' := w9.heap.size) (by omega) #[.int .i64 xpr, .int .u16 xsr, .int .u16 xds, .int .i64 xfl, .int .i64 xki, .int .i64 xco, .bool xer, .int .i64 xi0, .int .i64 xi1, .int .i64 xi2, .int .i64 xi3, .int .u32 xi4, .int .u32 xi5, .int .i64 xpa, .bool xba]
  replace bel := below_setRow (bel.alloc bel.size (.cells #[.int .i64 0, .int .u16 0, .int .u16 0, .int .i64 0, .int .i64 0, .int .i64 0, .bool false, .int .i64 0, .int .i64 0, .int .i64 0, .int .i64 0, .int .u32 0, .int .u32 0, .int .i64 0, .bool false] 42)) bel.size #[.int .i64 xpr, .int .u16 xsr, .int .u16 xds, .int .i64 xfl, .int .i64 xki, .int .i64 xco, .bool xer, .int .i64 xi0, .int .i64 xi1, .int .i64 xi2, .int .i64 xi3, .int .u32 xi4, .int .u32 xi5, .int .i64 xpa, .bool xba]
  have p1 := (bp.cell 1).trans (show _ = some (Value.int .u16 xsr) by rw [← show sr = xsr from e3.out]; rfl)
  have p2 := (bp.cell 2).trans (show _ = some (Value.int .u16 xds) by rw [← show ds = xds from e4.out]; rfl)
  have p6 := (bp.cell 6).trans (show _ = some (Value.bool true) by rw [← show er = true from e1.out]; rfl)
  have p10 := (bp.cell 10).trans (show _ = some (Value.int .i64 xpr) by rw [← show i3 = xpr from e5.out]; rfl)
  have p13 := (bp.cell 13).trans (show _ = some (Value.int .i64 28) by rw [← show pa = 28 from e2.out]; rfl)
  have x0 := bq.cell 0
  have x1 := bq.cell 1
  have x2 := bq.cell 2
  go_wp2_with (refine wpList_stRow rfl rfl rfl rfl rfl (Blk.new w9 _ _) rpt_size rfl (by simp [Value.oneCell']) ?_; generalize (w9.alloc (.cells #[.int .i64 0, .int .u16 0, .int .u16 0, .int .i64 0, .int .i64 0, .int .i64 0, .bool false, .int .i64 0, .int .i64 0, .int .i64 0, .int .i64 0, .int .u32 0, .int .u32 0, .int .i64 0, .bool false] 42)).setRow w9.heap.size #[.int .i64 xpr, .int .u16 xsr, .int .u16 xds, .int .i64 xfl, .int .i64 xki, .int .i64 xco, .bool xer, .int .i64 xi0, .int .i64 xi1, .int .i64 xi2, .int .i64 xi3, .int .u32 xi4, .int .u32 xi5, .int .i64 xpa, .bool xba] = W7 at *; generalize w9.heap.size = g7 at *)
  go_ret
  exact ⟨rfl, bel⟩
theorem PartNests_args (W : World) (args : Array Value) (hs : args.size = Try.f7.params.size) (hA : ∀ (j : Nat) t v, Try.f7.params[j]? = some t → args[j]? = some v → Arg Try.prog W t v) :
    Calls Try.prog 7 args W fun e W' => e = .returned (.bool true) ∧ Below W.heap.size W W' := by
  obtain ⟨v0, v1, rfl⟩ := args2 hs
  obtain ⟨wt, s, d, a, b, f, A, len, cap, l, rfl, h1, h2, h3, h4, h5, h6, h7⟩ := arg_sent (hA 0 26 v0 rfl rfl)
  obtain ⟨x, rfl⟩ := arg_bool Try.underlying4 (hA 1 4 v1 rfl rfl)
  cases x with
  | true => exact PartNests_deep wt s d a b f l A len cap W h7 h5 h6 h1 h2 h3 h4
  | false => exact PartNests_flat wt s d a b f l A len cap W h7 h5 h6 h1 h2 h3 h4

set_option maxRecDepth 100000 in
theorem PartNests_lifted (os : Os) (started : os.Started) (H : Type) (enc : TypeId × Value → H) :
    ReturnsInHanded {} Try.checked os 7 .any (Rows.partNestsSpec.pre6 enc Try.prog Try.f7 Rows.partNestsRow.domain false) (Rows.partNestsSpec.post enc Try.prog Try.f7 false true false false) :=
  law_lifted os started H enc (by kernel_rfl) Try.func7 rfl rfl (fun H ds h => by match ds, h with | [_, _], _ => exact ⟨rfl, rfl, rfl⟩) (by kernel_rfl)
    (ChangeSpec.witness6 (enc := enc) (C := Try.checked) false ⟨#[], #[.agg #[.int .i64 0, .int .u32 0, .int .u32 0, .int .u16 0, .int .u16 0, .int .i64 0, .slice none 0 0], .bool false], []⟩ 8 (by kernel_rfl) (by kernel_rfl) (by kernel_rfl) (by kernel_rfl))
    PartNests_args

/-- the statement -/
theorem partNests_holds : Rows.PartNestsSaid :=
  OpenClaim.holds_of_wide 7 Try.f7 rfl rfl rfl rfl rfl rfl rfl ⟨rfl, rfl, rfl, rfl, rfl⟩ rfl rfl rfl rfl rfl (by kernel_rfl) Try.func7 (by kernel_rfl)
    (of_decide_eq_true (by kernel_rfl)) (by unfold Func.isWrapper; first | (rw [if_pos (by decide +kernel)]; kernel_rfl) | (rw [if_neg (by decide +kernel)]; exact ⟨rfl, rfl⟩))
    (fun os started H enc _ => PartNests_lifted os started H enc)

end Go.Proofs.Ytfkmallagficfaa
