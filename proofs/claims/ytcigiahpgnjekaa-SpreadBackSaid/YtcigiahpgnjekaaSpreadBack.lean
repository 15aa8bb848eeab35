/- Every input of SpreadBack answers true, and reads behind the call as it read before. No condition. -/
import Derived.Test.YtcigiahpgnjekaaSpreadAll
import Derived.Test.YtcigiahpgnjekaaBackPlain
namespace Go.Proofs.Ytcigiahpgnjekaa
set_option linter.unusedVariables false
set_option linter.unusedSimpArgs false
open Go.RowKit
theorem workR_of {k : Int} {out : Bool} {l : List Int} {fl : Fl} (h : farR out l = (0, fl)) (hk : 1 ≤ k) : workR k out l = hashR fl % k := by
  unfold workR
  rw [h]
  exact if_neg (by intro e; rcases e with e | e; exact e rfl; omega)
theorem mod_nat (H : Int) (n : Nat) (h : 1 ≤ n) : ∃ K : Nat, H % (n : Int) = (K : Int) ∧ K < n := by
  have h1 := Int.emod_nonneg H (b := (n : Int)) (by omega)
  have h2 := Int.emod_lt_of_pos H (b := (n : Int)) (by omega)
  exact ⟨(H % (n : Int)).toNat, by omega, by omega⟩
theorem u32_xor_bd (d : Int) : 0 ≤ bits .xor .u32 d 1 ∧ bits .xor .u32 d 1 ≤ 4294967295 := by
  have h : ∀ v : Int, 0 ≤ IntKind.u32.wrap v ∧ IntKind.u32.wrap v ≤ 4294967295 := fun v => by rw [IntKind.wrap_u32' v]; omega
  exact h _
set_option maxRecDepth 100000 in
set_option maxHeartbeats 2000000 in
theorem SpreadBack_walk (wt s d a b f ou po : Int) (l : List Int) (A : Option Addr) (len cap : Nat) (w : World) (hr : Rd .u8 w w.heap.size A len l) (hlc : len ≤ cap) (hcm : cap ≤ maxLen) (hs : 0 ≤ s ∧ s ≤ 4294967295) (hd : 0 ≤ d ∧ d ≤ 4294967295) (ha : 0 ≤ a ∧ a ≤ 65535) (hb : 0 ≤ b ∧ b ≤ 65535) (ho : 0 ≤ ou ∧ ou ≤ 4294967295) (hp : 0 ≤ po ∧ po ≤ 65535) :
    Calls Try.prog 4 #[.agg #[.int .i64 wt, .int .u32 s, .int .u32 d, .int .u16 a, .int .u16 b, .int .i64 f, .slice A len cap], .int .u32 ou, .int .u16 po] w fun e w' => e = .returned (.bool true) ∧ Below w.heap.size w w' := by
  unfold maxLen at hcm
  obtain ⟨k, hk, hk3⟩ := modn wt 3 (by omega)
  have hkv : Value.int .u64 ((IntKind.u64.wrap wt).tmod 3) = .int .u64 (k : Int) := by rw [hk]
  have hkb : k < 3 := by omega
  obtain ⟨q, hq, hq64⟩ := modn f 64 (by omega)
  have hqv : Value.int .u64 ((IntKind.u64.wrap f).tmod 64) = .int .u64 (q : Int) := by rw [hq]
  obtain ⟨wn, hwn, hwn1⟩ : ∃ wn : Nat, 1 + (q : Int) = (wn : Int) ∧ 1 ≤ wn ∧ wn ≤ 64 := ⟨1 + q, by omega, by omega⟩
  clear hk hk3 hq
  obtain ⟨k', b', hk'0, hk'1, hk'4, hb'⟩ : ∃ (k' : Nat) (b' : Int), (k ≠ 2 → k' = k ∧ b' = b) ∧ (k = 2 → k' = 3 ∧ b' = po) ∧ k' < 4 ∧ (0 ≤ b' ∧ b' ≤ 65535) := by
    by_cases h : k = 2
    · exact ⟨3, po, fun h' => absurd h h', fun _ => ⟨rfl, rfl⟩, by omega, hp⟩
    · exact ⟨k, b, fun _ => ⟨rfl, rfl⟩, fun h' => absurd h' h, by omega, hb⟩
  have hl8 : Bytes8 (l.take 40) := fun x hx => inr_u8 (hr.rng x (List.mem_of_mem_take hx))
  have hlt : (l.take 40).length ≤ 40 := by rw [List.length_take]; omega
  obtain ⟨v, hv⟩ : ∃ v, bits .xor .u32 d 1 = v := ⟨_, rfl⟩
  have hvb := u32_xor_bd d
  rw [hv] at hvb
  have f1 := fun w' (h : Below w.heap.size w w') => Frame_any k s d a b f l A len cap k w' ((hr.below h).more h.size) hlc hcm hs hd ha hb (modk k (by omega)) (by omega)
  have f2 := fun w' (h : Below w.heap.size w w') => Frame_any k' d ou b' po f l A len cap k' w' ((hr.below h).more h.size) hlc hcm hd ho hb' hp (modk k' (by omega)) (by omega)
  have f3 := fun w' (h : Below w.heap.size w w') => Frame_any k ou d po b f l A len cap k w' ((hr.below h).more h.size) hlc hcm ho hd hp hb (modk k (by omega)) (by omega)
  have r1 := far_out (f := f) hs hd ha hb hl8 hlt (k := k) (by omega)
  have r2 := far_in (f := f) hd ho hb' hp hl8 hlt (k := k') hk'4
  have r3 := far_about (f := f) ho hd hp hb hl8 hlt (k := k) (by omega) v ou hvb ho
  have n1 := frame_bd (k := k) (s := s) (d := d) (a := a) (b := b) (f := f) hlt
  have n2 := frame_bd (k := k') (s := d) (d := ou) (a := b') (b := po) (f := f) hlt
  have n3 := frame_bd (k := k) (s := ou) (d := d) (a := po) (b := b) (f := f) hlt
  have e2 : (⟨carP k', d, if carP k' = 1 then 0 else (gotP k' b' po f).src⟩ : Fl) = ⟨carP k, d, if carP k = 1 then 0 else (gotP k a b f).dst⟩ := by
    have hc : k = 0 ∨ k = 1 ∨ k = 2 := by omega
    rcases hc with rfl | rfl | rfl
    · obtain ⟨rfl, rfl⟩ := hk'0 (by omega); rfl
    · obtain ⟨rfl, rfl⟩ := hk'0 (by omega); rfl
    · obtain ⟨rfl, rfl⟩ := hk'1 rfl; rfl
  have e3 : (⟨carP k, d, if carP k = 1 then 0 else (gotP k po b f).dst⟩ : Fl) = ⟨carP k, d, if carP k = 1 then 0 else (gotP k a b f).dst⟩ := by
    have hc : k = 0 ∨ k = 1 ∨ k = 2 := by omega
    rcases hc with rfl | rfl | rfl <;> rfl
  rw [e2] at r2
  rw [e3] at r3
  clear e2 e3 hl8 hlt
  generalize (⟨carP k, d, if carP k = 1 then 0 else (gotP k a b f).dst⟩ : Fl) = fl at *
  have g1 := workR_of (k := (wn : Int)) r1 (by omega)
  have g2 := workR_of (k := (wn : Int)) r2 (by omega)
  have g3 := workR_of (k := (wn : Int)) r3 (by omega)
  obtain ⟨K, hK, hKb⟩ := mod_nat (hashR fl) wn hwn1.1
  rw [hK] at g1 g2 g3
  clear hK r1 r2 r3
  generalize frameL k s d a b f (l.take 40) = X at *
  generalize frameL k' d ou b' po f (l.take 40) = Y at *
  generalize frameL k ou d po b f (l.take 40) = Z at *
  obtain ⟨nx, hX⟩ : ∃ n, X.length = n := ⟨_, rfl⟩
  obtain ⟨ny, hY⟩ : ∃ n, Y.length = n := ⟨_, rfl⟩
  obtain ⟨nz, hZ⟩ : ∃ n, Z.length = n := ⟨_, rfl⟩
  rw [hX] at n1
  rw [hY] at n2
  rw [hZ] at n3
  unfold Gives at f1 f2 f3
  obtain ⟨m, hmn, hm1, hm2⟩ := minc 60 (by omega) nz
  have hj0 : (0 : Int) ≤ (m : Int) := by omega
  have hmz : Z.take 60 = Z.take m := by
    rcases Nat.lt_or_ge 60 nz with h | h
    · have : m = 60 := by split at hmn <;> omega
      rw [this]
    · have : m = nz := by split at hmn <;> omega
      rw [List.take_of_length_le (by omega), List.take_of_length_le (by omega)]
  rw [hmz] at g3
  have hT : (Z.take m).length = m := by rw [List.length_take]; omega
  have hD : (faultL 3 1 (Z.take m)).length = 8 + m := by rw [faultL_len, few_short (by omega), hT]
  have hQ : (putL 64 1 v ou (faultL 3 1 (Z.take m))).length = 28 + m := by rw [put_len, hD]; omega
  have hfault := fun W (A : Option Addr) (c1 : Nat) (ho : Rd .u8 W W.heap.size A m (Z.take m)) (h1 : m ≤ c1) (h2 : c1 ≤ 9223372036854775807) => rFault_any 3 1 (Z.take m) A m c1 _ W ho (Nat.le_refl _) h1 h2
  unfold Gives at hfault
  have hput := fun W (A : Option Addr) (c1 : Nat) (ho : Rd .u8 W W.heap.size A (8 + m) (faultL 3 1 (Z.take m))) => rPut_any 0 0 64 1 v ou (faultL 3 1 (Z.take m)) A (8 + m) c1 _ W ho (Nat.le_refl _) (by omega) (by omega) hvb (by omega) (by omega)
  unfold rPutRes at hput
  generalize putL 64 1 v ou (faultL 3 1 (Z.take m)) = Q at *
  generalize faultL 3 1 (Z.take m) = D at *
  clear hT hmz
  have hw1 := fun W (A : Option Addr) (c1 : Nat) (ho : Rd .u8 W W.heap.size A nx X) (h1 : nx ≤ c1) (h2 : c1 ≤ 9223372036854775807) => Worker_any (wn : Int) true X A nx c1 _ W ho (Nat.le_refl _) h1 h2 (by omega) (by omega)
  have hw2 := fun W (A : Option Addr) (c1 : Nat) (ho : Rd .u8 W W.heap.size A ny Y) (h1 : ny ≤ c1) (h2 : c1 ≤ 9223372036854775807) => Worker_any (wn : Int) false Y A ny c1 _ W ho (Nat.le_refl _) h1 h2 (by omega) (by omega)
  have hw3 := fun W (A : Option Addr) (c1 : Nat) (ho : Rd .u8 W W.heap.size A (28 + m) Q) (h1 : 28 + m ≤ c1) (h2 : c1 ≤ 9223372036854775807) => Worker_any (wn : Int) false Q A (28 + m) c1 _ W ho (Nat.le_refl _) h1 h2 (by omega) (by omega)
  rw [g1] at hw1
  rw [g2] at hw2
  rw [g3] at hw3
  clear g1 g2 g3
  have hm20 : 28 ≤ m ∧ m ≤ 60 := by split at hmn <;> omega
  replace hX := Lib.hid hX
  replace hY := Lib.hid hY
  replace hZ := Lib.hid hZ
  replace hD := Lib.hid hD
  replace hQ := Lib.hid hQ
  replace f1 := Lib.hid f1
  replace f2 := Lib.hid f2
  replace f3 := Lib.hid f3
  replace hfault := Lib.hid hfault
  replace hput := Lib.hid hput
  replace hw1 := Lib.hid hw1
  replace hw2 := Lib.hid hw2
  replace hw3 := Lib.hid hw3
  replace hk'0 := Lib.hid hk'0
  replace hk'1 := Lib.hid hk'1
  go_enter Try.func4, Try.ntmps4
  go_upto_region 1 with fail
  have bn := Blk.new w 45 #[.int .i64 wt, .int .u32 s, .int .u32 d, .int .u16 a, .int .u16 b, .int .i64 f, .slice A len cap]
  have bel := bel_alloc w (.cells #[.int .i64 wt, .int .u32 s, .int .u32 d, .int .u16 a, .int .u16 b, .int .i64 f, .slice A len cap] 45)
  generalize w.alloc (.cells #[.int .i64 wt, .int .u32 s, .int .u32 d, .int .u16 a, .int .u16 b, .int .i64 f, .slice A len cap] 45) = W at *
  have q0 := bn.cell 0
  have f0 := bn.frozen 0
  replace bel := bel.setCell (p := ⟨w.heap.size, 0, none⟩) (Nat.le_refl _) (.int .i64 (k : Int))
  replace bn : Blk _ w.heap.size 45 #[.int .i64 (k : Int), .int .u32 s, .int .u32 d, .int .u16 a, .int .u16 b, .int .i64 f, .slice A len cap] := bn.set_ 0 (.int .i64 (k : Int))
  go_upto_region 2 with fail
  clear q0 f0
  generalize W.setCell ⟨w.heap.size, 0, none⟩ (.int .i64 (k : Int)) = W1 at *
  have q5 := bn.cell 5
  go_wp2_with (refine wpList_ldRow rfl rfl rfl bn Try.underlying45 sn_size ?_)
  clear q5
  refine (f1.out _ bel).mono ?_
  rintro e w1 ⟨v1, rfl, own1, bel1⟩
  replace own1 := own1.mono_ bel.size
  replace bn := bn.bel bel1
  replace bel := bel_after bel bel1
  clear bel1 f1
  obtain ⟨g, c1, rfl, hc1, hc2, hg1, hg2⟩ := own1.formG hX.out (by omega)
  unfold maxLen at hc2
  have q0 := bn.cell 0
  have q2 := bn.cell 2
  have q4 := bn.cell 4
  have q5 := bn.cell 5
  have q6 := bn.cell 6
  have hgl : g < w1.heap.size := (own1.lt g rfl).2
  have hnl := bn.lt
  have hg9 : w.heap.size ≤ w1.heap.size := bel.size
  have bx := (Blk.new w1 45 #[.int .i64 0, .int .u32 0, .int .u32 0, .int .u16 0, .int .u16 0, .int .i64 0, .slice none 0 0]).setRow #[.int .i64 (k : Int), .int .u32 d, .int .u32 ou, .int .u16 b, .int .u16 po, .int .i64 f, .slice A len cap]
  replace bn := (bn.alloc (.cells #[.int .i64 0, .int .u32 0, .int .u32 0, .int .u16 0, .int .u16 0, .int .i64 0, .slice none 0 0] 45)).setRow_far (g' := w1.heap.size) (by omega) #[.int .i64 (k : Int), .int .u32 d, .int .u32 ou, .int .u16 b, .int .u16 po, .int .i64 f, .slice A len cap]
  replace own1 := (own1.alloc (.cells #[.int .i64 0, .int .u32 0, .int .u32 0, .int .u16 0, .int .u16 0, .int .i64 0, .slice none 0 0] 45)).upd (Upd.row (w1.alloc (.cells #[.int .i64 0, .int .u32 0, .int .u32 0, .int .u16 0, .int .u16 0, .int .i64 0, .slice none 0 0] 45)) w1.heap.size #[.int .i64 (k : Int), .int .u32 d, .int .u32 ou, .int .u16 b, .int .u16 po, .int .i64 f, .slice A len cap]) (by intro x hx e; simp [Value.ownBlock] at hx; omega)
  replace bel := below_setRow (bel.alloc bel.size (.cells #[.int .i64 0, .int .u32 0, .int .u32 0, .int .u16 0, .int .u16 0, .int .i64 0, .slice none 0 0] 45)) bel.size #[.int .i64 (k : Int), .int .u32 d, .int .u32 ou, .int .u16 b, .int .u16 po, .int .i64 f, .slice A len cap]
  go_upto_region 5 with (refine wpList_stRow rfl rfl rfl rfl rfl (Blk.new w1 _ _) sn_size rfl (by simp [Value.oneCell']) ?_; clear q0 q2 q4 q5 q6; generalize (w1.alloc (.cells #[.int .i64 0, .int .u32 0, .int .u32 0, .int .u16 0, .int .u16 0, .int .i64 0, .slice none 0 0] 45)).setRow w1.heap.size #[.int .i64 (k : Int), .int .u32 d, .int .u32 ou, .int .u16 b, .int .u16 po, .int .i64 f, .slice A len cap] = W2 at *; generalize w1.heap.size = g9 at *)
  have q0 := bn.cell 0
  go_upto_if 43 with fail
  clear q0
  go_cut [] (fun wx => Blk wx g9 45 #[.int .i64 (k' : Int), .int .u32 d, .int .u32 ou, .int .u16 b', .int .u16 po, .int .i64 f, .slice A len cap] ∧ Own .u8 5 wx w.heap.size (.slice (some ⟨g, 0, none⟩) nx c1) X ∧ Blk wx w.heap.size 45 #[.int .i64 (k : Int), .int .u32 s, .int .u32 d, .int .u16 a, .int .u16 b, .int .i64 f, .slice A len cap] ∧ Below w.heap.size w wx)
  case first =>
    by_cases h2 : k = 2
    · have d2 : ((k : Int) == 2) = true := by simp; omega
      obtain ⟨e1, e2⟩ := hk'1.out h2
      replace h2 := Lib.hid h2
      have c0 := bx.cell 0
      have c3 := bx.cell 3
      have f0 := bx.frozen 0
      have f3' := bx.frozen 3
      replace e1 := Lib.hid e1
      replace e2 := Lib.hid e2
      go_wp2_with fail
      go_meet
      have bx2 : Blk _ g9 45 #[.int .i64 3, .int .u32 d, .int .u32 ou, .int .u16 po, .int .u16 po, .int .i64 f, .slice A len cap] := (bx.set_ 0 (.int .i64 3)).set_ 3 (.int .u16 po)
      have hne : g ≠ g9 := by omega
      have u1 := own1.upd (Upd.one W2 g9 0 (.int .i64 3)) (by intro x hx e; simp [Value.ownBlock] at hx; omega)
      have u2 := u1.upd (Upd.one _ g9 3 (.int .u16 po)) (by intro x hx e; simp [Value.ownBlock] at hx; omega)
      refine ⟨?_, u2, (bn.far (p := ⟨g9, 0, none⟩) (by show w.heap.size ≠ g9; omega) _).far (p := ⟨g9, 3, none⟩) (by show w.heap.size ≠ g9; omega) _, (bel.setCell (p := ⟨g9, 0, none⟩) hg9 _).setCell (p := ⟨g9, 3, none⟩) hg9 _⟩
      rw [e1.out, e2.out]
      exact bx2
    · have d2 : ((k : Int) == 2) = false := by simp; omega
      obtain ⟨e1, e2⟩ := hk'0.out h2
      replace h2 := Lib.hid h2
      replace e1 := Lib.hid e1
      replace e2 := Lib.hid e2
      go_wp2_with fail
      go_meet
      refine ⟨?_, own1, bn, bel⟩
      rw [e1.out, e2.out]
      exact bx
  case rest =>
    clear bx own1 bn bel
    obtain ⟨bx, own1, bn, bel⟩ := hcut
    have q0 := bn.cell 0
    have q2 := bn.cell 2
    have q4 := bn.cell 4
    have q5 := bn.cell 5
    have q6 := bn.cell 6
    go_wp2_with fail
    clear q0 q2 q4 q5 q6
    refine (f3.out _ bel).mono ?_
    rintro e w2 ⟨v3, rfl, own3, bel3⟩
    replace own3 := own3.mono_ bel.size
    replace own1 := own1.below bel3
    replace bx := bx.bel bel3
    replace bn := bn.bel bel3
    replace bel := bel_after bel bel3
    clear bel3 f3
    obtain ⟨g3, c3, rfl, hd1, hd2, hd3, hd4⟩ := own3.formG hZ.out (by omega)
    unfold maxLen at hd2
    have hj1 : (m : Int) ≤ (c3 : Int) := by omega
    have hj2 : m ≤ c3 := by omega
    go_upto_region 8 with fail
    have z2 : ∀ t : Tw (fun w' => Blk w' w.heap.size 45 #[.int .i64 (k : Int), .int .u32 s, .int .u32 d, .int .u16 a, .int .u16 b, .int .i64 f, .slice A len cap]), t.w.cell? ⟨w.heap.size, 2, none⟩ = some (.int .u32 d) := fun t => t.h.cell 2
    have ne : Nonempty (Tw (fun w' => Blk w' w.heap.size 45 #[.int .i64 (k : Int), .int .u32 s, .int .u32 d, .int .u16 a, .int .u16 b, .int .i64 f, .slice A len cap])) := ⟨⟨_, bn⟩⟩
    refine wp_region_plan (fun w' => Blk w' w.heap.size 45 #[.int .i64 (k : Int), .int .u32 s, .int .u32 d, .int .u16 a, .int .u16 b, .int .i64 f, .slice A len cap]) [(0, true), (1, true), (2, true), (3, true), (4, true), (5, true), (6, true), (7, true), (8, true), (9, true), (10, false), (11, false), (12, true), (13, true), (14, true), (15, true), (16, true)] (by kernel_rfl) (by kernel_rfl) (by kernel_rfl) (by kernel_rfl) bn.drew ?_
    replace bn := bn.drew
    replace bx := bx.drew
    replace own1 := own1.drew
    replace own3 := own3.drew
    replace bel := bel.drew
    generalize w2.drew = W4 at *
    refine wpPl_qs 10 _ _ _ (by kernel_rfl) (by kernel_rfl) (by simp) ?_
    unfold clsS
    simp only [List.take_succ_cons, List.take_zero, List.drop_succ_cons, List.drop_zero, List.filterMap_cons, List.filterMap_nil, List.getElem?_toArray, List.getElem?_cons_zero, List.getElem?_cons_succ]
    repeat (first
      | go_big_quiet_skip
      | (go_big_quiet_want; go_big_quiet_op; go_big_quiet_on)
      | (refine id (?_ : wpQuiet _ _ _ _ (_ :: _) _); first | go_big_quiet_skip | (go_big_quiet_want; go_big_quiet_op; go_big_quiet_on)))
    refine wpQuiet_nil ?_
    clear z2
    refine wpPl_e _ (by rfl) (by kernel_rfl) (fun K hK => ?_)
    go_simp
    refine (hfault.out _ _ c3 ((own3.rd hZ.out).take hm1) hj2 (by omega)).mono ?_
    rintro e w4 ⟨v4, rfl, own4, bel4⟩
    replace own4 := own4.mono_ bel.size
    replace own1 := own1.below bel4
    replace bx := bx.bel bel4
    replace bn := bn.bel bel4
    replace bel := bel_after bel bel4
    clear bel4 hfault own3
    obtain ⟨A4, c4, rfl, he1, he2, rd4⟩ := own4.form hD.out
    clear own4
    refine hK _ _ bn ?_
    clear hK K
    refine wpPl_e _ (by rfl) (by kernel_rfl) (fun K hK => ?_)
    go_simp
    refine (hput.out _ A4 c4 rd4).mono ?_
    rintro e w5 ⟨v5, rfl, own5, bel5⟩
    replace own5 := own5.mono_ bel.size
    replace own1 := own1.below bel5
    replace bx := bx.bel bel5
    replace bn := bn.bel bel5
    replace bel := bel_after bel bel5
    clear bel5 hput rd4 he1 he2
    obtain ⟨g5, c5, rfl, he1, he2, he3, he4⟩ := own5.formG hQ.out (by omega)
    unfold maxLen at he2
    refine hK _ _ bn ?_
    clear hK K
    refine wpPl_qs 5 _ _ _ (by kernel_rfl) (by kernel_rfl) (by simp) ?_
    unfold clsS
    simp only [List.take_succ_cons, List.take_zero, List.drop_succ_cons, List.drop_zero, List.filterMap_cons, List.filterMap_nil, List.getElem?_toArray, List.getElem?_cons_zero, List.getElem?_cons_succ]
    repeat (first
      | go_big_quiet_skip
      | (go_big_quiet_want; go_big_quiet_op; go_big_quiet_on)
      | (refine id (?_ : wpQuiet _ _ _ _ (_ :: _) _); first | go_big_quiet_skip | (go_big_quiet_want; go_big_quiet_op; go_big_quiet_on)))
    refine wpQuiet_nil ?_
    unfold wpPl
    refine NoPanic.normal ?_
    clear ne hmn hj0 hj1 hj2
    go_wp2_with fail
    refine (hw1.out _ _ c1 (own1.rd hX.out) hc1 (by omega)).mono ?_
    rintro e w6 ⟨rfl, hb6⟩
    replace own5 := own5.below hb6
    replace bx := bx.bel hb6
    replace bel := bel_after bel hb6
    clear hb6 own1 hw1 bn
    go_wp2_with fail
    refine (tells_any _).mono ?_
    rintro e w7 ⟨rfl, hb7⟩
    replace own5 := own5.below hb7
    replace bx := bx.bel hb7
    replace bel := bel_after bel hb7
    clear hb7
    have x0 := bx.cell 0
    have x1 := bx.cell 1
    have x2 := bx.cell 2
    have x3 := bx.cell 3
    have x4 := bx.cell 4
    have x5 := bx.cell 5
    have x6 := bx.cell 6
    go_wp2_with fail
    clear x0 x1 x2 x3 x4 x5 x6
    refine (f2.out _ bel).mono ?_
    rintro e w8 ⟨v8, rfl, own8, bel8⟩
    replace own8 := own8.mono_ bel.size
    replace own5 := own5.below bel8
    replace bel := bel_after bel bel8
    clear bel8 f2
    obtain ⟨A8, c8, rfl, hi1, hi2, rd8⟩ := own8.form hY.out
    unfold maxLen at hi2
    clear own8
    go_wp2_with fail
    refine (hw2.out _ A8 c8 rd8 hi1 (by omega)).mono ?_
    rintro e w9 ⟨rfl, hb9⟩
    replace own5 := own5.below hb9
    replace bel := bel_after bel hb9
    clear hb9 hw2 rd8
    go_wp2_with fail
    refine (hw3.out _ _ c5 (own5.rd hQ.out) he1 (by omega)).mono ?_
    rintro e w10 ⟨rfl, hb10⟩
    replace bel := bel_after bel hb10
    clear hb10
    go_wp2
    go_ret
    exact ⟨rfl, bel⟩
theorem SpreadBack_args (W : World) (args : Array Value) (hs : args.size = Try.f4.params.size) (hA : ∀ (j : Nat) t v, Try.f4.params[j]? = some t → args[j]? = some v → Arg Try.prog W t v) :
    Calls Try.prog 4 args W fun e W' => e = .returned (.bool true) ∧ Below W.heap.size W W' := by
  obtain ⟨v0, v1, v2, rfl⟩ := args3 hs
  obtain ⟨wt, s, d, a, b, f, A, len, cap, l, rfl, h1, h2, h3, h4, h5, h6, h7⟩ := arg_sent (hA 0 45 v0 rfl rfl)
  obtain ⟨x, rfl, hx⟩ := arg_int Try.underlying27 (hA 1 27 v1 rfl rfl)
  obtain ⟨y, rfl, hy⟩ := arg_int Try.underlying28 (hA 2 28 v2 rfl rfl)
  exact SpreadBack_walk wt s d a b f x y l A len cap W h7 h5 h6 h1 h2 h3 h4 (inr_u32 hx) (inr_u16 hy)

set_option maxRecDepth 100000 in
theorem SpreadBack_lifted (os : Os) (started : os.Started) (H : Type) (enc : TypeId × Value → H) :
    ReturnsInHanded {} Try.checked os 4 .any (Rows.spreadBackSpec.pre6 enc Try.prog Try.f4 Rows.spreadBackRow.domain false) (Rows.spreadBackSpec.post enc Try.prog Try.f4 false true false false) :=
  law_lifted os started H enc (by kernel_rfl) Try.func4 rfl rfl (fun H ds h => by match ds, h with | [_, _, _], _ => exact ⟨rfl, rfl, rfl⟩) (by kernel_rfl)
    (ChangeSpec.witness6 (enc := enc) (C := Try.checked) false ⟨#[], #[.agg #[.int .i64 0, .int .u32 0, .int .u32 0, .int .u16 0, .int .u16 0, .int .i64 0, .slice none 0 0], .int .u32 0, .int .u16 0], []⟩ 8 (by kernel_rfl) (by kernel_rfl) (by kernel_rfl) (by kernel_rfl))
    SpreadBack_args

/-- the statement -/
theorem spreadBack_holds : Rows.SpreadBackSaid :=
  OpenClaim.holds_of_wide 4 Try.f4 rfl rfl rfl rfl rfl rfl rfl ⟨rfl, rfl, rfl, rfl, rfl⟩ rfl rfl rfl rfl rfl (by kernel_rfl) Try.func4 (by kernel_rfl)
    (of_decide_eq_true (by kernel_rfl)) (by unfold Func.isWrapper; first | (rw [if_pos (by decide +kernel)]; kernel_rfl) | (rw [if_neg (by decide +kernel)]; exact ⟨rfl, rfl⟩))
    (fun os started H enc _ => SpreadBack_lifted os started H enc)

end Go.Proofs.Ytcigiahpgnjekaa
