/- Every input of PartGets answers true, and reads behind the call as it read before. No condition. -/
import Derived.Test.YtfkmallagficfaaPart24
namespace Go.Proofs.Ytfkmallagficfaa
set_option linter.unusedVariables false
set_option linter.unusedSimpArgs false
open Go.RowKit
theorem Upd.row (w : World) (g : Nat) (t : Array Value) : Upd (fun k => k = g) w (w.setRow g t) := ⟨rfl, rfl, rfl, by simp, fun k _ hS => setRow_other w g k t hS⟩
theorem Own.upd {k : IntKind} {e : TypeId} {w w' : World} {base : Nat} {v : Value} {l : List Int} {S : Nat → Prop} (h : Own k e w base v l) (hu : Upd S w w') (hS : ∀ g, v.ownBlock = some g → ¬ S g) : Own k e w' base v l := by
  refine ⟨⟨h.row.1, ?_⟩, h.rng⟩
  rcases h.row.2 with h1 | ⟨g, cap, cur, h1, h2, h3, h4⟩
  · exact .inl h1
  · exact .inr ⟨g, cap, cur, h1, h2, (hu.block g (Array.getElem?_eq_some_iff.1 h3).1 (hS g (by rw [h1]; rfl))).trans h3, h4⟩
set_option maxRecDepth 100000 in
set_option maxHeartbeats 4000000 in
theorem PartGets_walk (wt s d a b f : Int) (l : List Int) (A : Option Addr) (len cap : Nat) (b0 b1 b2 : Int) (fix : Bool) (w : World) (hr : Rd .u8 w w.heap.size A len l) (hlc : len ≤ cap) (hcm : cap ≤ maxLen) (hs : 0 ≤ s ∧ s ≤ 4294967295) (hd : 0 ≤ d ∧ d ≤ 4294967295) (ha : 0 ≤ a ∧ a ≤ 65535) (hb : 0 ≤ b ∧ b ≤ 65535) :
    Calls Try.prog 3 #[.agg #[.int .i64 wt, .int .u32 s, .int .u32 d, .int .u16 a, .int .u16 b, .int .i64 f, .slice A len cap], .agg #[.int .i64 b0, .int .i64 b1, .int .i64 b2], .bool fix] w fun e w' => e = .returned (.bool true) ∧ Below w.heap.size w w' := by
  unfold maxLen at hcm
  obtain ⟨k, hk, hk7⟩ := modn wt 7 (by omega)
  have hfr := fun w' (h : Below w.heap.size w w') => Frame_any wt s d a b f l A len cap k w' ((hr.below h).more h.size) hlc hcm hs hd ha hb hk (by omega)
  have hcl := carL_len k s d a b f (l.take 40) (by rw [List.length_take]; omega)
  have hP := carP_bd k
  unfold frameL at hfr
  obtain ⟨C, hC⟩ : ∃ C, C = carL k s d a b f (l.take 40) := ⟨_, rfl⟩
  obtain ⟨P, hPe⟩ : ∃ P, P = carP k := ⟨_, rfl⟩
  rw [← hC] at hcl hfr
  rw [← hPe] at hP hfr
  clear hC hPe hk hk7 hr
  obtain ⟨n, hn⟩ : ∃ n, 20 + C.length = n := ⟨_, rfl⟩
  have hX : (putL 64 P s d C).length = n := by rw [put_len, hn]
  obtain ⟨q, hq, hqn⟩ := modn b0 ((n : Int) - 20) (by omega)
  have hqv : Value.int .u64 ((IntKind.u64.wrap b0).tmod ((n : Int) - 20)) = .int .u64 (q : Int) := by rw [hq]
  clear hq
  obtain ⟨j, hj⟩ : ∃ j : Nat, 20 + q = j := ⟨_, rfl⟩
  have hjI : 20 + (q : Int) = (j : Int) := by omega
  have hjn : j < n := by omega
  have hset := fun x => putL_set 64 P s d C q x
  rw [hj] at hset
  have hhead := fun x => frame_head (P := P) (s := s) (d := d) (l := C.set q x) hP hs hd (by rw [List.length_set]; omega)
  simp only [List.length_set] at hhead
  have hnn : 20 + (C.length : Int) = (n : Int) := by omega
  rw [hnn] at hhead
  simp only [← hset] at hhead
  obtain ⟨X, hXe⟩ : ∃ X, X = putL 64 P s d C := ⟨_, rfl⟩
  rw [← hXe] at hX hfr
  simp only [← hXe] at hhead
  have hn1 : 28 ≤ n ∧ n ≤ 130 := by omega
  clear hset hXe hnn hcl hn
  replace hhead := Lib.hid hhead
  replace hX := Lib.hid hX
  replace hj := Lib.hid hj
  replace hfr := Lib.hid hfr
  go_enter Try.func3, Try.ntmps3
  go_upto_region 1 with fail
  have bn := (Blk.new w 26 #[.int .i64 wt, .int .u32 s, .int .u32 d, .int .u16 a, .int .u16 b, .int .i64 f, .slice A len cap]).alloc (.cells #[.int .i64 b0, .int .i64 b1, .int .i64 b2] 27)
  have bb := Blk.new (w.alloc (.cells #[.int .i64 wt, .int .u32 s, .int .u32 d, .int .u16 a, .int .u16 b, .int .i64 f, .slice A len cap] 26)) 27 #[.int .i64 b0, .int .i64 b1, .int .i64 b2]
  rw [show (w.alloc (.cells #[.int .i64 wt, .int .u32 s, .int .u32 d, .int .u16 a, .int .u16 b, .int .i64 f, .slice A len cap] 26)).heap.size = w.heap.size + 1 by simp] at bb
  have bel : Below w.heap.size w ((w.alloc (.cells #[.int .i64 wt, .int .u32 s, .int .u32 d, .int .u16 a, .int .u16 b, .int .i64 f, .slice A len cap] 26)).alloc (.cells #[.int .i64 b0, .int .i64 b1, .int .i64 b2] 27)) := (bel_alloc _ _).alloc (by simp) _
  generalize ((w.alloc (.cells #[.int .i64 wt, .int .u32 s, .int .u32 d, .int .u16 a, .int .u16 b, .int .i64 f, .slice A len cap] 26)).alloc (.cells #[.int .i64 b0, .int .i64 b1, .int .i64 b2] 27)) = W at *
  go_wp2_with (refine wpList_ldRow rfl rfl rfl bn Try.underlying26 sn_size ?_)
  refine (hfr.out _ bel).mono ?_
  rintro e w1 ⟨v1, rfl, own1, bel1⟩
  replace own1 := own1.mono_ bel.size
  replace bb := bb.bel bel1
  replace bel := bel_after bel bel1
  clear bel1 bn
  obtain ⟨g, c1, rfl, hc1, hc2, hg1, hg2⟩ := own1.formG hX.out (by omega)
  unfold maxLen at hc2
  have q0 := bb.cell 0
  have q1 := bb.cell 1
  have q2 := bb.cell 2
  obtain ⟨cj, fj, xj⟩ := own1.at_ hX.out (j := j) hjn
  obtain ⟨xo, hxo⟩ : ∃ v, v = X.getD j 0 := ⟨_, rfl⟩
  rw [← hxo] at cj
  clear hxo xj
  go_upto_region 3 with fail
  obtain ⟨xv, hxv⟩ : ∃ v, bits .xor .u8 xo (b1 % 256) = v := ⟨_, rfl⟩
  have hxb : 0 ≤ xv ∧ xv ≤ 255 := by
    rw [← hxv]
    have h : ∀ v : Int, 0 ≤ IntKind.u8.wrap v ∧ IntKind.u8.wrap v ≤ 255 := fun v => by rw [IntKind.wrap_u8' v]; omega
    exact h _
  have hj0 : (0 : Int) ≤ (j : Int) := by omega
  have hjI2 : (j : Int) < (n : Int) := by omega
  have hgne : g ≠ w.heap.size + 1 := by have := own1.ne bb (by decide); omega
  go_region
  have own2 := (own1.set hX.out j (x := xv) (u8_inr hxb)).drew
  have hl2 : (X.set j xv).length = n := by rw [List.length_set]; exact hX.out
  replace bb := (bb.far (p := ⟨g, j, none⟩) (by show w.heap.size + 1 ≠ g; omega) (.int .u8 xv)).drew
  replace bel := (bel.setCell (p := ⟨g, j, none⟩) hg1 (.int .u8 xv)).drew
  clear q0 q1 q2 cj fj
  obtain ⟨hE, hH⟩ := hhead.out xv
  generalize X.set j xv = F at *
  generalize (w1.setCell ⟨g, j, none⟩ (.int .u8 xv)).drew = W2 at *
  replace hl2 := Lib.hid hl2
  have hget := rGet_any F false (some ⟨g, 0, none⟩) n c1 _ W2 (own2.rd hl2.out) (Nat.le_refl _) hc1 (by omega) (by omega)
  have hgp : getP F false = 0 := hE
  rw [hgp, hH] at hget
  simp only [Hd.val] at hget
  clear hgp hE hH hhead hxv hj hjI hjn hj0 hjI2 hqv hqn hX
  replace hget := Lib.hid hget
  go_wp2_with fail
  refine hget.out.mono ?_
  rintro e w2 ⟨rfl, hb2⟩
  replace own2 := own2.below hb2
  replace bb := bb.bel hb2
  replace bel := bel_after bel hb2
  have bh := (Blk.new w2 31 #[.int .i64 0, .int .i64 0, .int .i64 0, .int .i64 0, .int .u32 0, .int .u32 0]).setRow #[.int .i64 20, .int .i64 (n : Int), .int .i64 64, .int .i64 P, .int .u32 s, .int .u32 d]
  have hgl : g < w2.heap.size := (own2.lt g rfl).2
  have hbl : w.heap.size + 1 < w2.heap.size := bb.lt
  replace bb := (bb.alloc (.cells #[.int .i64 0, .int .i64 0, .int .i64 0, .int .i64 0, .int .u32 0, .int .u32 0] 31)).setRow_far (g' := w2.heap.size) (by omega) #[.int .i64 20, .int .i64 (n : Int), .int .i64 64, .int .i64 P, .int .u32 s, .int .u32 d]
  replace own2 := (own2.alloc (.cells #[.int .i64 0, .int .i64 0, .int .i64 0, .int .i64 0, .int .u32 0, .int .u32 0] 31)).upd (Upd.row (w2.alloc (.cells #[.int .i64 0, .int .i64 0, .int .i64 0, .int .i64 0, .int .u32 0, .int .u32 0] 31)) w2.heap.size #[.int .i64 20, .int .i64 (n : Int), .int .i64 64, .int .i64 P, .int .u32 s, .int .u32 d]) (by intro x hx e; simp [Value.ownBlock] at hx; omega)
  replace bel := below_setRow (bel.alloc bel.size (.cells #[.int .i64 0, .int .i64 0, .int .i64 0, .int .i64 0, .int .u32 0, .int .u32 0] 31)) bel.size #[.int .i64 20, .int .i64 (n : Int), .int .i64 64, .int .i64 P, .int .u32 s, .int .u32 d]
  clear hb2 hget
  go_upto_region 7 with (refine wpList_stRow rfl rfl rfl rfl rfl (Blk.new _ _ _) rhd_size rfl (by simp [Value.oneCell']) ?_; generalize (w2.alloc (.cells #[.int .i64 0, .int .i64 0, .int .i64 0, .int .i64 0, .int .u32 0, .int .u32 0] 31)).setRow w2.heap.size #[.int .i64 20, .int .i64 (n : Int), .int .i64 64, .int .i64 P, .int .u32 s, .int .u32 d] = W3 at *; generalize w2.heap.size = g3 at *)
  have q2 := bb.cell 2
  have hgg : g ≠ g3 := by omega
  have hg3 : w.heap.size ≤ g3 := by omega
  go_upto_if 47 with fail
  go_cut [] (fun wx => ∃ y1 : Int, Blk wx g3 31 #[.int .i64 20, .int .i64 y1, .int .i64 64, .int .i64 P, .int .u32 s, .int .u32 d] ∧ Own .u8 5 wx w.heap.size (.slice (some ⟨g, 0, none⟩) n c1) F ∧ Below w.heap.size w wx)
  case first =>
    by_cases ht : (b2.tmod 6 == 0) = true
    · have f1 := bh.frozen 1
      have h1c := bh.cell 1
      go_wp2_with fail
      go_meet
      have up1 := Upd.one W3 g3 1 (.int .i64 (wrap64 (20 + wrap64 ((IntKind.u64.wrap ((IntKind.u64.wrap b2).tdiv 6)).tmod ((n : Int) - 19)))))
      exact ⟨_, bh.set_ 1 _, own2.upd up1 (by intro x hx e; simp [Value.ownBlock] at hx; omega), bel.setCell (p := ⟨g3, 1, none⟩) hg3 _⟩
    · replace ht : (b2.tmod 6 == 0) = false := by simpa using ht
      go_wp2_with fail
      go_meet
      exact ⟨_, bh, own2, bel⟩
  case rest =>
    clear bh own2 bel q2 bb
    obtain ⟨y1, bh, own2, bel⟩ := hcut
    go_upto_if 60 with fail
    go_cut [7] (fun s7 wx => ∃ F' : List Int, F'.length = n ∧ Own .u8 5 wx w.heap.size s7 F' ∧ Blk wx g3 31 #[.int .i64 20, .int .i64 y1, .int .i64 64, .int .i64 P, .int .u32 s, .int .u32 d] ∧ Below w.heap.size w wx)
    case first =>
      cases fix with
      | false =>
        go_wp2_with fail
        go_meet
        exact ⟨F, hl2.out, own2, bh, bel⟩
      | true =>
        have hfix := fun W (h : wc.heap.size ≤ W.heap.size) (ho : Own .u8 5 W w.heap.size (.slice (some ⟨g, 0, none⟩) n c1) F) => Right_any ⟨20, y1, 64, P, s, d⟩ F (some ⟨g, 0, none⟩) n c1 W (ho.rd hl2.out) (by omega) hs hd
        simp only [Hd.val] at hfix
        replace hfix := Lib.hid hfix
        go_wp2_with (refine wpList_ldRow rfl rfl rfl bh Try.underlying31 rhd_size ?_)
        refine (hfix.out _ (Nat.le_refl _) own2).mono ?_
        rintro e w4 ⟨L, hLn, v4, rfl, own4, bel4⟩
        replace own4 := own4.mono_ bel.size
        replace bh := bh.bel bel4
        replace bel := bel_after bel bel4
        clear hfix bel4 own2
        go_wp2_with fail
        go_meet
        exact ⟨L, hLn, own4, bh, bel⟩
    case rest =>
      clear bh own2 bel hl2
      obtain ⟨F', hl3, own2, bh, bel⟩ := hcut
      obtain ⟨g4, c4, rfl, hc4, hc5, hg4, hg5⟩ := own2.formG hl3 (by omega)
      unfold maxLen at hc5
      have h1 := fun W (ho : Own .u8 5 W w.heap.size (.slice (some ⟨g4, 0, none⟩) n c4) F') => PGet_any ⟨20, y1, 64, P, s, d⟩ F' (some ⟨g4, 0, none⟩) n c4 _ W (ho.rd hl3) (Nat.le_refl _) hc4 (by omega) (by omega) hs hd
      have h2 := fun W (ho : Own .u8 5 W w.heap.size (.slice (some ⟨g4, 0, none⟩) n c4) F') => rPGet_any ⟨20, y1, 64, P, s, d⟩ F' (some ⟨g4, 0, none⟩) n c4 _ W (ho.rd hl3) (Nat.le_refl _) hc4 (by omega) (by omega) hs hd
      obtain ⟨E, ⟨pr, sr, ds, fl, ki, co, er, ⟨i0, i1, i2, i3, i4, i5⟩, pa, ba⟩, hR⟩ : ∃ (E : Int) (p : Pt), getR ⟨20, y1, 64, P, s, d⟩ F' = (E, p) := ⟨_, _, rfl⟩
      have h3 := fun W => PFrom_any ⟨pr, sr, ds, fl, ki, co, er, ⟨i0, i1, i2, i3, i4, i5⟩, pa, ba⟩ W
      rw [hR] at h1 h2
      simp only [Tells, Pt.val, Hd.val] at h1 h2 h3
      clear hR
      replace hl3 := Lib.hid hl3
      replace h1 := Lib.hid h1
      replace h2 := Lib.hid h2
      replace h3 := Lib.hid h3
      have q0 := bh.cell 0
      have q1 := bh.cell 1
      have q2 := bh.cell 2
      have q3 := bh.cell 3
      have q4 := bh.cell 4
      have q5 := bh.cell 5
      have hgl : g4 < wc.heap.size := (own2.lt g4 rfl).2
      have hg3l := bh.lt
      have bx := (Blk.new wc 35 #[.int .i64 0, .int .i64 0, .int .i64 0, .int .i64 0, .int .u32 0, .int .u32 0]).setRow #[.int .i64 20, .int .i64 y1, .int .i64 64, .int .i64 P, .int .u32 s, .int .u32 d]
      have bh1 := (bh.alloc (.cells #[.int .i64 0, .int .i64 0, .int .i64 0, .int .i64 0, .int .u32 0, .int .u32 0] 35)).setRow_far (g' := wc.heap.size) (by omega) #[.int .i64 20, .int .i64 y1, .int .i64 64, .int .i64 P, .int .u32 s, .int .u32 d]
      replace own2 := (own2.alloc (.cells #[.int .i64 0, .int .i64 0, .int .i64 0, .int .i64 0, .int .u32 0, .int .u32 0] 35)).upd (Upd.row (wc.alloc (.cells #[.int .i64 0, .int .i64 0, .int .i64 0, .int .i64 0, .int .u32 0, .int .u32 0] 35)) wc.heap.size #[.int .i64 20, .int .i64 y1, .int .i64 64, .int .i64 P, .int .u32 s, .int .u32 d]) (by intro x hx e; simp [Value.ownBlock] at hx; omega)
      replace bel := below_setRow (bel.alloc bel.size (.cells #[.int .i64 0, .int .i64 0, .int .i64 0, .int .i64 0, .int .u32 0, .int .u32 0] 35)) bel.size #[.int .i64 20, .int .i64 y1, .int .i64 64, .int .i64 P, .int .u32 s, .int .u32 d]
      clear bh
      go_wp2_with (first
        | (refine wpList_stRow rfl rfl rfl rfl rfl (Blk.new _ _ _) hd_size rfl (by simp [Value.oneCell']) ?_; clear q0 q1 q2 q3 q4 q5; generalize (wc.alloc (.cells #[.int .i64 0, .int .i64 0, .int .i64 0, .int .i64 0, .int .u32 0, .int .u32 0] 35)).setRow wc.heap.size #[.int .i64 20, .int .i64 y1, .int .i64 64, .int .i64 P, .int .u32 s, .int .u32 d] = W5 at *; generalize wc.heap.size = g5 at *)
        | (refine wpList_ldRow rfl rfl rfl bx Try.underlying35 hd_size ?_))
      refine (h1.out _ own2).mono ?_
      rintro e w5 ⟨rfl, hb5⟩
      replace bh := bh1.bel hb5
      replace own2 := own2.below hb5
      replace bel := bel_after bel hb5
      clear hb5 bh1 bx hgl hg3l
      have hg1 := bh.lt
      have hgl : g4 < w5.heap.size := (own2.lt g4 rfl).2
      have bp := (Blk.new w5 37 #[.int .i64 0, .int .u16 0, .int .u16 0, .int .i64 0, .int .i64 0, .int .i64 0, .bool false, .int .i64 0, .int .i64 0, .int .i64 0, .int .i64 0, .int .u32 0, .int .u32 0, .int .i64 0, .bool false]).setRow #[.int .i64 pr, .int .u16 sr, .int .u16 ds, .int .i64 fl, .int .i64 ki, .int .i64 co, .bool er, .int .i64 i0, .int .i64 i1, .int .i64 i2, .int .i64 i3, .int .u32 i4, .int .u32 i5, .int .i64 pa, .bool ba]
      replace bh := (bh.alloc (.cells #[.int .i64 0, .int .u16 0, .int .u16 0, .int .i64 0, .int .i64 0, .int .i64 0, .bool false, .int .i64 0, .int .i64 0, .int .i64 0, .int .i64 0, .int .u32 0, .int .u32 0, .int .i64 0, .bool false] 37)).setRow_far (g' := w5.heap.size) (by omega) #[.int .i64 pr, .int .u16 sr, .int .u16 ds, .int .i64 fl, .int .i64 ki, .int .i64 co, .bool er, .int .i64 i0, .int .i64 i1, .int .i64 i2, .int .i64 i3, .int .u32 i4, .int .u32 i5, .int .i64 pa, .bool ba]
      replace own2 := (own2.alloc (.cells #[.int .i64 0, .int .u16 0, .int .u16 0, .int .i64 0, .int .i64 0, .int .i64 0, .bool false, .int .i64 0, .int .i64 0, .int .i64 0, .int .i64 0, .int .u32 0, .int .u32 0, .int .i64 0, .bool false] 37)).upd (Upd.row (w5.alloc (.cells #[.int .i64 0, .int .u16 0, .int .u16 0, .int .i64 0, .int .i64 0, .int .i64 0, .bool false, .int .i64 0, .int .i64 0, .int .i64 0, .int .i64 0, .int .u32 0, .int .u32 0, .int .i64 0, .bool false] 37)) w5.heap.size #[.int .i64 pr, .int .u16 sr, .int .u16 ds, .int .i64 fl, .int .i64 ki, .int .i64 co, .bool er, .int .i64 i0, .int .i64 i1, .int .i64 i2, .int .i64 i3, .int .u32 i4, .int .u32 i5, .int .i64 pa, .bool ba]) (by intro x hx e; simp [Value.ownBlock] at hx; omega)
      replace bel := below_setRow (bel.alloc bel.size (.cells #[.int .i64 0, .int .u16 0, .int .u16 0, .int .i64 0, .int .i64 0, .int .i64 0, .bool false, .int .i64 0, .int .i64 0, .int .i64 0, .int .i64 0, .int .u32 0, .int .u32 0, .int .i64 0, .bool false] 37)) bel.size #[.int .i64 pr, .int .u16 sr, .int .u16 ds, .int .i64 fl, .int .i64 ki, .int .i64 co, .bool er, .int .i64 i0, .int .i64 i1, .int .i64 i2, .int .i64 i3, .int .u32 i4, .int .u32 i5, .int .i64 pa, .bool ba]
      go_wp2_with (first
        | (refine wpList_stRow rfl rfl rfl rfl rfl (Blk.new _ _ _) pt_size rfl (by simp [Value.oneCell']) ?_; generalize (w5.alloc (.cells #[.int .i64 0, .int .u16 0, .int .u16 0, .int .i64 0, .int .i64 0, .int .i64 0, .bool false, .int .i64 0, .int .i64 0, .int .i64 0, .int .i64 0, .int .u32 0, .int .u32 0, .int .i64 0, .bool false] 37)).setRow w5.heap.size #[.int .i64 pr, .int .u16 sr, .int .u16 ds, .int .i64 fl, .int .i64 ki, .int .i64 co, .bool er, .int .i64 i0, .int .i64 i1, .int .i64 i2, .int .i64 i3, .int .u32 i4, .int .u32 i5, .int .i64 pa, .bool ba] = W1 at *; generalize w5.heap.size = g1 at *)
        | (refine wpList_ldRow rfl rfl rfl bh Try.underlying31 rhd_size ?_))
      refine (h2.out _ own2).mono ?_
      rintro e w6 ⟨rfl, hb⟩
      replace bp := bp.bel hb
      replace bel := bel_after bel hb
      clear hb own2
      have bq := (Blk.new w6 42 #[.int .i64 0, .int .u16 0, .int .u16 0, .int .i64 0, .int .i64 0, .int .i64 0, .bool false, .int .i64 0, .int .i64 0, .int .i64 0, .int .i64 0, .int .u32 0, .int .u32 0, .int .i64 0, .bool false]).setRow #[.int .i64 pr, .int .u16 sr, .int .u16 ds, .int .i64 fl, .int .i64 ki, .int .i64 co, .bool er, .int .i64 i0, .int .i64 i1, .int .i64 i2, .int .i64 i3, .int .u32 i4, .int .u32 i5, .int .i64 pa, .bool ba]
      have hg2 := bp.lt
      replace bp := (bp.alloc (.cells #[.int .i64 0, .int .u16 0, .int .u16 0, .int .i64 0, .int .i64 0, .int .i64 0, .bool false, .int .i64 0, .int .i64 0, .int .i64 0, .int .i64 0, .int .u32 0, .int .u32 0, .int .i64 0, .bool false] 42)).setRow_far (g' := w6.heap.size) (by omega) #[.int .i64 pr, .int .u16 sr, .int .u16 ds, .int .i64 fl, .int .i64 ki, .int .i64 co, .bool er, .int .i64 i0, .int .i64 i1, .int .i64 i2, .int .i64 i3, .int .u32 i4, .int .u32 i5, .int .i64 pa, .bool ba]
      replace bel := below_setRow (bel.alloc bel.size (.cells #[.int .i64 0, .int .u16 0, .int .u16 0, .int .i64 0, .int .i64 0, .int .i64 0, .bool false, .int .i64 0, .int .i64 0, .int .i64 0, .int .i64 0, .int .u32 0, .int .u32 0, .int .i64 0, .bool false] 42)) bel.size #[.int .i64 pr, .int .u16 sr, .int .u16 ds, .int .i64 fl, .int .i64 ki, .int .i64 co, .bool er, .int .i64 i0, .int .i64 i1, .int .i64 i2, .int .i64 i3, .int .u32 i4, .int .u32 i5, .int .i64 pa, .bool ba]
      clear bh
      go_wp2_with (refine wpList_stRow rfl rfl rfl rfl rfl (Blk.new _ _ _) rpt_size rfl (by simp [Value.oneCell']) ?_; generalize (w6.alloc (.cells #[.int .i64 0, .int .u16 0, .int .u16 0, .int .i64 0, .int .i64 0, .int .i64 0, .bool false, .int .i64 0, .int .i64 0, .int .i64 0, .int .i64 0, .int .u32 0, .int .u32 0, .int .i64 0, .bool false] 42)).setRow w6.heap.size #[.int .i64 pr, .int .u16 sr, .int .u16 ds, .int .i64 fl, .int .i64 ki, .int .i64 co, .bool er, .int .i64 i0, .int .i64 i1, .int .i64 i2, .int .i64 i3, .int .u32 i4, .int .u32 i5, .int .i64 pa, .bool ba] = W2 at *; generalize w6.heap.size = g2 at *)
      have k1 : ∀ w', clsS (fun w' => Below W2.heap.size W2 w') w' → Blk w' g1 37 #[.int .i64 pr, .int .u16 sr, .int .u16 ds, .int .i64 fl, .int .i64 ki, .int .i64 co, .bool er, .int .i64 i0, .int .i64 i1, .int .i64 i2, .int .i64 i3, .int .u32 i4, .int .u32 i5, .int .i64 pa, .bool ba] := fun w' ⟨t, ht⟩ => ht ▸ bp.below t.h bp.lt
      have k2 : ∀ w', clsS (fun w' => Below W2.heap.size W2 w') w' → Blk w' g2 42 #[.int .i64 pr, .int .u16 sr, .int .u16 ds, .int .i64 fl, .int .i64 ki, .int .i64 co, .bool er, .int .i64 i0, .int .i64 i1, .int .i64 i2, .int .i64 i3, .int .u32 i4, .int .u32 i5, .int .i64 pa, .bool ba] := fun w' ⟨t, ht⟩ => ht ▸ bq.below t.h bq.lt
      have : Nonempty (Tw (fun w' => Below W2.heap.size W2 w')) := ⟨⟨_, Below.refl _ _⟩⟩
      refine region_tw (fun w' => Below W2.heap.size W2 w') (by kernel_rfl) (by kernel_rfl) (Below.refl _ _).drew ?_
      replace k1 := Lib.hid k1
      replace k2 := Lib.hid k2
      repeat (first
        | go_big_quiet_skip
        | (go_big_quiet_want; first
            | (refine quiet_ldRow rfl rfl k1.out Try.underlying37 pt_size ?_; go_simp; go_big_quiet_on)
            | (refine quiet_ldRow rfl rfl k2.out Try.underlying42 rpt_size ?_; go_simp; go_big_quiet_on)
            | (unfold clsS; go_big_quiet_op; first | go_big_quiet_on | go_big_quiet_call (
                (first
                  | (go_at_call 14; exact q_tw (Nat.le_refl _) (parts_any _))
                  | (go_at_call 15; exact q_tw (Nat.le_refl _) (h3.out _)))))))
      refine wpQuiet_nil ?_
      intro tq
      go_wp2
      go_ret
      exact ⟨rfl, bel_after bel tq.h⟩
theorem PartGets_args (W : World) (args : Array Value) (hs : args.size = Try.f3.params.size) (hA : ∀ (j : Nat) t v, Try.f3.params[j]? = some t → args[j]? = some v → Arg Try.prog W t v) :
    Calls Try.prog 3 args W fun e W' => e = .returned (.bool true) ∧ Below W.heap.size W W' := by
  obtain ⟨v0, v1, v2, rfl⟩ := args3 hs
  obtain ⟨wt, s, d, a, b, f, A, len, cap, l, rfl, h1, h2, h3, h4, h5, h6, h7⟩ := arg_sent (hA 0 26 v0 rfl rfl)
  obtain ⟨x, y, z, rfl⟩ := arg_three (hA 1 27 v1 rfl rfl)
  obtain ⟨fix, rfl⟩ := arg_bool Try.underlying4 (hA 2 4 v2 rfl rfl)
  exact PartGets_walk wt s d a b f l A len cap x y z fix W h7 h5 h6 h1 h2 h3 h4

set_option maxRecDepth 100000 in
theorem PartGets_lifted (os : Os) (started : os.Started) (H : Type) (enc : TypeId × Value → H) :
    ReturnsInHanded {} Try.checked os 3 .any (Rows.partGetsSpec.pre6 enc Try.prog Try.f3 Rows.partGetsRow.domain false) (Rows.partGetsSpec.post enc Try.prog Try.f3 false true false false) :=
  law_lifted os started H enc (by kernel_rfl) Try.func3 rfl rfl (fun H ds h => by match ds, h with | [_, _, _], _ => exact ⟨rfl, rfl, rfl⟩) (by kernel_rfl)
    (ChangeSpec.witness6 (enc := enc) (C := Try.checked) false ⟨#[], #[.agg #[.int .i64 0, .int .u32 0, .int .u32 0, .int .u16 0, .int .u16 0, .int .i64 0, .slice none 0 0], .agg #[.int .i64 0, .int .i64 0, .int .i64 0], .bool false], []⟩ 8 (by kernel_rfl) (by kernel_rfl) (by kernel_rfl) (by kernel_rfl))
    PartGets_args

/-- the statement -/
theorem partGets_holds : Rows.PartGetsSaid :=
  OpenClaim.holds_of_wide 3 Try.f3 rfl rfl rfl rfl rfl rfl rfl ⟨rfl, rfl, rfl, rfl, rfl⟩ rfl rfl rfl rfl rfl (by kernel_rfl) Try.func3 (by kernel_rfl)
    (of_decide_eq_true (by kernel_rfl)) (by unfold Func.isWrapper; first | (rw [if_pos (by decide +kernel)]; kernel_rfl) | (rw [if_neg (by decide +kernel)]; exact ⟨rfl, rfl⟩))
    (fun os started H enc _ => PartGets_lifted os started H enc)

end Go.Proofs.Ytfkmallagficfaa
