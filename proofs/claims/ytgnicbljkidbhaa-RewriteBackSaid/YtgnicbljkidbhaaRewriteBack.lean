/- Every input of RewriteBack answers true, and reads behind the call as it read before. No condition. -/
import Derived.Test.YtgnicbljkidbhaaRewAll4
import Derived.Test.YtgnicbljkidbhaaRewAll3
import Derived.Test.YtgnicbljkidbhaaPart24
namespace Go.Proofs.Ytgnicbljkidbhaa
set_option linter.unusedVariables false
set_option linter.unusedSimpArgs false
open Go.RowKit
theorem own_b8' {e : TypeId} {w : World} {base : Nat} {v : Value} {l : List Int} (h : Own .u8 e w base v l) : Bytes8 l := fun x hx => inr_u8 (h.rng x hx)
theorem ports_bd {X : List Int} {p : Pt} (h8 : Bytes8 X) (hE : getE X = 0) (hR : getR (hdOf X) X = (0, p)) : (0 ≤ p.src ∧ p.src ≤ 65535) ∧ (0 ≤ p.dst ∧ p.dst ≤ 65535) := by
  obtain ⟨x1, x2, x3, x4, _⟩ := ports_at h8 hE hR
  obtain ⟨sz, m, t1, t2, t3, t4, t5, t6, t7, t8, t9, t10, _⟩ := got_pre h8 hE hR
  have hsn : (hdOf X).size.toNat = sz := by omega
  rw [hsn] at x1 x2
  cases he : p.err with
  | false =>
    by_cases hp : p.proto = 1
    · obtain ⟨a1, a2⟩ := x2 he hp
      rw [a1, a2]
      exact ⟨n2_bd h8 (by omega), n2_bd h8 (by omega)⟩
    · obtain ⟨a1, a2⟩ := x1 he hp
      rw [a1, a2]
      exact ⟨n2_bd h8 (by omega), n2_bd h8 (by omega)⟩
  | true =>
    obtain ⟨isz, pat, u1, u2, u3, _⟩ := t10 he
    have e1 : p.pat.toNat = pat := by omega
    have e2 : p.inner.size.toNat = isz := by omega
    rw [e1, e2] at x3 x4
    by_cases hp : p.inner.proto = 1
    · obtain ⟨a1, a2⟩ := x4 he hp
      rw [a1, a2]
      exact ⟨n2_bd h8 (by omega), n2_bd h8 (by omega)⟩
    · obtain ⟨a1, a2⟩ := x3 he hp
      rw [a1, a2]
      exact ⟨n2_bd h8 (by omega), n2_bd h8 (by omega)⟩
theorem frame_b8 {k : Nat} {s d a b f : Int} {l : List Int} (hs : 0 ≤ s ∧ s ≤ 4294967295) (hd : 0 ≤ d ∧ d ≤ 4294967295) (ha : 0 ≤ a ∧ a ≤ 65535) (hb : 0 ≤ b ∧ b ≤ 65535) (hl : Bytes8 l) (hn : l.length ≤ 40) (hk : k < 7) : Bytes8 (frameL k s d a b f l) := by
  have hcl := carL_len k s d a b f l hn
  have hc : Bytes8 (carL k s d a b f l) := by
    unfold carL
    split
    · exact udpL_bd hs hd ha hb hl
    split
    · exact tcpL_bd hs hd ha hb hl f
    split
    · exact echoL_bd hl false ha
    split
    · exact echoL_bd hl true ha
    split
    · refine faultL_bd (put_bd (t := 9) (p := 17) (by omega) (by omega) hd hs (udpL_bd hd hs hb ha hl) ?_)
      rw [udpL_len]; have := few_len l; omega
    split
    · refine faultL_bd (Bytes8.take (put_bd (t := 9) (p := 6) (by omega) (by omega) hd hs (tcpL_bd hd hs hb ha hl 2) ?_) _)
      rw [tcpL_len]; have := few_len l; omega
    · refine faultL_bd (put_bd (t := 9) (p := 1) (by omega) (by omega) hd hs (echoL_bd hl false hb) ?_)
      rw [echoL_len]; have := few_len l; omega
  exact put_bd (by omega) (carP_bd k) hs hd hc (by omega)
set_option maxRecDepth 100000 in
set_option maxHeartbeats 8000000 in
theorem Back_go (X : List Int) (er : Bool) (wt s d a b f : Int) (l : List Int) (A : Option Addr) (len cap n : Nat) (addr port : Int) (w : World) (P pr sr ds fl ki co isz i1 i2 i3 i4 i5 pat was : Int) (ba : Bool)
    (hfr : ∀ W, Below w.heap.size w W → Calls Try.prog 6 #[.agg #[.int .i64 wt, .int .u32 s, .int .u32 d, .int .u16 a, .int .u16 b, .int .i64 f, .slice A len cap]] W (Gives W X)) (hs : 0 ≤ s ∧ s ≤ 4294967295) (hd : 0 ≤ d ∧ d ≤ 4294967295)
    (had : 0 ≤ addr ∧ addr ≤ 4294967295) (hpo : 0 ≤ port ∧ port ≤ 65535) (f1 : rwE X = 0) (f2 : getE X = 0) (f3 : hdOf X = ⟨20, n, 64, P, s, d⟩) (hn : X.length = n) (hn2 : 28 ≤ n ∧ n ≤ 130) (hp : (getR (hdOf X) X).2 = ⟨pr, sr, ds, fl, ki, co, er, ⟨isz, i1, i2, i3, i4, i5⟩, pat, ba⟩)
    (hisz : 0 ≤ isz ∧ isz ≤ 60) (hpat : 0 ≤ pat ∧ pat ≤ 1500) (hwas : was = if er then ds else sr) (hwb : 0 ≤ was ∧ was ≤ 65535) :
    Calls Try.prog 3 #[.agg #[.int .i64 wt, .int .u32 s, .int .u32 d, .int .u16 a, .int .u16 b, .int .i64 f, .slice A len cap], .int .u32 addr, .int .u16 port] w fun e w' => e = .returned (.bool true) ∧ Below w.heap.size w w' := by
  have hR : getR (hdOf X) X = (0, ⟨pr, sr, ds, fl, ki, co, er, ⟨isz, i1, i2, i3, i4, i5⟩, pat, ba⟩) := by rw [← hp]; exact (rw_ok f1).2
  have hbk := fun (h8 : Bytes8 X) => rw_back h8 f1 had hpo ⟨pr, sr, ds, fl, ki, co, er, ⟨isz, i1, i2, i3, i4, i5⟩, pat, ba⟩ hp was hwas hwb
  have hal := fun (h8 : Bytes8 X) => (rw_again h8 f1 true had hpo).len
  rw [f3] at hbk hal
  obtain ⟨F, hF⟩ : ∃ F, freeF ⟨20, n, 64, P, s, d⟩ ⟨pr, sr, ds, fl, ki, co, er, ⟨isz, i1, i2, i3, i4, i5⟩, pat, ba⟩ true = F := ⟨_, rfl⟩
  rw [hF] at hbk
  have kf : ∀ W, Calls Try.prog 11 #[.agg #[.int .i64 20, .int .i64 n, .int .i64 64, .int .i64 P, .int .u32 s, .int .u32 d], .agg #[.int .i64 pr, .int .u16 sr, .int .u16 ds, .int .i64 fl, .int .i64 ki, .int .i64 co, .bool er, .int .i64 isz, .int .i64 i1, .int .i64 i2, .int .i64 i3, .int .u32 i4, .int .u32 i5, .int .i64 pat, .bool ba], .bool true] W (FreeR W F) := by
    intro W
    replace hF := Lib.hid hF
    exact Free_out _ _ _ _ _ _ _ _ _ _ _ _ _ _ _ _ _ _ _ _ _ W F ⟨by omega, by omega⟩ hisz hpat hF
  clear hF
  simp only at hbk hal
  generalize hY : rwL X true addr port = Y at *
  generalize hZ : rwL Y true s was = Z at *
  have k1 := fun (g c : Nat) W (ho : Own .u8 5 W w.heap.size (.slice (some ⟨g, 0, none⟩) n c) X) (hc : n ≤ c) (hm : c ≤ 9223372036854775807) => rGet_any X false (some ⟨g, 0, none⟩) n c _ W (ho.rd hn) (Nat.le_refl _) hc hm (by omega)
  have k2 := fun (g c : Nat) W (ho : Own .u8 5 W w.heap.size (.slice (some ⟨g, 0, none⟩) n c) X) (hc : n ≤ c) (hm : c ≤ 9223372036854775807) => rPGet_any (hdOf X) X (some ⟨g, 0, none⟩) n c _ W (ho.rd hn) (Nat.le_refl _) hc hm (by omega) (by rw [f3]; exact hs) (by rw [f3]; exact hd)
  have k3 := fun (g c : Nat) W (ho : Own .u8 5 W w.heap.size (.slice (some ⟨g, 0, none⟩) n c) X) (hc : n ≤ c) (hm : c ≤ 9223372036854775807) => RwOut_any X (some ⟨g, 0, none⟩) n c _ addr port W (ho.rd hn) (Nat.le_refl _) hc hm (by omega) had hpo
  have k4 := fun (hYl : Y.length = n) (g c : Nat) W (ho : Own .u8 5 W w.heap.size (.slice (some ⟨g, 0, none⟩) n c) Y) (hc : n ≤ c) (hm : c ≤ 9223372036854775807) => RwOut_any Y (some ⟨g, 0, none⟩) n c _ s was W (ho.rd hYl) (Nat.le_refl _) hc hm (by omega) hs hwb
  have e0 : getP X false = 0 := f2
  have e1 : hdIf X 0 = hdOf X := rfl
  rw [e0, e1, f3] at k1
  rw [hR, f3] at k2
  rw [f1, hY] at k3
  rw [hZ] at k4
  simp only [Hd.val, Pt.val, Tells] at k1 k2
  clear e0 e1 hR hp f1 f2 f3 hY hZ
  replace hn := Lib.hid hn
  replace hbk := Lib.hid hbk
  replace hal := Lib.hid hal
  replace k1 := Lib.hid k1
  replace k2 := Lib.hid k2
  replace k3 := Lib.hid k3
  replace k4 := Lib.hid k4
  replace kf := Lib.hid kf
  replace hfr := Lib.hid hfr
  replace hwas := Lib.hid hwas
  go_enter Try.func3, Try.ntmps3
  go_upto_region 1 with fail
  have bn := Blk.new w 26 #[.int .i64 wt, .int .u32 s, .int .u32 d, .int .u16 a, .int .u16 b, .int .i64 f, .slice A len cap]
  have bel := bel_alloc w (.cells #[.int .i64 wt, .int .u32 s, .int .u32 d, .int .u16 a, .int .u16 b, .int .i64 f, .slice A len cap] 26)
  generalize w.alloc (.cells #[.int .i64 wt, .int .u32 s, .int .u32 d, .int .u16 a, .int .u16 b, .int .i64 f, .slice A len cap] 26) = W at *
  go_wp2_with (refine wpList_ldRow rfl rfl rfl bn Try.underlying26 sn_size ?_)
  refine (hfr.out _ bel).mono ?_
  rintro e w1 ⟨v1, rfl, own1, bel1⟩
  replace own1 := own1.lower bel.size
  replace bel := bel_after bel bel1
  clear bel1 bn hfr
  obtain ⟨g, c1, rfl, hc1, hc2, hg1, hg2⟩ := own1.formG hn.out (by omega)
  unfold maxLen at hc2
  have h8 := own_b8' own1
  obtain ⟨hY0, hZl, hZf⟩ := hbk.out h8
  have hYl : Y.length = n := by have := hal.out h8; omega
  have hZn : Z.length = n := by omega
  replace k4 := Lib.hid (k4.out hYl)
  rw [hY0] at k4
  replace hZf := Lib.hid hZf
  replace hYl := Lib.hid hYl
  replace hZn := Lib.hid hZn
  clear hbk hal hY0 hZl
  go_wp2_with fail
  refine (k1.out _ _ _ own1 hc1 (by omega)).mono ?_
  rintro e w2 ⟨rfl, hb2⟩
  replace own1 := own1.below hb2
  replace bel := bel_after bel hb2
  clear hb2 k1
  have hgl := (own1.lt g rfl).2
  have bh := (Blk.new w2 29 #[.int .i64 0, .int .i64 0, .int .i64 0, .int .i64 0, .int .u32 0, .int .u32 0]).setRow #[.int .i64 20, .int .i64 n, .int .i64 64, .int .i64 P, .int .u32 s, .int .u32 d]
  replace own1 := (own1.alloc (.cells #[.int .i64 0, .int .i64 0, .int .i64 0, .int .i64 0, .int .u32 0, .int .u32 0] 29)).upd (Upd.row (w2.alloc (.cells #[.int .i64 0, .int .i64 0, .int .i64 0, .int .i64 0, .int .u32 0, .int .u32 0] 29)) w2.heap.size #[.int .i64 20, .int .i64 n, .int .i64 64, .int .i64 P, .int .u32 s, .int .u32 d]) (by intro x hx e; simp [Value.ownBlock] at hx; omega)
  replace bel := below_setRow (bel.alloc bel.size (.cells #[.int .i64 0, .int .i64 0, .int .i64 0, .int .i64 0, .int .u32 0, .int .u32 0] 29)) bel.size #[.int .i64 20, .int .i64 n, .int .i64 64, .int .i64 P, .int .u32 s, .int .u32 d]
  clear hgl
  go_wp2_with (first
    | (refine wpList_stRow rfl rfl rfl rfl rfl (Blk.new w2 _ _) srhd_size rfl (by simp [Value.oneCell']) ?_; generalize (w2.alloc (.cells #[.int .i64 0, .int .i64 0, .int .i64 0, .int .i64 0, .int .u32 0, .int .u32 0] 29)).setRow w2.heap.size #[.int .i64 20, .int .i64 n, .int .i64 64, .int .i64 P, .int .u32 s, .int .u32 d] = W2 at *; generalize w2.heap.size = gh at *)
    | (refine wpList_ldRow rfl rfl rfl bh Try.underlying29 srhd_size ?_))
  refine (k2.out _ _ _ own1 hc1 (by omega)).mono ?_
  rintro e w3 ⟨rfl, hb3⟩
  replace own1 := own1.below hb3
  replace bh := bh.bel hb3
  replace bel := bel_after bel hb3
  clear hb3 k2
  have hgl := (own1.lt g rfl).2
  have hhl := bh.lt
  have bp := (Blk.new w3 33 #[.int .i64 0, .int .u16 0, .int .u16 0, .int .i64 0, .int .i64 0, .int .i64 0, .bool false, .int .i64 0, .int .i64 0, .int .i64 0, .int .i64 0, .int .u32 0, .int .u32 0, .int .i64 0, .bool false]).setRow #[.int .i64 pr, .int .u16 sr, .int .u16 ds, .int .i64 fl, .int .i64 ki, .int .i64 co, .bool er, .int .i64 isz, .int .i64 i1, .int .i64 i2, .int .i64 i3, .int .u32 i4, .int .u32 i5, .int .i64 pat, .bool ba]
  replace bh := (bh.alloc (.cells #[.int .i64 0, .int .u16 0, .int .u16 0, .int .i64 0, .int .i64 0, .int .i64 0, .bool false, .int .i64 0, .int .i64 0, .int .i64 0, .int .i64 0, .int .u32 0, .int .u32 0, .int .i64 0, .bool false] 33)).setRow_far (g' := w3.heap.size) (by omega) #[.int .i64 pr, .int .u16 sr, .int .u16 ds, .int .i64 fl, .int .i64 ki, .int .i64 co, .bool er, .int .i64 isz, .int .i64 i1, .int .i64 i2, .int .i64 i3, .int .u32 i4, .int .u32 i5, .int .i64 pat, .bool ba]
  replace own1 := (own1.alloc (.cells #[.int .i64 0, .int .u16 0, .int .u16 0, .int .i64 0, .int .i64 0, .int .i64 0, .bool false, .int .i64 0, .int .i64 0, .int .i64 0, .int .i64 0, .int .u32 0, .int .u32 0, .int .i64 0, .bool false] 33)).upd (Upd.row (w3.alloc (.cells #[.int .i64 0, .int .u16 0, .int .u16 0, .int .i64 0, .int .i64 0, .int .i64 0, .bool false, .int .i64 0, .int .i64 0, .int .i64 0, .int .i64 0, .int .u32 0, .int .u32 0, .int .i64 0, .bool false] 33)) w3.heap.size #[.int .i64 pr, .int .u16 sr, .int .u16 ds, .int .i64 fl, .int .i64 ki, .int .i64 co, .bool er, .int .i64 isz, .int .i64 i1, .int .i64 i2, .int .i64 i3, .int .u32 i4, .int .u32 i5, .int .i64 pat, .bool ba]) (by intro x hx e; simp [Value.ownBlock] at hx; omega)
  replace bel := below_setRow (bel.alloc bel.size (.cells #[.int .i64 0, .int .u16 0, .int .u16 0, .int .i64 0, .int .i64 0, .int .i64 0, .bool false, .int .i64 0, .int .i64 0, .int .i64 0, .int .i64 0, .int .u32 0, .int .u32 0, .int .i64 0, .bool false] 33)) bel.size #[.int .i64 pr, .int .u16 sr, .int .u16 ds, .int .i64 fl, .int .i64 ki, .int .i64 co, .bool er, .int .i64 isz, .int .i64 i1, .int .i64 i2, .int .i64 i3, .int .u32 i4, .int .u32 i5, .int .i64 pat, .bool ba]
  clear hgl hhl
  go_wp2_with (refine wpList_stRow rfl rfl rfl rfl rfl (Blk.new w3 _ _) srpt_size rfl (by simp [Value.oneCell']) ?_; generalize (w3.alloc (.cells #[.int .i64 0, .int .u16 0, .int .u16 0, .int .i64 0, .int .i64 0, .int .i64 0, .bool false, .int .i64 0, .int .i64 0, .int .i64 0, .int .i64 0, .int .u32 0, .int .u32 0, .int .i64 0, .bool false] 33)).setRow w3.heap.size #[.int .i64 pr, .int .u16 sr, .int .u16 ds, .int .i64 fl, .int .i64 ki, .int .i64 co, .bool er, .int .i64 isz, .int .i64 i1, .int .i64 i2, .int .i64 i3, .int .u32 i4, .int .u32 i5, .int .i64 pat, .bool ba] = W3 at *; generalize w3.heap.size = gp at *)
  refine (k3.out _ _ _ own1 hc1 (by omega)).mono ?_
  rintro e w4 ⟨⟨va, rfl, oa, _⟩, hb4⟩
  replace oa := (oa rfl).lower bel.size
  obtain ⟨ga, ca, rfl, hca, hca2, hga, _⟩ := oa.formG hYl.out (by omega)
  unfold maxLen at hca2
  replace own1 := own1.below hb4
  replace bh := bh.bel hb4
  replace bp := bp.bel hb4
  replace bel := bel_after bel hb4
  clear hb4 k3
  have p1 := bp.cell 1
  have p2 := bp.cell 2
  have p6 := bp.cell 6
  have q4 := bh.cell 4
  cases er with
  | true =>
    have e0 : was = ds := hwas.out
    rw [e0] at k4
    clear e0 hwas hwb
    go_wp2_with fail
    refine (k4.out _ _ _ oa hca (by omega)).mono ?_
    rintro e w5 ⟨⟨vb, rfl, ob, _⟩, hb5⟩
    replace ob := (ob rfl).lower bel.size
    obtain ⟨gb, cb, rfl, hcb, hcb2, hgb, _⟩ := ob.formG hZn.out (by omega)
    unfold maxLen at hcb2
    replace own1 := own1.below hb5
    replace bh := bh.bel hb5
    replace bp := bp.bel hb5
    replace bel := bel_after bel hb5
    clear hb5 k4 oa hca hca2 p1 p2 p6 q4
    go_wp2_with fail
    refine (writes_any _).mono ?_
    rintro e w6 ⟨rfl, hb6⟩
    replace own1 := own1.below hb6
    replace ob := ob.below hb6
    replace bh := bh.bel hb6
    replace bp := bp.bel hb6
    replace bel := bel_after bel hb6
    clear hb6
    go_upto_region 11 with fail
    have p6 := bp.cell 6
    have p12 := bp.cell 12
    have q4 := bh.cell 4
    by_cases hds : i5 = s
    · have dd : (i5 != s) = false := by simpa using hds
      have hneg : ¬ (true = true ∧ i5 ≠ s) := fun h => h.2 hds
      replace hds := Lib.hid hds
      replace hneg := Lib.hid hneg
      go_upto_region 13 with fail
      clear p6 p12 q4 dd
      go_wp2_with (first
        | (refine wpList_ldRow rfl rfl rfl bh Try.underlying29 srhd_size ?_)
        | (refine wpList_ldRow rfl rfl rfl bp Try.underlying33 srpt_size ?_))
      refine (kf.out _).mono ?_
      rintro e w7 ⟨bm, nm, rfl, hmap, hb7, _⟩
      replace own1 := own1.below hb7
      replace ob := ob.below hb7
      replace bel := bel_after bel hb7
      clear hb7 kf bh bp
      have rdX := own1.rd hn.out
      have rdZ := ob.rd hZn.out
      clear own1 ob
      go_wp2_with fail
      go_loopw [18] (fun i wr => ∃ k : Nat, k ≤ n ∧ i = .int .i64 k ∧ Below w7.heap.size w7 wr) (fun i _ => n - (intOf i).toNat)
      case atStart => exact ⟨0, by omega, rfl, Below.refl _ _⟩
      case round =>
        obtain ⟨k, hk, rfl, belk⟩ := hrel
        rcases Nat.lt_or_ge k n with hkm | hkm
        · have d1 : decide ((k : Int) < (n : Int)) = true := by simpa using hkm
          have d2 : decide (k < n) = true := by simpa using hkm
          obtain ⟨b1, o1, e1, hb1, y1, r1⟩ := rdX.at_ (j := k) hkm
          obtain ⟨b2, o2, e2, hb2, y2, r2⟩ := rdZ.at_ (j := k) hkm
          simp only [Option.some.injEq, Addr.mk.injEq, and_true] at e1 e2
          obtain ⟨rfl, rfl⟩ := e1
          obtain ⟨rfl, rfl⟩ := e2
          simp only [Nat.zero_add] at y1 y2
          have q1 : ∀ t : Tw (Up wr), t.w.cell? ⟨g, k, none⟩ = some (.int .u8 (X.getD k 0)) := fun t => ((belk.trans (t.h.mono belk.size)).cell (p := ⟨g, k, none⟩) hb1).trans y1
          have q2 : ∀ t : Tw (Up wr), t.w.cell? ⟨gb, k, none⟩ = some (.int .u8 (Z.getD k 0)) := fun t => ((belk.trans (t.h.mono belk.size)).cell (p := ⟨gb, k, none⟩) hb2).trans y2
          have hmk := hmap.bel belk
          have q3 : ∀ w', (∃ t : Tw (Up wr), w' = t.w) → MapI w' bm nm F := fun w' h => by obtain ⟨t, rfl⟩ := h; exact hmk.bel t.h
          have zz := Up.one wr
          have kb : inr .i64 (k : Int) := i64_inr (by omega)
          have k0 : (0 : Int) ≤ (k : Int) := by omega
          have kI : (k : Int) < (n : Int) := by omega
          clear y1 y2 hmk
          go_upto_region 17 with fail
          by_cases hFk : F k = 3
          · have d3 : (F k != 3) = false := by simpa using hFk
            replace hFk := Lib.hid hFk
            refine region_tw (Up wr) (by kernel_rfl) (by kernel_rfl) (Up.rfl_ wr).drew ?_
            unfold clsS
            repeat (first
              | go_big_quiet_skip
              | (go_big_quiet_want; first | (refine quiet_look _ _ rfl bm nm F rfl q3 _ rfl kb ?_; go_simp; go_big_quiet_on) | (go_big_quiet_op; go_big_quiet_on)))
            refine wpQuiet_nil ?_
            intro tq
            go_wp2_with fail
            go_roundw
            case rel => exact ⟨k + 1, by omega, by go_num, bel_after belk tq.h⟩
            case measure => simp [intOf]; omega
          · have d3 : (F k != 3) = true := by simpa using hFk
            have e3 := hZf.out (hneg.out) k (by rw [hZn.out]; exact hkm) hFk
            rw [e3] at q2
            replace hFk := Lib.hid hFk
            clear e3
            refine region_tw (Up wr) (by kernel_rfl) (by kernel_rfl) (Up.rfl_ wr).drew ?_
            unfold clsS
            repeat (first
              | go_big_quiet_skip
              | (go_big_quiet_want; first | (refine quiet_look _ _ rfl bm nm F rfl q3 _ rfl kb ?_; go_simp; go_big_quiet_on) | (go_big_quiet_op; go_big_quiet_on)))
            refine wpQuiet_nil ?_
            intro tq
            go_wp2_with fail
            go_roundw
            case rel => exact ⟨k + 1, by omega, by go_num, bel_after belk tq.h⟩
            case measure => simp [intOf]; omega
        · obtain rfl : k = n := by omega
          have d1 : decide ((k : Int) < (k : Int)) = false := by simp
          have d2 : decide (k < k) = false := by simp
          go_wp2
          go_ret
          exact ⟨rfl, bel_after bel belk⟩
    · have dd : (i5 != s) = true := by simpa using hds
      go_wp2
      go_ret
      exact ⟨rfl, bel⟩
  | false =>
    have e0 : was = sr := hwas.out
    rw [e0] at k4
    clear e0 hwas hwb
    go_wp2_with fail
    refine (k4.out _ _ _ oa hca (by omega)).mono ?_
    rintro e w5 ⟨⟨vb, rfl, ob, _⟩, hb5⟩
    replace ob := (ob rfl).lower bel.size
    obtain ⟨gb, cb, rfl, hcb, hcb2, hgb, _⟩ := ob.formG hZn.out (by omega)
    unfold maxLen at hcb2
    replace own1 := own1.below hb5
    replace bh := bh.bel hb5
    replace bp := bp.bel hb5
    replace bel := bel_after bel hb5
    clear hb5 k4 oa hca hca2 p1 p2 p6 q4
    go_wp2_with fail
    refine (writes_any _).mono ?_
    rintro e w6 ⟨rfl, hb6⟩
    replace own1 := own1.below hb6
    replace ob := ob.below hb6
    replace bh := bh.bel hb6
    replace bp := bp.bel hb6
    replace bel := bel_after bel hb6
    clear hb6
    go_upto_region 11 with fail
    have p6 := bp.cell 6
    have hneg : ¬ (false = true ∧ i5 ≠ s) := fun h => by cases h.1
    replace hneg := Lib.hid hneg
    go_upto_region 13 with fail
    clear p6
    go_wp2_with (first
      | (refine wpList_ldRow rfl rfl rfl bh Try.underlying29 srhd_size ?_)
      | (refine wpList_ldRow rfl rfl rfl bp Try.underlying33 srpt_size ?_))
    refine (kf.out _).mono ?_
    rintro e w7 ⟨bm, nm, rfl, hmap, hb7, _⟩
    replace own1 := own1.below hb7
    replace ob := ob.below hb7
    replace bel := bel_after bel hb7
    clear hb7 kf bh bp
    have rdX := own1.rd hn.out
    have rdZ := ob.rd hZn.out
    clear own1 ob
    go_wp2_with fail
    go_loopw [18] (fun i wr => ∃ k : Nat, k ≤ n ∧ i = .int .i64 k ∧ Below w7.heap.size w7 wr) (fun i _ => n - (intOf i).toNat)
    case atStart => exact ⟨0, by omega, rfl, Below.refl _ _⟩
    case round =>
      obtain ⟨k, hk, rfl, belk⟩ := hrel
      rcases Nat.lt_or_ge k n with hkm | hkm
      · have d1 : decide ((k : Int) < (n : Int)) = true := by simpa using hkm
        have d2 : decide (k < n) = true := by simpa using hkm
        obtain ⟨b1, o1, e1, hb1, y1, r1⟩ := rdX.at_ (j := k) hkm
        obtain ⟨b2, o2, e2, hb2, y2, r2⟩ := rdZ.at_ (j := k) hkm
        simp only [Option.some.injEq, Addr.mk.injEq, and_true] at e1 e2
        obtain ⟨rfl, rfl⟩ := e1
        obtain ⟨rfl, rfl⟩ := e2
        simp only [Nat.zero_add] at y1 y2
        have q1 : ∀ t : Tw (Up wr), t.w.cell? ⟨g, k, none⟩ = some (.int .u8 (X.getD k 0)) := fun t => ((belk.trans (t.h.mono belk.size)).cell (p := ⟨g, k, none⟩) hb1).trans y1
        have q2 : ∀ t : Tw (Up wr), t.w.cell? ⟨gb, k, none⟩ = some (.int .u8 (Z.getD k 0)) := fun t => ((belk.trans (t.h.mono belk.size)).cell (p := ⟨gb, k, none⟩) hb2).trans y2
        have hmk := hmap.bel belk
        have q3 : ∀ w', (∃ t : Tw (Up wr), w' = t.w) → MapI w' bm nm F := fun w' h => by obtain ⟨t, rfl⟩ := h; exact hmk.bel t.h
        have zz := Up.one wr
        have kb : inr .i64 (k : Int) := i64_inr (by omega)
        have k0 : (0 : Int) ≤ (k : Int) := by omega
        have kI : (k : Int) < (n : Int) := by omega
        clear y1 y2 hmk
        go_upto_region 17 with fail
        by_cases hFk : F k = 3
        · have d3 : (F k != 3) = false := by simpa using hFk
          replace hFk := Lib.hid hFk
          refine region_tw (Up wr) (by kernel_rfl) (by kernel_rfl) (Up.rfl_ wr).drew ?_
          unfold clsS
          repeat (first
            | go_big_quiet_skip
            | (go_big_quiet_want; first | (refine quiet_look _ _ rfl bm nm F rfl q3 _ rfl kb ?_; go_simp; go_big_quiet_on) | (go_big_quiet_op; go_big_quiet_on)))
          refine wpQuiet_nil ?_
          intro tq
          go_wp2_with fail
          go_roundw
          case rel => exact ⟨k + 1, by omega, by go_num, bel_after belk tq.h⟩
          case measure => simp [intOf]; omega
        · have d3 : (F k != 3) = true := by simpa using hFk
          have e3 := hZf.out (hneg.out) k (by rw [hZn.out]; exact hkm) hFk
          rw [e3] at q2
          replace hFk := Lib.hid hFk
          clear e3
          refine region_tw (Up wr) (by kernel_rfl) (by kernel_rfl) (Up.rfl_ wr).drew ?_
          unfold clsS
          repeat (first
            | go_big_quiet_skip
            | (go_big_quiet_want; first | (refine quiet_look _ _ rfl bm nm F rfl q3 _ rfl kb ?_; go_simp; go_big_quiet_on) | (go_big_quiet_op; go_big_quiet_on)))
          refine wpQuiet_nil ?_
          intro tq
          go_wp2_with fail
          go_roundw
          case rel => exact ⟨k + 1, by omega, by go_num, bel_after belk tq.h⟩
          case measure => simp [intOf]; omega
      · obtain rfl : k = n := by omega
        have d1 : decide ((k : Int) < (k : Int)) = false := by simp
        have d2 : decide (k < k) = false := by simp
        go_wp2
        go_ret
        exact ⟨rfl, bel_after bel belk⟩
theorem RewriteBack_walk (wt s d a b f : Int) (l : List Int) (A : Option Addr) (len cap : Nat) (addr port : Int) (w : World) (hr : Rd .u8 w w.heap.size A len l) (hlc : len ≤ cap) (hcm : cap ≤ maxLen) (hs : 0 ≤ s ∧ s ≤ 4294967295) (hd : 0 ≤ d ∧ d ≤ 4294967295) (ha : 0 ≤ a ∧ a ≤ 65535) (hb : 0 ≤ b ∧ b ≤ 65535)
    (had : 0 ≤ addr ∧ addr ≤ 4294967295) (hpo : 0 ≤ port ∧ port ≤ 65535) :
    Calls Try.prog 3 #[.agg #[.int .i64 wt, .int .u32 s, .int .u32 d, .int .u16 a, .int .u16 b, .int .i64 f, .slice A len cap], .int .u32 addr, .int .u16 port] w fun e w' => e = .returned (.bool true) ∧ Below w.heap.size w w' := by
  unfold maxLen at hcm
  obtain ⟨k, hk, hk7⟩ := modn wt 7 (by omega)
  have hfr := fun w' (h : Below w.heap.size w w') => Frame_any wt s d a b f l A len cap k w' ((hr.below h).more h.size) hlc hcm hs hd ha hb hk (by omega)
  have hl8 : Bytes8 (l.take 40) := fun x hx => inr_u8 (hr.rng x (List.mem_of_mem_take hx))
  have hl40 : (l.take 40).length ≤ 40 := by rw [List.length_take]; omega
  obtain ⟨f1, f2, f3⟩ := frame_rw (k := k) (f := f) hs hd ha hb hl8 hl40
  obtain ⟨f5, f6⟩ := frame_bd (k := k) (s := s) (d := d) (a := a) (b := b) (f := f) hl40
  by_cases hX8 : Bytes8 (frameL k s d a b f (l.take 40))
  · generalize frameL k s d a b f (l.take 40) = X at *
    obtain ⟨_, hR⟩ := rw_ok f1
    have hpb := ports_bd hX8 f2 hR
    obtain ⟨sz, m, t1, t2, t3, t4, t5, t6, t7, t8, t9, t10, t11⟩ := got_pre hX8 f2 hR
    generalize hp : (getR (hdOf X) X).2 = p at *
    obtain ⟨pr, sr, ds, fl, ki, co, er, ⟨isz, i1, i2, i3, i4, i5⟩, pat, ba⟩ := p
    simp only at hpb t10 t11
    have hb2 : (0 ≤ isz ∧ isz ≤ 60) ∧ (0 ≤ pat ∧ pat ≤ 1500) := by
      cases er with
      | true =>
        obtain ⟨q1, q2, u1, u2, u3, u4, u5, u6, _⟩ := t10 rfl
        omega
      | false =>
        obtain ⟨u1, u2⟩ := t11 rfl
        simp only [Hd.z, Hd.mk.injEq] at u1
        omega
    exact Back_go X er wt s d a b f l A len cap X.length addr port w (carP k) pr sr ds fl ki co isz i1 i2 i3 i4 i5 pat (if er then ds else sr) ba hfr hs hd had hpo f1 f2 f3 rfl ⟨by omega, by omega⟩ hp hb2.1 hb2.2 rfl (by cases er; exact hpb.1; exact hpb.2)
  · exfalso
    exact hX8 (frame_b8 hs hd ha hb hl8 hl40 (by omega))
theorem RewriteBack_args (W : World) (args : Array Value) (hs : args.size = Try.f3.params.size) (hA : ∀ (j : Nat) t v, Try.f3.params[j]? = some t → args[j]? = some v → Arg Try.prog W t v) :
    Calls Try.prog 3 args W fun e W' => e = .returned (.bool true) ∧ Below W.heap.size W W' := by
  obtain ⟨v0, v1, v2, rfl⟩ := args3 hs
  obtain ⟨wt, s, d, a, b, f, A, len, cap, l, rfl, h1, h2, h3, h4, h5, h6, h7⟩ := arg_sent (hA 0 26 v0 rfl rfl)
  obtain ⟨x, rfl, hx⟩ := arg_int Try.underlying22 (hA 1 22 v1 rfl rfl)
  obtain ⟨y, rfl, hy⟩ := arg_int Try.underlying23 (hA 2 23 v2 rfl rfl)
  exact RewriteBack_walk wt s d a b f l A len cap x y W h7 h5 h6 h1 h2 h3 h4 (inr_u32 hx) (inr_u16 hy)

set_option maxRecDepth 100000 in
theorem RewriteBack_lifted (os : Os) (started : os.Started) (H : Type) (enc : TypeId × Value → H) :
    ReturnsInHanded {} Try.checked os 3 .any (Rows.rewriteBackSpec.pre6 enc Try.prog Try.f3 Rows.rewriteBackRow.domain false) (Rows.rewriteBackSpec.post enc Try.prog Try.f3 false true false false) :=
  law_lifted os started H enc (by kernel_rfl) Try.func3 rfl rfl (fun H ds h => by match ds, h with | [_, _, _], _ => exact ⟨rfl, rfl, rfl⟩) (by kernel_rfl)
    (ChangeSpec.witness6 (enc := enc) (C := Try.checked) false ⟨#[], #[.agg #[.int .i64 0, .int .u32 0, .int .u32 0, .int .u16 0, .int .u16 0, .int .i64 0, .slice none 0 0], .int .u32 0, .int .u16 0], []⟩ 8 (by kernel_rfl) (by kernel_rfl) (by kernel_rfl) (by kernel_rfl))
    RewriteBack_args

/-- the statement -/
theorem rewriteBack_holds : Rows.RewriteBackSaid :=
  OpenClaim.holds_of_wide 3 Try.f3 rfl rfl rfl rfl rfl rfl rfl ⟨rfl, rfl, rfl, rfl, rfl⟩ rfl rfl rfl rfl rfl (by kernel_rfl) Try.func3 (by kernel_rfl)
    (of_decide_eq_true (by kernel_rfl)) (by unfold Func.isWrapper; first | (rw [if_pos (by decide +kernel)]; kernel_rfl) | (rw [if_neg (by decide +kernel)]; exact ⟨rfl, rfl⟩))
    (fun os started H enc _ => RewriteBack_lifted os started H enc)

end Go.Proofs.Ytgnicbljkidbhaa
