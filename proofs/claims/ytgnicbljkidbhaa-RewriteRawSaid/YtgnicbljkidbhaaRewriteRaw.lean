/- Every input of RewriteRaw answers true, and reads behind the call as it read before. No condition. -/
import Derived.Test.YtgnicbljkidbhaaRewAll4
import Derived.Test.YtgnicbljkidbhaaRewAll3
import Derived.Test.YtgnicbljkidbhaaPart24
namespace Go.Proofs.Ytgnicbljkidbhaa
set_option linter.unusedVariables false
set_option linter.unusedSimpArgs false
open Go.RowKit
theorem arr2r {cs : Array Value} {x0 x1 : Value} (h : cs.size = 2) (h0 : cs.toList[0]? = some x0) (h1 : cs.toList[1]? = some x1) : cs = #[x0, x1] := by
  obtain ⟨l⟩ := cs
  match l, h with
  | [y0, y1], _ =>
    simp only [List.getElem?_cons_zero, List.getElem?_cons_succ, Option.some.injEq] at h0 h1
    rw [h0, h1]
theorem arg_twor {W : World} {v : Value} (h : Arg Try.prog W 44 v) : ∃ x y : Int, v = .agg #[.int .i64 x, .int .i64 y] := by
  obtain ⟨cs, m, rfl, hs, hf⟩ := arg_array Try.underlying44 h
  have hC : Try.prog.cellsOf 44 = 2 := by kernel_rfl
  have hCi : Try.prog.cellsOf 3 = 1 := by kernel_rfl
  have key : ∀ i, i < 2 → ∃ n, cs.toList[i]? = some (.int .i64 n) := by
    intro i hi
    have h1 := hf i hi
    rw [hCi] at h1
    obtain ⟨n, hn, _⟩ := rdg_int Try.underlying3 h1
    refine ⟨n, ?_⟩
    have : ((cs.toList.drop (i * 1)).take 1)[0]? = some (.int .i64 n) := by rw [hn]; rfl
    simpa using this
  obtain ⟨x, hx⟩ := key 0 (by omega)
  obtain ⟨y, hy⟩ := key 1 (by omega)
  exact ⟨x, y, by rw [arr2r (hs.trans hC) hx hy]⟩
set_option maxRecDepth 100000 in
set_option maxHeartbeats 8000000 in
theorem RewriteRaw_walk (wt s d a b f b0 b1 : Int) (l lr : List Int) (A A2 : Option Addr) (len cap n2' c2 : Nat) (w : World) (hr : Rd .u8 w w.heap.size A len l) (hlc : len ≤ cap) (hcm : cap ≤ maxLen) (hrr : Rd .u8 w w.heap.size A2 n2' lr) (hlc2 : n2' ≤ c2) (hcm2 : c2 ≤ maxLen) (hs : 0 ≤ s ∧ s ≤ 4294967295) (hd : 0 ≤ d ∧ d ≤ 4294967295) (ha : 0 ≤ a ∧ a ≤ 65535) (hb : 0 ≤ b ∧ b ≤ 65535) :
    Calls Try.prog 5 #[.agg #[.int .i64 wt, .int .u32 s, .int .u32 d, .int .u16 a, .int .u16 b, .int .i64 f, .slice A len cap], .agg #[.int .i64 b0, .int .i64 b1], .slice A2 n2' c2] w fun e w' => e = .returned (.bool true) ∧ Below w.heap.size w w' := by
  unfold maxLen at hcm hcm2
  obtain ⟨k, hk, hk7⟩ := modn wt 7 (by omega)
  have hfr := fun w' (h : Below w.heap.size w w') => Frame_any wt s d a b f l A len cap k w' ((hr.below h).more h.size) hlc hcm hs hd ha hb hk (by omega)
  have hl40 : (l.take 40).length ≤ 40 := by rw [List.length_take]; omega
  obtain ⟨f5, f6⟩ := frame_bd (k := k) (s := s) (d := d) (a := a) (b := b) (f := f) hl40
  generalize frameL k s d a b f (l.take 40) = X at *
  obtain ⟨n, hn⟩ : ∃ n, X.length = n := ⟨_, rfl⟩
  rw [hn] at f5 f6
  clear hk hk7 hl40 hr
  obtain ⟨q, hq, hqn⟩ := modn b0 (n : Int) (by omega)
  have hqv : Value.int .u64 ((IntKind.u64.wrap b0).tmod (n : Int)) = .int .u64 (q : Int) := by rw [hq]
  clear hq
  have hqn2 : q < n := by omega
  obtain ⟨mr, hmr, hmr1, hmr2⟩ := minc 100 (by omega) n2'
  have hrm := hrr.take hmr1
  replace hn := Lib.hid hn
  replace hfr := Lib.hid hfr
  clear hrr
  go_enter Try.func5, Try.ntmps5
  go_upto_region 1 with fail
  have bn := (Blk.new w 26 #[.int .i64 wt, .int .u32 s, .int .u32 d, .int .u16 a, .int .u16 b, .int .i64 f, .slice A len cap]).alloc (.cells #[.int .i64 b0, .int .i64 b1] 44)
  have bb := Blk.new (w.alloc (.cells #[.int .i64 wt, .int .u32 s, .int .u32 d, .int .u16 a, .int .u16 b, .int .i64 f, .slice A len cap] 26)) 44 #[.int .i64 b0, .int .i64 b1]
  rw [show (w.alloc (.cells #[.int .i64 wt, .int .u32 s, .int .u32 d, .int .u16 a, .int .u16 b, .int .i64 f, .slice A len cap] 26)).heap.size = w.heap.size + 1 by simp] at bb
  have bel : Below w.heap.size w ((w.alloc (.cells #[.int .i64 wt, .int .u32 s, .int .u32 d, .int .u16 a, .int .u16 b, .int .i64 f, .slice A len cap] 26)).alloc (.cells #[.int .i64 b0, .int .i64 b1] 44)) := (bel_alloc _ _).alloc (by simp) _
  generalize ((w.alloc (.cells #[.int .i64 wt, .int .u32 s, .int .u32 d, .int .u16 a, .int .u16 b, .int .i64 f, .slice A len cap] 26)).alloc (.cells #[.int .i64 b0, .int .i64 b1] 44)) = W at *
  go_wp2_with (refine wpList_ldRow rfl rfl rfl bn Try.underlying26 sn_size ?_)
  refine (hfr.out _ bel).mono ?_
  rintro e w1 ⟨v1, rfl, own1, bel1⟩
  replace own1 := own1.lower bel.size
  replace bb := bb.bel bel1
  replace bel := bel_after bel bel1
  clear bel1 bn hfr
  obtain ⟨g, c1, rfl, hc1, hc2, hg1, hg2⟩ := own1.formG hn.out (by omega)
  unfold maxLen at hc2
  have q0 := bb.cell 0
  have q1 := bb.cell 1
  obtain ⟨cj, fj, xj⟩ := own1.at_ hn.out (j := q) hqn2
  obtain ⟨xo, hxo⟩ : ∃ v, v = X.getD q 0 := ⟨_, rfl⟩
  rw [← hxo] at cj
  clear hxo xj
  have hj0 : (0 : Int) ≤ (q : Int) := by omega
  have hgne : g ≠ w.heap.size + 1 := by have := own1.ne bb (by decide); omega
  obtain ⟨xv, hxv⟩ : ∃ v, bits .xor .u8 xo (b1 % 256) = v := ⟨_, rfl⟩
  have hxb : 0 ≤ xv ∧ xv ≤ 255 := by
    rw [← hxv]
    have h : ∀ v : Int, 0 ≤ IntKind.u8.wrap v ∧ IntKind.u8.wrap v ≤ 255 := fun v => by rw [IntKind.wrap_u8' v]; omega
    exact h _
  have hnu : IntKind.u64.wrap (n : Int) = (n : Int) := by simp [IntKind.wrap, IntKind.bits, IntKind.signed]; omega
  go_upto_region 2 with fail
  go_region
  have own2 := (own1.set hn.out q (x := xv) (u8_inr hxb)).drew
  have hl2 : (X.set q xv).length = n := by rw [List.length_set]; exact hn.out
  replace bel := (bel.setCell (p := ⟨g, q, none⟩) hg1 (.int .u8 xv)).drew
  clear q0 q1 cj fj own1 bb hqv hqn hqn2 hxv hj0 hgne hnu hn
  generalize X.set q xv = F at *
  generalize (w1.setCell ⟨g, q, none⟩ (.int .u8 xv)).drew = W2 at *
  clear hg2 hxb
  have hmr0 : (0 : Int) ≤ (mr : Int) := by omega
  have hmrc : (mr : Int) ≤ (c2 : Int) := by omega
  have hmrc2 : mr ≤ c2 := by omega
  replace hl2 := Lib.hid hl2
  go_wp2_with fail
  go_loopw [8] (fun i wr => ∃ k : Nat, k ≤ 2 ∧ i = .int .i64 k ∧ Own .u8 5 wr w.heap.size (.slice (some ⟨g, 0, none⟩) n c1) F ∧ Below w.heap.size w wr) (fun i _ => 2 - (intOf i).toNat)
  case atStart => exact ⟨0, by omega, rfl, own2, bel⟩
  case round =>
    clear own2 bel
    obtain ⟨k, hk, rfl, own, bel⟩ := hrel
    rcases Nat.lt_or_ge k 2 with hkn | hkn
    · have d1 : decide ((k : Int) < 2) = true := by simp; omega
      have d2 : decide (k < 2) = true := by simpa using hkn
      go_upto_if 40 with fail
      go_cut [9] (fun x9 wx => wr = wx ∧ ∃ (A : Option Addr) (m c : Nat) (X : List Int), x9 = .slice A m c ∧ Rd .u8 wr wr.heap.size A m X ∧ m ≤ c ∧ c ≤ 9223372036854775807 ∧ m ≤ 130)
      case first =>
        by_cases h1 : k = 1
        · subst h1
          go_wp2_with fail
          go_meet
          exact ⟨rfl, A2, mr, c2, _, rfl, (hrm.below bel).more bel.size, hmrc2, by omega, by omega⟩
        · have d3 : ((k : Int) == 1) = false := by simp; omega
          go_wp2_with fail
          go_meet
          exact ⟨rfl, _, n, c1, F, rfl, own.rd hl2.out, hc1, by omega, by omega⟩
      case rest =>
        obtain ⟨rfl, A9, m9, c9, X9, rfl, rd9, hmc9, hc9, hm9⟩ := hcut
        have h8 : Bytes8 X9 := fun x hx => inr_u8 (rd9.rng x hx)
        have k1 := fun W (h : Below wr.heap.size wr W) => rGet_any X9 false A9 m9 c9 wr.heap.size W (rd9.below h) h.size hmc9 hc9 (by omega)
        have ko := fun W (h : Below wr.heap.size wr W) => RwOut_any X9 A9 m9 c9 wr.heap.size 3221225985 7 W (rd9.below h) h.size hmc9 hc9 (by omega) (by omega) (by omega)
        have ki' := fun W (h : Below wr.heap.size wr W) => RwIn_any X9 A9 m9 c9 wr.heap.size 167772169 8 W (rd9.below h) h.size hmc9 hc9 (by omega) (by omega) (by omega)
        have e0 : getP X9 false = getE X9 := rfl
        rw [e0] at k1
        clear e0
        have bel0 : Below wr.heap.size wr wr := Below.refl _ _
        by_cases hE : getE X9 = 0
        · have hbb := rw_bds h8 hE
          have eX : hdIf X9 0 = hdOf X9 := rfl
          rw [hE, eX] at k1
          rw [eX] at hbb
          have k2 := fun W (h : Below wr.heap.size wr W) => rPGet_any (hdOf X9) X9 A9 m9 c9 wr.heap.size W (rd9.below h) h.size hmc9 hc9 (by omega) hbb.1 hbb.2
          have hrw : rwE X9 = (getR (hdOf X9) X9).1 := by unfold rwE; rw [if_neg (by simp [hE])]
          by_cases hE2 : rwE X9 = 0
          · have a1 := rw_again h8 hE2 true (a := 3221225985) (port := 7) (by omega) (by omega)
            have a2 := rw_again h8 hE2 false (a := 167772169) (port := 8) (by omega) (by omega)
            obtain ⟨_, hR⟩ := rw_ok hE2
            generalize hp : (getR (hdOf X9) X9).2 = p at *
            rw [hR] at k2
            have l1 := a1.len
            have l2 := a2.len
            obtain ⟨sz, m, s1, s2, _, _, s5, s6, s7, _⟩ := got_pre h8 hE hR
            have hY1 : (rwL X9 true 3221225985 7).length = m := by omega
            have hY2 : (rwL X9 false 167772169 8).length = m := by omega
            rw [hE2] at ko ki'
            generalize rwL X9 true 3221225985 7 = Y1 at *
            generalize rwL X9 false 167772169 8 = Y2 at *
            have g1 := fun (g2 c2 : Nat) W (hb : Below wr.heap.size wr W) (h2 : Rd .u8 W W.heap.size (some ⟨g2, 0, none⟩) m Y1) (hc : m ≤ c2) (hm : c2 ≤ 9223372036854775807) => same_yes X9 Y1 A9 (some ⟨g2, 0, none⟩) m9 c9 m c2 W ((rd9.below hb).more hb.size) h2 hmc9 hc9 hc hm (by omega) p true 3221225985 7 hE hR a1
            have g2 := fun (g2 c2 : Nat) W (hb : Below wr.heap.size wr W) (h2 : Rd .u8 W W.heap.size (some ⟨g2, 0, none⟩) m Y2) (hc : m ≤ c2) (hm : c2 ≤ 9223372036854775807) => same_yes X9 Y2 A9 (some ⟨g2, 0, none⟩) m9 c9 m c2 W ((rd9.below hb).more hb.size) h2 hmc9 hc9 hc hm (by omega) p false 167772169 8 hE hR a2
            clear a1 a2 hp hR l1 l2 hrw hE2 hbb eX hE s1 s2 s7 rd9
            generalize hdOf X9 = H at *
            obtain ⟨h0, h1, h2, h3, h4, h5⟩ := H
            obtain ⟨pr, sr, ds, fl, ki, co, er, ⟨isz, i1, i2, i3, i4, i5⟩, pat, ba⟩ := p
            simp only [Hd.val, Pt.val, Tells] at k1 k2
            replace k1 := Lib.hid k1
            replace k2 := Lib.hid k2
            replace ko := Lib.hid ko
            replace ki' := Lib.hid ki'
            replace g1 := Lib.hid g1
            replace g2 := Lib.hid g2
            replace hY1 := Lib.hid hY1
            replace hY2 := Lib.hid hY2
            go_wp2_with fail
            refine (k1.out _ (Below.refl _ _)).mono ?_
            rintro e w2 ⟨rfl, hb⟩
            have bel1 := hb
            clear hb k1
            have bh := (Blk.new w2 29 #[.int .i64 0, .int .i64 0, .int .i64 0, .int .i64 0, .int .u32 0, .int .u32 0]).setRow #[.int .i64 h0, .int .i64 h1, .int .i64 h2, .int .i64 h3, .int .u32 h4, .int .u32 h5]
            replace bel1 := below_setRow (bel1.alloc bel1.size (.cells #[.int .i64 0, .int .i64 0, .int .i64 0, .int .i64 0, .int .u32 0, .int .u32 0] 29)) bel1.size #[.int .i64 h0, .int .i64 h1, .int .i64 h2, .int .i64 h3, .int .u32 h4, .int .u32 h5]
            go_wp2_with (first
              | (refine wpList_stRow rfl rfl rfl rfl rfl (Blk.new w2 _ _) srhd_size rfl (by simp [Value.oneCell']) ?_; generalize (w2.alloc (.cells #[.int .i64 0, .int .i64 0, .int .i64 0, .int .i64 0, .int .u32 0, .int .u32 0] 29)).setRow w2.heap.size #[.int .i64 h0, .int .i64 h1, .int .i64 h2, .int .i64 h3, .int .u32 h4, .int .u32 h5] = W4 at *; generalize w2.heap.size = gh at *)
              | (refine wpList_ldRow rfl rfl rfl bh Try.underlying29 srhd_size ?_))
            refine (k2.out _ bel1).mono ?_
            rintro e w3 ⟨rfl, hb⟩
            replace bel1 := bel_after bel1 hb
            clear hb k2 bh
            go_wp2_with fail
            refine (ko.out _ bel1).mono ?_
            rintro e w4 ⟨⟨va, rfl, oa, na⟩, hb⟩
            replace bel1 := bel_after bel1 hb
            skip
            clear hb ko
            go_wp2_with fail
            refine (ki'.out _ bel1).mono ?_
            rintro e w5 ⟨⟨vb, rfl, ob, nb⟩, hb⟩
            replace oa := oa trivial
            replace ob := ob rfl
            obtain ⟨ga, ca, rfl, hca, hca2, hga, _⟩ := oa.formG hY1.out (by omega)
            obtain ⟨gb, cb, rfl, hcb, hcb2, hgb, _⟩ := ob.formG hY2.out (by omega)
            unfold maxLen at hca2 hcb2
            replace oa := oa.below hb
            replace bel1 := bel_after bel1 hb
            clear hb ki' na nb
            go_wp2_with fail
            refine (g1.out _ _ _ bel1 (oa.rd hY1.out) hca (by omega)).mono ?_
            rintro e w6 ⟨rfl, hb⟩
            replace ob := ob.below hb
            replace bel1 := bel_after bel1 hb
            clear hb g1
            go_wp2_with fail
            refine (g2.out _ _ _ bel1 (ob.rd hY2.out) hcb (by omega)).mono ?_
            rintro e w7 ⟨rfl, hb⟩
            replace bel1 := bel_after bel1 hb
            clear hb g2 oa ob
            go_wp2_with fail
            go_roundw
            case rel => exact ⟨k + 1, by omega, by go_num, own.below (bel0.trans (bel1.mono bel0.size)), bel.trans (bel1.mono bel.size)⟩
            case measure => simp [intOf]; omega
          · have hz1 : rwL X9 true 3221225985 7 = [] := by unfold rwL; rw [if_neg hE2]
            have hz2 : rwL X9 false 167772169 8 = [] := by unfold rwL; rw [if_neg hE2]
            rw [hz1] at ko
            rw [hz2] at ki'
            clear hz1 hz2
            obtain ⟨E, p, hR⟩ : ∃ (E : Int) (p : Pt), getR (hdOf X9) X9 = (E, p) := ⟨_, _, rfl⟩
            rw [hR] at k2 hrw
            simp only at hrw
            rw [hrw] at ko ki' hE2
            have hE0 : Hid (E ≠ 0) := Lib.hid hE2
            have d5 : (E != 0) = true := by simpa using hE2
            have d6 : (E == 0) = false := by simpa using hE2
            clear hrw hE2 hbb eX hE hR
            generalize hdOf X9 = H at *
            obtain ⟨h0, h1, h2, h3, h4, h5⟩ := H
            obtain ⟨pr, sr, ds, fl, ki, co, er, ⟨isz, i1, i2, i3, i4, i5⟩, pat, ba⟩ := p
            simp only [Hd.val, Pt.val, Tells] at k1 k2
            replace k1 := Lib.hid k1
            replace k2 := Lib.hid k2
            replace ko := Lib.hid ko
            replace ki' := Lib.hid ki'
            go_wp2_with fail
            refine (k1.out _ (Below.refl _ _)).mono ?_
            rintro e w2 ⟨rfl, hb⟩
            have bel1 := hb
            clear hb k1
            have bh := (Blk.new w2 29 #[.int .i64 0, .int .i64 0, .int .i64 0, .int .i64 0, .int .u32 0, .int .u32 0]).setRow #[.int .i64 h0, .int .i64 h1, .int .i64 h2, .int .i64 h3, .int .u32 h4, .int .u32 h5]
            replace bel1 := below_setRow (bel1.alloc bel1.size (.cells #[.int .i64 0, .int .i64 0, .int .i64 0, .int .i64 0, .int .u32 0, .int .u32 0] 29)) bel1.size #[.int .i64 h0, .int .i64 h1, .int .i64 h2, .int .i64 h3, .int .u32 h4, .int .u32 h5]
            go_wp2_with (first
              | (refine wpList_stRow rfl rfl rfl rfl rfl (Blk.new w2 _ _) srhd_size rfl (by simp [Value.oneCell']) ?_; generalize (w2.alloc (.cells #[.int .i64 0, .int .i64 0, .int .i64 0, .int .i64 0, .int .u32 0, .int .u32 0] 29)).setRow w2.heap.size #[.int .i64 h0, .int .i64 h1, .int .i64 h2, .int .i64 h3, .int .u32 h4, .int .u32 h5] = W4 at *; generalize w2.heap.size = gh at *)
              | (refine wpList_ldRow rfl rfl rfl bh Try.underlying29 srhd_size ?_))
            refine (k2.out _ bel1).mono ?_
            rintro e w3 ⟨rfl, hb⟩
            replace bel1 := bel_after bel1 hb
            clear hb k2 bh
            go_wp2_with fail
            refine (ko.out _ bel1).mono ?_
            rintro e w4 ⟨⟨va, rfl, oa, na⟩, hb⟩
            replace bel1 := bel_after bel1 hb
            have na' := na hE0.out
            clear hb ko
            go_wp2_with fail
            refine (ki'.out _ bel1).mono ?_
            rintro e w5 ⟨⟨vb, rfl, ob, nb⟩, hb⟩
            replace bel1 := bel_after bel1 hb
            clear hb ki'
            have nb' := nb hE0.out
            subst na' nb'
            clear oa ob na nb
            go_wp2_with fail
            go_roundw
            case rel => exact ⟨k + 1, by omega, by go_num, own.below (bel0.trans (bel1.mono bel0.size)), bel.trans (bel1.mono bel.size)⟩
            case measure => simp [intOf]; omega
        · have hE2 : rwE X9 ≠ 0 := by unfold rwE; rw [if_pos hE]; exact hE
          have hrw : rwE X9 = getE X9 := by unfold rwE; rw [if_pos hE]
          have hz1 : rwL X9 true 3221225985 7 = [] := by unfold rwL; rw [if_neg hE2]
          have hz2 : rwL X9 false 167772169 8 = [] := by unfold rwL; rw [if_neg hE2]
          have hzH : hdIf X9 (getE X9) = Hd.z := by unfold hdIf; rw [if_neg hE]
          rw [hz1, hrw] at ko
          rw [hz2, hrw] at ki'
          rw [hzH] at k1
          clear hz1 hz2 hrw hE2 hzH
          generalize getE X9 = E at *
          have hE0 : Hid (E ≠ 0) := Lib.hid hE
          have d5 : (E != 0) = true := by simpa using hE
          have d6 : (E == 0) = false := by simpa using hE
          clear hE
          obtain ⟨h0, h1, h2, h3, h4, h5, hh⟩ : ∃ h0 h1 h2 h3 h4 h5 : Int, Hd.z = ⟨h0, h1, h2, h3, h4, h5⟩ := ⟨_, _, _, _, _, _, rfl⟩
          rw [hh] at k1
          clear hh
          simp only [Hd.val] at k1
          replace k1 := Lib.hid k1
          replace ko := Lib.hid ko
          replace ki' := Lib.hid ki'
          go_wp2_with fail
          refine (k1.out _ (Below.refl _ _)).mono ?_
          rintro e w2 ⟨rfl, hb⟩
          have bel1 := hb
          clear hb k1
          have bh := (Blk.new w2 29 #[.int .i64 0, .int .i64 0, .int .i64 0, .int .i64 0, .int .u32 0, .int .u32 0]).setRow #[.int .i64 h0, .int .i64 h1, .int .i64 h2, .int .i64 h3, .int .u32 h4, .int .u32 h5]
          replace bel1 := below_setRow (bel1.alloc bel1.size (.cells #[.int .i64 0, .int .i64 0, .int .i64 0, .int .i64 0, .int .u32 0, .int .u32 0] 29)) bel1.size #[.int .i64 h0, .int .i64 h1, .int .i64 h2, .int .i64 h3, .int .u32 h4, .int .u32 h5]
          go_wp2_with (refine wpList_stRow rfl rfl rfl rfl rfl (Blk.new w2 _ _) srhd_size rfl (by simp [Value.oneCell']) ?_; generalize (w2.alloc (.cells #[.int .i64 0, .int .i64 0, .int .i64 0, .int .i64 0, .int .u32 0, .int .u32 0] 29)).setRow w2.heap.size #[.int .i64 h0, .int .i64 h1, .int .i64 h2, .int .i64 h3, .int .u32 h4, .int .u32 h5] = W4 at *; generalize w2.heap.size = gh at *)
          clear bh
          refine (ko.out _ bel1).mono ?_
          rintro e w4 ⟨⟨va, rfl, oa, na⟩, hb⟩
          replace bel1 := bel_after bel1 hb
          have na' := na hE0.out
          clear hb ko
          go_wp2_with fail
          refine (ki'.out _ bel1).mono ?_
          rintro e w5 ⟨⟨vb, rfl, ob, nb⟩, hb⟩
          replace bel1 := bel_after bel1 hb
          clear hb ki'
          have nb' := nb hE0.out
          subst na' nb'
          clear oa ob na nb
          go_wp2_with fail
          go_roundw
          case rel => exact ⟨k + 1, by omega, by go_num, own.below (bel0.trans (bel1.mono bel0.size)), bel.trans (bel1.mono bel.size)⟩
          case measure => simp [intOf]; omega
    · obtain rfl : k = 2 := by omega
      have d1 : decide ((2 : Int) < 2) = false := by decide
      have d2 : decide (2 < 2) = false := by decide
      go_wp2_with fail
      refine (writes_any _).mono ?_
      rintro e w2 ⟨rfl, hb⟩
      go_wp2
      go_ret
      exact ⟨rfl, bel_after bel hb⟩
theorem RewriteRaw_args (W : World) (args : Array Value) (hs : args.size = Try.f5.params.size) (hA : ∀ (j : Nat) t v, Try.f5.params[j]? = some t → args[j]? = some v → Arg Try.prog W t v) :
    Calls Try.prog 5 args W fun e W' => e = .returned (.bool true) ∧ Below W.heap.size W W' := by
  obtain ⟨v0, v1, v2, rfl⟩ := args3 hs
  obtain ⟨wt, s, d, a, b, f, A, len, cap, l, rfl, h1, h2, h3, h4, h5, h6, h7⟩ := arg_sent (hA 0 26 v0 rfl rfl)
  obtain ⟨x, y, rfl⟩ := arg_twor (hA 1 44 v1 rfl rfl)
  obtain ⟨A2, n2, c2, l2, rfl, g1, g2, g3⟩ := arg_ints Try.underlying24 Try.underlying5 (by kernel_rfl) (hA 2 24 v2 rfl rfl)
  exact RewriteRaw_walk wt s d a b f x y l l2 A A2 len cap n2 c2 W h7 h5 h6 g3 g1 g2 h1 h2 h3 h4

set_option maxRecDepth 100000 in
theorem RewriteRaw_lifted (os : Os) (started : os.Started) (H : Type) (enc : TypeId × Value → H) :
    ReturnsInHanded {} Try.checked os 5 .any (Rows.rewriteRawSpec.pre6 enc Try.prog Try.f5 Rows.rewriteRawRow.domain false) (Rows.rewriteRawSpec.post enc Try.prog Try.f5 false true false false) :=
  law_lifted os started H enc (by kernel_rfl) Try.func5 rfl rfl (fun H ds h => by match ds, h with | [_, _, _], _ => exact ⟨rfl, rfl, rfl⟩) (by kernel_rfl)
    (ChangeSpec.witness6 (enc := enc) (C := Try.checked) false ⟨#[], #[.agg #[.int .i64 0, .int .u32 0, .int .u32 0, .int .u16 0, .int .u16 0, .int .i64 0, .slice none 0 0], .agg #[.int .i64 0, .int .i64 0], .slice none 0 0], []⟩ 8 (by kernel_rfl) (by kernel_rfl) (by kernel_rfl) (by kernel_rfl))
    RewriteRaw_args

/-- the statement -/
theorem rewriteRaw_holds : Rows.RewriteRawSaid :=
  OpenClaim.holds_of_wide 5 Try.f5 rfl rfl rfl rfl rfl rfl rfl ⟨rfl, rfl, rfl, rfl, rfl⟩ rfl rfl rfl rfl rfl (by kernel_rfl) Try.func5 (by kernel_rfl)
    (of_decide_eq_true (by kernel_rfl)) (by unfold Func.isWrapper; first | (rw [if_pos (by decide +kernel)]; kernel_rfl) | (rw [if_neg (by decide +kernel)]; exact ⟨rfl, rfl⟩))
    (fun os started H enc _ => RewriteRaw_lifted os started H enc)

end Go.Proofs.Ytgnicbljkidbhaa
