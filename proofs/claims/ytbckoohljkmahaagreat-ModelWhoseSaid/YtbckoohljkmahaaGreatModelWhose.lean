/- Every input of ModelWhose answers true, and reads behind the call as it read before. No condition. -/
import Derived.Test.YtbckoohljkmahaaGreatPW05
namespace Go.Proofs.YtbckoohljkmahaaGreat
set_option linter.unusedVariables false
set_option linter.unusedSimpArgs false
open Go.RowKit
set_option maxRecDepth 100000 in
set_option maxHeartbeats 2000000 in
theorem ModelWhose_walk (out : Bool) (wt wo po f be by_ ti ou : Int) (A Ar : Option Addr) (len cap lenr capr : Nat) (l lr : List Int) (w : World) (hr : Rd .u8 w w.heap.size A len l) (hrr : Rd .u8 w w.heap.size Ar lenr lr) (hlc : len ≤ cap) (hcm : cap ≤ maxLen) (hlcr : lenr ≤ capr) (hcmr : capr ≤ maxLen) (hby : 0 ≤ by_ ∧ by_ ≤ 255) :
    Calls Tryz.prog 3 #[.agg #[.bool out, .int .i64 wt, .int .i64 wo, .int .i64 po, .int .i64 f, .slice A len cap, .int .i64 be, .int .u8 by_, .int .i64 ti], .int .u32 ou, .slice Ar lenr capr] w fun e w' => e = .returned (.bool true) ∧ Below w.heap.size w w' := by
  unfold maxLen at hcm hcmr
  obtain ⟨m, hmn, hm1, hm2⟩ := minc 100 (by omega) lenr
  have hmn2 : min (lenr : Int) 100 = (m : Int) := by omega
  have hj0 : (0 : Int) ≤ (m : Int) := by omega
  have hj1 : (m : Int) ≤ (capr : Int) := by omega
  have hj2 : m ≤ capr := by omega
  have hrt := hrr.take hm1
  obtain ⟨Lr, hLr⟩ : ∃ Lr, Lr = lr.take m := ⟨_, rfl⟩
  rw [← hLr] at hrt
  clear hLr hrr
  have hfr := fun w' (h : Below w.heap.size w w') => Frame15_any out wt wo po f be by_ ti A len cap l w' ((hr.below h).more h.size) hlc (by omega) hby
  unfold FR Gives at hfr
  replace hfr := Lib.hid hfr
  obtain ⟨x1, hx1⟩ : ∃ x, (ou != 0) = x := ⟨_, rfl⟩
  obtain ⟨x2, hx2⟩ : ∃ x, (ou != 4294967295) = x := ⟨_, rfl⟩
  obtain ⟨x3, hx3⟩ : ∃ x, (ou.tmod 3 == 0) = x := ⟨_, rfl⟩
  go_enter Tryz.func3, Tryz.ntmps3
  go_upto_region 1 with fail
  have bn := Blk.new w 24 #[.bool out, .int .i64 wt, .int .i64 wo, .int .i64 po, .int .i64 f, .slice A len cap, .int .i64 be, .int .u8 by_, .int .i64 ti]
  have bel := bel_alloc w (.cells #[.bool out, .int .i64 wt, .int .i64 wo, .int .i64 po, .int .i64 f, .slice A len cap, .int .i64 be, .int .u8 by_, .int .i64 ti] 24)
  generalize w.alloc (.cells #[.bool out, .int .i64 wt, .int .i64 wo, .int .i64 po, .int .i64 f, .slice A len cap, .int .i64 be, .int .u8 by_, .int .i64 ti] 24) = W at *
  go_wp2_with fail
  refine (Config39 _).mono ?_
  rintro e w1 ⟨rfl, bel1⟩
  replace bn := bn.bel bel1
  replace bel := bel_after bel bel1
  clear bel1
  have hlt := bn.lt
  have bc := (Blk.new w1 27 #[.int .i64 0, .int .u32 0, .int .i64 0, .int .i64 0, .int .i64 0, .int .i64 0]).setRow #[.int .i64 1, .int .u32 3221225985, .int .i64 1000, .int .i64 1039, .int .i64 2, .int .i64 4]
  replace bn := (bn.alloc (.cells #[.int .i64 0, .int .u32 0, .int .i64 0, .int .i64 0, .int .i64 0, .int .i64 0] 27)).setRow_far (g' := w1.heap.size) (by omega) #[.int .i64 1, .int .u32 3221225985, .int .i64 1000, .int .i64 1039, .int .i64 2, .int .i64 4]
  have hgc0 : w.heap.size < w1.heap.size := hlt
  have hgc : w.heap.size ≤ w1.heap.size := bel.size
  replace bel := below_setRow (bel.alloc bel.size (.cells #[.int .i64 0, .int .u32 0, .int .i64 0, .int .i64 0, .int .i64 0, .int .i64 0] 27)) bel.size #[.int .i64 1, .int .u32 3221225985, .int .i64 1000, .int .i64 1039, .int .i64 2, .int .i64 4]
  go_upto_region 2 with (refine wpList_stRow rfl rfl rfl rfl rfl (Blk.new w1 _ _) c14_size rfl (by simp [Value.oneCell']) ?_; generalize (w1.alloc (.cells #[.int .i64 0, .int .u32 0, .int .i64 0, .int .i64 0, .int .i64 0, .int .i64 0] 27)).setRow w1.heap.size #[.int .i64 1, .int .u32 3221225985, .int .i64 1000, .int .i64 1039, .int .i64 2, .int .i64 4] = W1 at *; generalize w1.heap.size = gc at *)
  go_cut [25] (fun s25 wx => (∃ x : Bool, s25 = .bool x) ∧ W1 = wx)
  case first => cases x1 <;> cases x2 <;> cases x3 <;> (go_wp2_with fail; go_meet; exact ⟨⟨_, rfl⟩, rfl⟩)
  case rest =>
  obtain ⟨⟨x, rfl⟩, rfl⟩ := hcut
  clear hx1 hx2 hx3 x1 x2 x3
  go_upto_if 25 with fail
  go_cut [] (fun wx => (∃ o : Int, Blk wx gc 27 #[.int .i64 1, .int .u32 o, .int .i64 1000, .int .i64 1039, .int .i64 2, .int .i64 4]) ∧ Blk wx w.heap.size 24 #[.bool out, .int .i64 wt, .int .i64 wo, .int .i64 po, .int .i64 f, .slice A len cap, .int .i64 be, .int .u8 by_, .int .i64 ti] ∧ Below w.heap.size w wx)
  case first =>
    have f1 := bc.frozen 1
    have c1 := bc.cell 1
    cases x <;> (go_wp2_with fail; go_meet; first | exact ⟨⟨_, bc⟩, bn, bel⟩ | exact ⟨⟨_, bc.set_ 1 (.int .u32 ou)⟩, bn.far (p := ⟨gc, 1, none⟩) (show w.heap.size ≠ gc by omega) _, bel.setCell (p := ⟨gc, 1, none⟩) hgc _⟩)
  case rest =>
    clear bn bc bel
    obtain ⟨⟨o, bc⟩, bn, bel⟩ := hcut
    have kT : ∀ W, Calls Tryz.prog 14 #[.agg #[.int .i64 1, .int .u32 o, .int .i64 1000, .int .i64 1039, .int .i64 2, .int .i64 4]] W fun e w' => e = .returned (.agg #[.int .i64 1, .int .u32 o, .int .i64 1000, .int .i64 1039, .int .i64 2, .int .i64 4]) ∧ Below W.heap.size W w' := fun W => To_any ⟨1, o, 1000, 1039, 2, 4⟩ W
    replace kT := Lib.hid kT
    go_wp2_with fail
    go_loopg [8] 4 (fun gk s8 wr => ∃ (i : Nat), gk = 4 - i ∧ i ≤ 4 ∧ s8 = .int .i64 i ∧ Blk wr w.heap.size 24 #[.bool out, .int .i64 wt, .int .i64 wo, .int .i64 po, .int .i64 f, .slice A len cap, .int .i64 be, .int .u8 by_, .int .i64 ti] ∧ Blk wr gc 27 #[.int .i64 1, .int .u32 o, .int .i64 1000, .int .i64 1039, .int .i64 2, .int .i64 4] ∧ Below w.heap.size w wr)
    case atStart => exact ⟨0, rfl, by omega, rfl, bn, bc, bel⟩
    case round =>
      clear bn bc bel
      obtain ⟨i, hgk, hi4, rfl, bn, bc, bel⟩ := hrel
      by_cases hlt : i < 4
      · have hd : decide ((i : Int) < 4) = true := by simp; omega
        obtain ⟨ev, hev⟩ : ∃ ev, ((i : Int) % 2 == 0) = ev := ⟨_, rfl⟩
        replace hgk := Lib.hid hgk
        go_wp2_with (refine wpList_ldRow rfl rfl rfl bn Tryz.underlying24 s15_size ?_)
        refine (hfr.out _ bel).mono ?_
        rintro e w1 ⟨F, hF, v1, rfl, own1, bel1⟩
        replace bn := bn.bel bel1
        replace bc := bc.bel bel1
        replace bel := bel_after bel bel1
        clear bel1
        obtain ⟨A1, c1, rfl, hc1, hc2, rd1⟩ := own1.form rfl
        unfold maxLen at hc2
        clear own1
        go_upto_if 35 with fail
        go_cut [9] (fun s9 wx => ∃ (A2 : Option Addr) (n c : Nat) (L : List Int), s9 = .slice A2 n c ∧ n ≤ 130 ∧ n ≤ c ∧ c ≤ 9223372036854775807 ∧ Rd .u8 wx wx.heap.size A2 n L ∧ Blk wx w.heap.size 24 #[.bool out, .int .i64 wt, .int .i64 wo, .int .i64 po, .int .i64 f, .slice A len cap, .int .i64 be, .int .u8 by_, .int .i64 ti] ∧ Blk wx gc 27 #[.int .i64 1, .int .u32 o, .int .i64 1000, .int .i64 1039, .int .i64 2, .int .i64 4] ∧ Below w.heap.size w wx)
        case first =>
          by_cases h1 : 1 < i
          · have d1 : ((1 : Int) < (i : Int)) := by omega
            go_wp2_with fail
            go_meet
            exact ⟨_, _, _, Lr, rfl, by omega, hj2, by omega, (hrt.below bel).more bel.size, bn, bc, bel⟩
          · have d1 : ¬ ((1 : Int) < (i : Int)) := by omega
            go_wp2_with fail
            go_meet
            exact ⟨_, _, _, F, rfl, hF.2, hc1, hc2, rd1, bn, bc, bel⟩
        case rest =>
          clear bn bc bel rd1 hc1 hc2
          obtain ⟨A2, n, c, L, rfl, hn, hnc, hcc, rd, bn, bc, bel⟩ := hcut
          have kw := fun W (hb : Below wc.heap.size wc W) => Whose_any 1 o 1000 1039 2 4 ev L A2 n c W ((rd.below hb).more hb.size) hnc hcc (by omega)
          have krw := fun W (hb : Below wc.heap.size wc W) => rWhose_any 1 o 1000 1039 2 4 ev L A2 n c W ((rd.below hb).more hb.size) hnc hcc (by omega)
          have kb := fun W (hb : Below wc.heap.size wc W) => Begins2_any ev L A2 n c W ((rd.below hb).more hb.size) hnc hcc (by omega)
          have krb := fun W (hb : Below wc.heap.size wc W) => rBegins2_any ev L A2 n c W ((rd.below hb).more hb.size) hnc hcc (by omega)
          generalize begP ev L = bg at *
          generalize whoP o ev L = R at *
          obtain ⟨⟨f0, f1, f2⟩, E⟩ := R
          unfold WhoR at kw krw
          simp only [Fl.cs] at kw krw
          have belc := bel
          replace bel := Below.refl wc.heap.size wc
          replace kw := Lib.hid kw
          replace krw := Lib.hid krw
          replace kb := Lib.hid kb
          replace krb := Lib.hid krb
          go_wp2_with (refine wpList_ldRow rfl rfl rfl bc Tryz.underlying27 c14_size ?_)
          refine (kT.out _).mono ?_
          rintro e w2 ⟨rfl, hb⟩
          replace bn := bn.bel hb
          replace bc := bc.bel hb
          replace bel := bel_after bel hb
          clear hb
          go_wp2_with fail
          refine (kw.out _ bel).mono ?_
          rintro e w3 ⟨rfl, hb3⟩
          replace bn := bn.bel hb3
          replace bc := bc.bel hb3
          replace bel := bel_after bel hb3
          clear hb3 kw
          have b10 := Blk.new w3 32 #[.int .i64 f0, .int .u32 f1, .int .u16 f2]
          replace bn := bn.alloc (.cells #[.int .i64 f0, .int .u32 f1, .int .u16 f2] 32)
          replace bc := bc.alloc (.cells #[.int .i64 f0, .int .u32 f1, .int .u16 f2] 32)
          replace bel := bel.alloc bel.size (.cells #[.int .i64 f0, .int .u32 f1, .int .u16 f2] 32)
          go_upto_region 11 with fail
          generalize w3.alloc (.cells #[.int .i64 f0, .int .u32 f1, .int .u16 f2] 32) = W3 at *
          generalize w3.heap.size = g10 at *
          go_wp2_with (refine wpList_ldRow rfl rfl rfl bc Tryz.underlying27 c14_size ?_)
          refine (krw.out _ bel).mono ?_
          rintro e w4 ⟨rfl, hb4⟩
          replace bn := bn.bel hb4
          replace bc := bc.bel hb4
          replace b10 := b10.bel hb4
          replace bel := bel_after bel hb4
          clear hb4 krw
          have b12 := Blk.new w4 38 #[.int .i64 f0, .int .u32 f1, .int .u16 f2]
          replace bn := bn.alloc (.cells #[.int .i64 f0, .int .u32 f1, .int .u16 f2] 38)
          replace bc := bc.alloc (.cells #[.int .i64 f0, .int .u32 f1, .int .u16 f2] 38)
          replace b10 := b10.alloc (.cells #[.int .i64 f0, .int .u32 f1, .int .u16 f2] 38)
          replace bel := bel.alloc bel.size (.cells #[.int .i64 f0, .int .u32 f1, .int .u16 f2] 38)
          go_upto_region 12 with fail
          generalize w4.alloc (.cells #[.int .i64 f0, .int .u32 f1, .int .u16 f2] 38) = W4 at *
          generalize w4.heap.size = g12 at *
          have z1 : ∀ w', (∃ t : Tw (fun w' => Below W4.heap.size W4 w'), w' = t.w) → Blk w' g10 32 #[.int .i64 f0, .int .u32 f1, .int .u16 f2] := fun w' ⟨t, ht⟩ => ht ▸ b10.bel t.h
          have z2 : ∀ w', (∃ t : Tw (fun w' => Below W4.heap.size W4 w'), w' = t.w) → Blk w' g12 38 #[.int .i64 f0, .int .u32 f1, .int .u16 f2] := fun w' ⟨t, ht⟩ => ht ▸ b12.bel t.h
          have z8 := fun t : Tw (fun w' => Below W4.heap.size W4 w') => kb.out t.w (bel_after bel t.h)
          have z9 := fun t : Tw (fun w' => Below W4.heap.size W4 w') => krb.out t.w (bel_after bel t.h)
          have z7 := fun t : Tw (fun w' => Below W4.heap.size W4 w') => FromKey_any ⟨f0, f1, f2⟩ t.w
          simp only [Fl.cs] at z7
          replace z7 := Lib.hid z7
          replace z8 := Lib.hid z8
          replace z9 := Lib.hid z9
          have ne : Nonempty (Tw (fun w' => Below W4.heap.size W4 w')) := ⟨⟨_, Below.refl _ _⟩⟩
          refine region_tw (fun w' => Below W4.heap.size W4 w') (by kernel_rfl) (by kernel_rfl) (Below.refl _ _).drew ?_
          unfold clsS
          repeat (first
            | go_big_quiet_skip
            | (go_big_quiet_want; go_big_quiet_op; first | go_big_quiet_on | go_big_quiet_call (fail)))
          go_big_quiet_want
          refine quiet_ldRow rfl rfl z1 Tryz.underlying32 fl_size ?_
          go_simp
          go_big_quiet_on
          repeat (first
            | go_big_quiet_skip
            | (go_big_quiet_want; go_big_quiet_op; first | go_big_quiet_on | go_big_quiet_call (exact q_tw (Nat.le_refl _) (z7.out _))))
          go_big_quiet_want
          refine quiet_ldRow rfl rfl z2 Tryz.underlying38 rfl_size ?_
          go_simp
          go_big_quiet_on
          repeat (first
            | go_big_quiet_skip
            | (go_big_quiet_want; go_big_quiet_op; first | go_big_quiet_on | go_big_quiet_call (first | exact q_tw (Nat.le_refl _) (z8.out _) | exact q_tw (Nat.le_refl _) (z9.out _))))
          refine wpQuiet_nil ?_
          intro tq
          replace bn := bn.below tq.h bn.lt
          replace bc := bc.below tq.h bc.lt
          replace belc := bel_after belc (bel_after bel tq.h)
          clear z1 z2 z7 z8 z9 kb krb b10 b12 rd ne bel
          go_wp2_with fail
          go_roundg (4 - (i + 1))
          case measure => have := hgk.out; omega
          case rel => exact ⟨i + 1, rfl, by omega, by go_num, bn, bc, belc⟩
      · have hd : decide ((i : Int) < 4) = false := by simp; omega
        go_wp2_with fail
        refine (binds_any _).mono ?_
        rintro e w5 ⟨rfl, hb⟩
        go_wp2
        go_ret
        exact ⟨rfl, bel_after bel hb⟩
theorem ModelWhose_args (W : World) (args : Array Value) (hs : args.size = Tryz.f3.params.size) (hA : ∀ (j : Nat) t v, Tryz.f3.params[j]? = some t → args[j]? = some v → Arg Tryz.prog W t v) :
    Calls Tryz.prog 3 args W fun e W' => e = .returned (.bool true) ∧ Below W.heap.size W W' := by
  obtain ⟨v0, v1, v2, rfl⟩ := args3 hs
  obtain ⟨out, wt, wo, po, f, be, by_, ti, A, len, cap, l, rfl, h1, h2, h3, h4⟩ := arg_s15 (hA 0 24 v0 rfl rfl)
  obtain ⟨ou, rfl, _⟩ := arg_int Tryz.underlying25 (hA 1 25 v1 rfl rfl)
  obtain ⟨Ar, lenr, capr, lr, rfl, g1, g2, g3⟩ := arg_ints Tryz.underlying22 Tryz.underlying5 (by kernel_rfl) (hA 2 22 v2 rfl rfl)
  exact ModelWhose_walk out wt wo po f be by_ ti ou A Ar len cap lenr capr l lr W h4 g3 h2 h3 g1 g2 h1

set_option maxRecDepth 100000 in
theorem ModelWhose_lifted (os : Os) (started : os.Started) (H : Type) (enc : TypeId × Value → H) :
    ReturnsInHanded {} Tryz.checked os 3 .any (Rows.modelWhoseSpec.pre6 enc Tryz.prog Tryz.f3 Rows.modelWhoseRow.domain false) (Rows.modelWhoseSpec.post enc Tryz.prog Tryz.f3 false true false false) :=
  law_lifted os started H enc (by kernel_rfl) Tryz.func3 rfl rfl (fun H ds h => by match ds, h with | [_, _, _], _ => exact ⟨rfl, rfl, rfl⟩) (by kernel_rfl)
    (ChangeSpec.witness6 (enc := enc) (C := Tryz.checked) false ⟨#[], #[.agg #[.bool false, .int .i64 0, .int .i64 0, .int .i64 0, .int .i64 0, .slice none 0 0, .int .i64 0, .int .u8 0, .int .i64 0], .int .u32 0, .slice none 0 0], []⟩ 8 (by kernel_rfl) (by kernel_rfl) (by kernel_rfl) (by kernel_rfl))
    ModelWhose_args

theorem modelWhose_holds : Rows.ModelWhoseSaid :=
  OpenClaim.holds_of_wide 3 Tryz.f3 rfl rfl rfl rfl rfl rfl rfl ⟨rfl, rfl, rfl, rfl, rfl⟩ rfl rfl rfl rfl rfl (by kernel_rfl) Tryz.func3 (by kernel_rfl)
    (of_decide_eq_true (by kernel_rfl)) (by unfold Func.isWrapper; first | (rw [if_pos (by decide +kernel)]; kernel_rfl) | (rw [if_neg (by decide +kernel)]; exact ⟨rfl, rfl⟩))
    (fun os started H enc _ => ModelWhose_lifted os started H enc)

end Go.Proofs.YtbckoohljkmahaaGreat
