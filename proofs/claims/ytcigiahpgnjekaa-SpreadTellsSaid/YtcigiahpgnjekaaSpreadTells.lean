/- Every input of SpreadTells answers true, and reads behind the call as it read before. No condition. -/
import Derived.Test.YtcigiahpgnjekaaSpreadAll
namespace Go.Proofs.Ytcigiahpgnjekaa
set_option linter.unusedVariables false
set_option linter.unusedSimpArgs false
open Go.RowKit
theorem FromKey_any (p a q : Int) (w : World) :
    Calls Try.prog 9 #[.agg #[.int .i64 p, .int .u32 a, .int .u16 q]] w fun r w' => r = .returned (.agg #[.int .i64 p, .int .u32 a, .int .u16 q]) ∧ Below w.heap.size w w' := by
  go_enter Try.func9, Try.ntmps9
  go_wp2
  exact bodyPost_ret (v := .agg #[.int .i64 p, .int .u32 a, .int .u16 q]) (by simp [results, Try.results9, go_sem]) rfl ⟨rfl, ((bel_alloc _ _).alloc (by simp) _)⟩
theorem Key_any (p a q : Int) (w : World) :
    Calls Try.prog 14 #[.agg #[.int .i64 p, .int .u32 a, .int .u16 q]] w fun r w' => r = .returned (.agg #[.int .i64 p, .int .u32 a, .int .u16 q]) ∧ Below w.heap.size w w' := by
  go_enter Try.func14, Try.ntmps14
  go_wp2
  exact bodyPost_ret (v := .agg #[.int .i64 p, .int .u32 a, .int .u16 q]) (by simp [results, Try.results14, go_sem]) rfl ⟨rfl, ((bel_alloc _ _).alloc (by simp) _)⟩
theorem s15_size : (Try.prog.info? 24).map (·.size) = some 9 := by kernel_rfl
set_option maxRecDepth 100000 in
set_option maxHeartbeats 1500000 in
theorem SpreadTells_walk (out : Bool) (wt wo po f be by_ ti x0 x1 : Int) (A Ar : Option Addr) (len cap lenr capr : Nat) (l lr : List Int) (w : World) (hr : Rd .u8 w w.heap.size A len l) (hrr : Rd .u8 w w.heap.size Ar lenr lr) (hlc : len ≤ cap) (hcm : cap ≤ maxLen) (hlcr : lenr ≤ capr) (hcmr : capr ≤ maxLen) (hby : 0 ≤ by_ ∧ by_ ≤ 255) (hx0 : x0 ≤ 9223372036854775807) :
    Calls Try.prog 3 #[.agg #[.bool out, .int .i64 wt, .int .i64 wo, .int .i64 po, .int .i64 f, .slice A len cap, .int .i64 be, .int .u8 by_, .int .i64 ti], .slice Ar lenr capr, .agg #[.int .i64 x0, .int .i64 x1]] w fun e w' => e = .returned (.bool true) ∧ Below w.heap.size w w' := by
  unfold maxLen at hcm hcmr
  obtain ⟨m, hmn, hm1, hm2⟩ := minc 100 (by omega) lenr
  have hj0 : (0 : Int) ≤ (m : Int) := by omega
  have hj1 : (m : Int) ≤ (capr : Int) := by omega
  have hj2 : m ≤ capr := by omega
  have hrt := hrr.take hm1
  obtain ⟨Lr, hLr⟩ : ∃ Lr, Lr = lr.take m := ⟨_, rfl⟩
  rw [← hLr] at hrt
  clear hLr hrr
  have hfr := fun w' (h : Below w.heap.size w w') => Frame15_any out wt wo po f be by_ ti A len cap l w' ((hr.below h).more h.size) hlc (by omega) hby
  unfold FR Gives at hfr
  replace hfr := Lib.hid hfr
  have hB1 : 0 ≤ x0 % 4294967296 ∧ x0 % 4294967296 ≤ 4294967295 := by omega
  have hB2 : 0 ≤ IntKind.u16.wrap x1 ∧ IntKind.u16.wrap x1 ≤ 65535 := by rw [IntKind.wrap_u16]; omega
  have hh1 := fun W => Hash_any x1 (x0 % 4294967296) (IntKind.u16.wrap x1) W hB1 hB2
  have hh2 := fun W => rHash_any x1 (x0 % 4294967296) (IntKind.u16.wrap x1) W hB1 hB2
  have hky := fun W => Key_any x1 (x0 % 4294967296) (IntKind.u16.wrap x1) W
  clear hB1 hB2
  generalize hashR ⟨x1, x0 % 4294967296, IntKind.u16.wrap x1⟩ = H at *
  replace hh1 := Lib.hid hh1
  replace hh2 := Lib.hid hh2
  replace hky := Lib.hid hky
  go_enter Try.func3, Try.ntmps3
  go_upto_region 1 with fail
  have bn := (Blk.new w 24 #[.bool out, .int .i64 wt, .int .i64 wo, .int .i64 po, .int .i64 f, .slice A len cap, .int .i64 be, .int .u8 by_, .int .i64 ti]).alloc (.cells #[.int .i64 x0, .int .i64 x1] 25)
  have b2 := Blk.new (w.alloc (.cells #[.bool out, .int .i64 wt, .int .i64 wo, .int .i64 po, .int .i64 f, .slice A len cap, .int .i64 be, .int .u8 by_, .int .i64 ti] 24)) 25 #[.int .i64 x0, .int .i64 x1]
  rw [show (w.alloc (.cells #[.bool out, .int .i64 wt, .int .i64 wo, .int .i64 po, .int .i64 f, .slice A len cap, .int .i64 be, .int .u8 by_, .int .i64 ti] 24)).heap.size = w.heap.size + 1 by simp] at b2
  have bel : Below w.heap.size w ((w.alloc (.cells #[.bool out, .int .i64 wt, .int .i64 wo, .int .i64 po, .int .i64 f, .slice A len cap, .int .i64 be, .int .u8 by_, .int .i64 ti] 24)).alloc (.cells #[.int .i64 x0, .int .i64 x1] 25)) := (bel_alloc _ _).alloc (by simp) _
  generalize ((w.alloc (.cells #[.bool out, .int .i64 wt, .int .i64 wo, .int .i64 po, .int .i64 f, .slice A len cap, .int .i64 be, .int .u8 by_, .int .i64 ti] 24)).alloc (.cells #[.int .i64 x0, .int .i64 x1] 25)) = W at *
  go_wp2_with fail
  go_loopg [7] 4 (fun gk s7 wr => ∃ (i : Nat), gk = 4 - i ∧ i ≤ 4 ∧ s7 = .int .i64 i ∧ Blk wr w.heap.size 24 #[.bool out, .int .i64 wt, .int .i64 wo, .int .i64 po, .int .i64 f, .slice A len cap, .int .i64 be, .int .u8 by_, .int .i64 ti] ∧ Blk wr (w.heap.size + 1) 25 #[.int .i64 x0, .int .i64 x1] ∧ Below w.heap.size w wr)
  case atStart => exact ⟨0, rfl, by omega, rfl, bn, b2, bel⟩
  case round =>
    clear bn b2 bel
    obtain ⟨i, hgk, hi4, rfl, bn, b2, bel⟩ := hrel
    by_cases hlt : i < 4
    · have hd : decide ((i : Int) < 4) = true := by simp; omega
      obtain ⟨ev, hev⟩ : ∃ ev, ((i : Int) % 2 == 0) = ev := ⟨_, rfl⟩
      replace hgk := Lib.hid hgk
      go_wp2_with (refine wpList_ldRow rfl rfl rfl bn Try.underlying24 s15_size ?_)
      refine (hfr.out _ bel).mono ?_
      rintro e w1 ⟨F, hF, v1, rfl, own1, bel1⟩
      replace bn := bn.bel bel1
      replace b2 := b2.bel bel1
      replace bel := bel_after bel bel1
      clear bel1
      obtain ⟨A1, c1, rfl, hc1, hc2, rd1⟩ := own1.form rfl
      unfold maxLen at hc2
      clear own1
      go_upto_if 22 with fail
      go_cut [8] (fun s8 wx => ∃ (A2 : Option Addr) (n c : Nat) (L : List Int), s8 = .slice A2 n c ∧ n ≤ 130 ∧ n ≤ c ∧ c ≤ 9223372036854775807 ∧ Rd .u8 wx wx.heap.size A2 n L ∧ Blk wx w.heap.size 24 #[.bool out, .int .i64 wt, .int .i64 wo, .int .i64 po, .int .i64 f, .slice A len cap, .int .i64 be, .int .u8 by_, .int .i64 ti] ∧ Blk wx (w.heap.size + 1) 25 #[.int .i64 x0, .int .i64 x1] ∧ Below w.heap.size w wx)
      case first =>
        by_cases h1 : 1 < i
        · have d1 : ((1 : Int) < (i : Int)) := by omega
          go_wp2_with fail
          go_meet
          exact ⟨_, _, _, Lr, rfl, by omega, hj2, by omega, (hrt.below bel).more bel.size, bn, b2, bel⟩
        · have d1 : ¬ ((1 : Int) < (i : Int)) := by omega
          go_wp2_with fail
          go_meet
          exact ⟨_, _, _, F, rfl, hF, hc1, hc2, rd1, bn, b2, bel⟩
      case rest =>
        clear bn b2 bel rd1 hc1 hc2
        obtain ⟨A2, n, c, L, rfl, hn, hnc, hcc, rd, bn, b2, bel⟩ := hcut
        obtain ⟨B, hB⟩ : ∃ B, wc.heap.size = B := ⟨_, rfl⟩
        rw [hB] at rd
        have hBl : B ≤ wc.heap.size := by omega
        clear hB
        have hfar := fun W (h : Rd .u8 W B A2 n L) (hb : B ≤ W.heap.size) => Far_any ev L A2 n c B W h hb hnc hcc (by omega)
        have hrfar := fun W (h : Rd .u8 W B A2 n L) (hb : B ≤ W.heap.size) => rFar_any ev L A2 n c B W h hb hnc hcc (by omega)
        have hwk := fun W (h : Rd .u8 W B A2 n L) (hb : B ≤ W.heap.size) => Worker_any x0 ev L A2 n c B W h hb hnc hcc (by omega) hx0
        have hrwk := fun W (h : Rd .u8 W B A2 n L) (hb : B ≤ W.heap.size) => rWorker_any x0 ev L A2 n c B W h hb hnc hcc (by omega) hx0
        generalize workR x0 ev L = K0 at *
        generalize farR ev L = R at *
        obtain ⟨E, ⟨fp, fa, fq⟩⟩ := R
        simp only at hfar hrfar
        replace hfar := Lib.hid hfar
        replace hrfar := Lib.hid hrfar
        replace hwk := Lib.hid hwk
        replace hrwk := Lib.hid hrwk
        have sb := conv_rd (P := Try.prog) rd 22 5 9 (cap := c) Try.underlying22 Try.underlying5 Try.underlying9
        go_wp2_with fail
        clear sb
        refine (hfar.out _ rd hBl).mono ?_
        rintro e w3 ⟨rfl, hb3⟩
        replace rd := rd.below (hb3.mono hBl)
        replace bn := bn.bel hb3
        replace b2 := b2.bel hb3
        replace hBl := Nat.le_trans hBl hb3.size
        replace bel := bel_after bel hb3
        clear hb3 hfar
        have b10 := Blk.new w3 30 #[.int .i64 fp, .int .u32 fa, .int .u16 fq]
        have hg10 : B ≤ w3.heap.size := hBl
        replace rd := rd.alloc hBl (.cells #[.int .i64 fp, .int .u32 fa, .int .u16 fq] 30)
        replace bn := bn.alloc (.cells #[.int .i64 fp, .int .u32 fa, .int .u16 fq] 30)
        replace b2 := b2.alloc (.cells #[.int .i64 fp, .int .u32 fa, .int .u16 fq] 30)
        replace bel := bel.alloc bel.size (.cells #[.int .i64 fp, .int .u32 fa, .int .u16 fq] 30)
        replace hBl : B ≤ (w3.alloc (.cells #[.int .i64 fp, .int .u32 fa, .int .u16 fq] 30)).heap.size := by simp; omega
        go_upto_region 9 with fail
        generalize w3.alloc (.cells #[.int .i64 fp, .int .u32 fa, .int .u16 fq] 30) = W3 at *
        generalize w3.heap.size = g10 at *
        go_wp2_with fail
        refine (hrfar.out _ rd hBl).mono ?_
        rintro e w4 ⟨rfl, hb4⟩
        replace rd := rd.below (hb4.mono hBl)
        replace bn := bn.bel hb4
        replace b2 := b2.bel hb4
        replace b10 := b10.bel hb4
        replace hBl := Nat.le_trans hBl hb4.size
        replace bel := bel_after bel hb4
        clear hb4 hrfar
        have b12 := Blk.new w4 34 #[.int .i64 fp, .int .u32 fa, .int .u16 fq]
        replace rd := rd.alloc hBl (.cells #[.int .i64 fp, .int .u32 fa, .int .u16 fq] 34)
        replace bn := bn.alloc (.cells #[.int .i64 fp, .int .u32 fa, .int .u16 fq] 34)
        replace b2 := b2.alloc (.cells #[.int .i64 fp, .int .u32 fa, .int .u16 fq] 34)
        replace b10 := b10.alloc (.cells #[.int .i64 fp, .int .u32 fa, .int .u16 fq] 34)
        replace bel := bel.alloc bel.size (.cells #[.int .i64 fp, .int .u32 fa, .int .u16 fq] 34)
        replace hBl : B ≤ (w4.alloc (.cells #[.int .i64 fp, .int .u32 fa, .int .u16 fq] 34)).heap.size := by simp; omega
        go_upto_region 10 with fail
        generalize w4.alloc (.cells #[.int .i64 fp, .int .u32 fa, .int .u16 fq] 34) = W4 at *
        generalize w4.heap.size = g12 at *
        have z0 : ∀ t : Tw (fun w' => Below W4.heap.size W4 w'), t.w.cell? ⟨g10, 0, none⟩ = some (.int .i64 fp) := fun t => b10.tw b10.lt t 0
        have z1 : ∀ t : Tw (fun w' => Below W4.heap.size W4 w'), t.w.cell? ⟨g10, 1, none⟩ = some (.int .u32 fa) := fun t => b10.tw b10.lt t 1
        have z2 : ∀ t : Tw (fun w' => Below W4.heap.size W4 w'), t.w.cell? ⟨g10, 2, none⟩ = some (.int .u16 fq) := fun t => b10.tw b10.lt t 2
        have z3 : ∀ t : Tw (fun w' => Below W4.heap.size W4 w'), t.w.cell? ⟨g12, 0, none⟩ = some (.int .i64 fp) := fun t => b12.tw b12.lt t 0
        have z4 : ∀ t : Tw (fun w' => Below W4.heap.size W4 w'), t.w.cell? ⟨g12, 1, none⟩ = some (.int .u32 fa) := fun t => b12.tw b12.lt t 1
        have z5 : ∀ t : Tw (fun w' => Below W4.heap.size W4 w'), t.w.cell? ⟨g12, 2, none⟩ = some (.int .u16 fq) := fun t => b12.tw b12.lt t 2
        have z6 : ∀ t : Tw (fun w' => Below W4.heap.size W4 w'), t.w.cell? ⟨w.heap.size + 1, 0, none⟩ = some (.int .i64 x0) := fun t => b2.tw b2.lt t 0
        have z7 := fun t : Tw (fun w' => Below W4.heap.size W4 w') => conv_rd (P := Try.prog) (rd.below (t.h.mono hBl)) 22 5 9 (cap := c) Try.underlying22 Try.underlying5 Try.underlying9
        have z8 := fun t : Tw (fun w' => Below W4.heap.size W4 w') => hwk.out t.w (rd.below (t.h.mono hBl)) (Nat.le_trans hBl t.h.size)
        have z9 := fun t : Tw (fun w' => Below W4.heap.size W4 w') => hrwk.out t.w (rd.below (t.h.mono hBl)) (Nat.le_trans hBl t.h.size)
        replace z8 := Lib.hid z8
        replace z9 := Lib.hid z9
        have ne : Nonempty (Tw (fun w' => Below W4.heap.size W4 w')) := ⟨⟨_, Below.refl _ _⟩⟩
        refine region_tw (fun w' => Below (W4).heap.size (W4) w') (by kernel_rfl) (by kernel_rfl) (Below.refl _ _).drew ?_
        unfold clsS
        repeat (first
          | go_big_quiet_skip
          | (go_big_quiet_want; go_big_quiet_op; first | go_big_quiet_on | go_big_quiet_call (
            (first 
                | (go_at_call 9; exact q_tw (Nat.le_refl _) (FromKey_any _ _ _ _))
                | (go_at_call 10; exact q_tw (Nat.le_refl _) (z8.out _))
                | (go_at_call 11; exact q_tw (Nat.le_refl _) (z9.out _))
              ))))
        refine wpQuiet_nil ?_
        intro tq
        replace bn := bn.below tq.h bn.lt
        replace b2 := b2.below tq.h b2.lt
        replace bel := bel_after bel tq.h
        clear z0 z1 z2 z3 z4 z5 z6 z7 z8 z9 hwk hrwk b10 b12 rd ne
        go_wp2_with fail
        go_roundg (4 - (i + 1))
        case measure => have := hgk.out; omega
        case rel => exact ⟨i + 1, rfl, by omega, by go_num, bn, b2, bel⟩
    · have hd : decide ((i : Int) < 4) = false := by simp; omega
      have q0 := b2.cell 0
      have q1 := b2.cell 1
      go_upto_region 13 with fail
      have b14 := Blk.new wr 34 #[.int .i64 x1, .int .u32 (x0 % 4294967296), .int .u16 (IntKind.u16.wrap x1)]
      replace bel := bel.alloc bel.size (.cells #[.int .i64 x1, .int .u32 (x0 % 4294967296), .int .u16 (IntKind.u16.wrap x1)] 34)
      generalize wr.alloc (.cells #[.int .i64 x1, .int .u32 (x0 % 4294967296), .int .u16 (IntKind.u16.wrap x1)] 34) = W4 at *
      generalize wr.heap.size = g14 at *
      have z0 : ∀ t : Tw (fun w' => Below W4.heap.size W4 w'), t.w.cell? ⟨g14, 0, none⟩ = some (.int .i64 x1) := fun t => b14.tw b14.lt t 0
      have z1 : ∀ t : Tw (fun w' => Below W4.heap.size W4 w'), t.w.cell? ⟨g14, 1, none⟩ = some (.int .u32 (x0 % 4294967296)) := fun t => b14.tw b14.lt t 1
      have z2 : ∀ t : Tw (fun w' => Below W4.heap.size W4 w'), t.w.cell? ⟨g14, 2, none⟩ = some (.int .u16 (IntKind.u16.wrap x1)) := fun t => b14.tw b14.lt t 2
      have ne : Nonempty (Tw (fun w' => Below W4.heap.size W4 w')) := ⟨⟨_, Below.refl _ _⟩⟩
      refine region_tw (fun w' => Below (W4).heap.size (W4) w') (by kernel_rfl) (by kernel_rfl) (Below.refl _ _).drew ?_
      unfold clsS
      repeat (first
        | go_big_quiet_skip
        | (go_big_quiet_want; go_big_quiet_op; first | go_big_quiet_on | go_big_quiet_call (
          (first 
            | (go_at_call 12; exact q_tw (Nat.le_refl _) (tells_any _))
            | (go_at_call 14; exact q_tw (Nat.le_refl _) (hky.out _))
            | (go_at_call 13; exact q_tw (Nat.le_refl _) (hh1.out _))
            | (go_at_call 15; exact q_tw (Nat.le_refl _) (hh2.out _))
          ))))
      refine wpQuiet_nil ?_
      intro tq
      go_wp2
      go_ret
      exact ⟨rfl, bel_after bel tq.h⟩
theorem arr9 {cs : Array Value} {x0 x1 x2 x3 x4 x5 x6 x7 x8 : Value} (h : cs.size = 9) (h0 : cs.toList[0]? = some x0) (h1 : cs.toList[1]? = some x1) (h2 : cs.toList[2]? = some x2) (h3 : cs.toList[3]? = some x3) (h4 : cs.toList[4]? = some x4) (h5 : cs.toList[5]? = some x5) (h6 : cs.toList[6]? = some x6) (h7 : cs.toList[7]? = some x7) (h8 : cs.toList[8]? = some x8) : cs = #[x0, x1, x2, x3, x4, x5, x6, x7, x8] := by
  obtain ⟨l⟩ := cs
  match l, h with
  | [y0, y1, y2, y3, y4, y5, y6, y7, y8], _ =>
    simp only [List.getElem?_cons_zero, List.getElem?_cons_succ, Option.some.injEq] at h0 h1 h2 h3 h4 h5 h6 h7 h8
    rw [h0, h1, h2, h3, h4, h5, h6, h7, h8]
theorem arr2 {cs : Array Value} {x0 x1 : Value} (h : cs.size = 2) (h0 : cs.toList[0]? = some x0) (h1 : cs.toList[1]? = some x1) : cs = #[x0, x1] := by
  obtain ⟨l⟩ := cs
  match l, h with
  | [y0, y1], _ =>
    simp only [List.getElem?_cons_zero, List.getElem?_cons_succ, Option.some.injEq] at h0 h1
    rw [h0, h1]
theorem arg_s15 {W : World} {v : Value} (h : Arg Try.prog W 24 v) : ∃ (out : Bool) (wt wo po f be by_ ti : Int) (A : Option Addr) (len cap : Nat) (l : List Int), v = .agg #[.bool out, .int .i64 wt, .int .i64 wo, .int .i64 po, .int .i64 f, .slice A len cap, .int .i64 be, .int .u8 by_, .int .i64 ti] ∧
    (0 ≤ by_ ∧ by_ ≤ 255) ∧ len ≤ cap ∧ cap ≤ maxLen ∧ Rd .u8 W W.heap.size A len l := by
  obtain ⟨cs, m, rfl, hs, hf⟩ := arg_struct Try.underlying24 h
  have hC : Try.prog.cellsOf 24 = 9 := by kernel_rfl
  have hCi : Try.prog.cellsOf 3 = 1 := by kernel_rfl
  have hCl : Try.prog.cellsOf 4 = 1 := by kernel_rfl
  have hCb : Try.prog.cellsOf 5 = 1 := by kernel_rfl
  have hCs : Try.prog.cellsOf 22 = 1 := by kernel_rfl
  obtain ⟨x0, e0⟩ := fld_bool (i := 0) hf rfl Try.underlying4 hCl
  obtain ⟨x1, e1, _⟩ := fld_int (i := 1) hf rfl Try.underlying3 hCi
  obtain ⟨x2, e2, _⟩ := fld_int (i := 2) hf rfl Try.underlying3 hCi
  obtain ⟨x3, e3, _⟩ := fld_int (i := 3) hf rfl Try.underlying3 hCi
  obtain ⟨x4, e4, _⟩ := fld_int (i := 4) hf rfl Try.underlying3 hCi
  obtain ⟨A, len, cap, l, e5, h1, h2, h3⟩ := fld_ints (i := 5) hf rfl Try.underlying22 Try.underlying5 hCb hCs
  obtain ⟨x6, e6, _⟩ := fld_int (i := 6) hf rfl Try.underlying3 hCi
  obtain ⟨x7, e7, r7⟩ := fld_int (i := 7) hf rfl Try.underlying5 hCb
  obtain ⟨x8, e8, _⟩ := fld_int (i := 8) hf rfl Try.underlying3 hCi
  exact ⟨x0, x1, x2, x3, x4, x6, x7, x8, A, len, cap, l, by rw [arr9 (hs.trans hC) e0 e1 e2 e3 e4 e5 e6 e7 e8], inr_u8 r7, h1, h2, h3⟩
theorem arg_two {W : World} {v : Value} (h : Arg Try.prog W 25 v) : ∃ x y : Int, v = .agg #[.int .i64 x, .int .i64 y] ∧ inr .i64 x := by
  obtain ⟨cs, m, rfl, hs, hf⟩ := arg_array Try.underlying25 h
  have hC : Try.prog.cellsOf 25 = 2 := by kernel_rfl
  have hCi : Try.prog.cellsOf 3 = 1 := by kernel_rfl
  have key : ∀ i, i < 2 → ∃ n, cs.toList[i]? = some (.int .i64 n) ∧ inr .i64 n := by
    intro i hi
    have h1 := hf i hi
    rw [hCi] at h1
    obtain ⟨n, hn, hr⟩ := rdg_int Try.underlying3 h1
    refine ⟨n, ?_, hr⟩
    have : ((cs.toList.drop (i * 1)).take 1)[0]? = some (.int .i64 n) := by rw [hn]; rfl
    simpa using this
  obtain ⟨x, hx, hxr⟩ := key 0 (by omega)
  obtain ⟨y, hy, _⟩ := key 1 (by omega)
  exact ⟨x, y, by rw [arr2 (hs.trans hC) hx hy], hxr⟩
theorem SpreadTells_args (W : World) (args : Array Value) (hs : args.size = Try.f3.params.size) (hA : ∀ (j : Nat) t v, Try.f3.params[j]? = some t → args[j]? = some v → Arg Try.prog W t v) :
    Calls Try.prog 3 args W fun e W' => e = .returned (.bool true) ∧ Below W.heap.size W W' := by
  obtain ⟨v0, v1, v2, rfl⟩ := args3 hs
  obtain ⟨out, wt, wo, po, f, be, by_, ti, A, len, cap, l, rfl, h1, h2, h3, h4⟩ := arg_s15 (hA 0 24 v0 rfl rfl)
  obtain ⟨Ar, lenr, capr, lr, rfl, g1, g2, g3⟩ := arg_ints Try.underlying22 Try.underlying5 (by kernel_rfl) (hA 1 22 v1 rfl rfl)
  obtain ⟨x, y, rfl, hx⟩ := arg_two (hA 2 25 v2 rfl rfl)
  exact SpreadTells_walk out wt wo po f be by_ ti x y A Ar len cap lenr capr l lr W h4 g3 h2 h3 g1 g2 h1 (inr_i64 hx).2

set_option maxRecDepth 100000 in
theorem SpreadTells_lifted (os : Os) (started : os.Started) (H : Type) (enc : TypeId × Value → H) :
    ReturnsInHanded {} Try.checked os 3 .any (Rows.spreadTellsSpec.pre6 enc Try.prog Try.f3 Rows.spreadTellsRow.domain false) (Rows.spreadTellsSpec.post enc Try.prog Try.f3 false true false false) :=
  law_lifted os started H enc (by kernel_rfl) Try.func3 rfl rfl (fun H ds h => by match ds, h with | [_, _, _], _ => exact ⟨rfl, rfl, rfl⟩) (by kernel_rfl)
    (ChangeSpec.witness6 (enc := enc) (C := Try.checked) false ⟨#[], #[.agg #[.bool false, .int .i64 0, .int .i64 0, .int .i64 0, .int .i64 0, .slice none 0 0, .int .i64 0, .int .u8 0, .int .i64 0], .slice none 0 0, .agg #[.int .i64 0, .int .i64 0]], []⟩ 8 (by kernel_rfl) (by kernel_rfl) (by kernel_rfl) (by kernel_rfl))
    SpreadTells_args

/-- the statement -/
theorem spreadTells_holds : Rows.SpreadTellsSaid :=
  OpenClaim.holds_of_wide 3 Try.f3 rfl rfl rfl rfl rfl rfl rfl ⟨rfl, rfl, rfl, rfl, rfl⟩ rfl rfl rfl rfl rfl (by kernel_rfl) Try.func3 (by kernel_rfl)
    (of_decide_eq_true (by kernel_rfl)) (by unfold Func.isWrapper; first | (rw [if_pos (by decide +kernel)]; kernel_rfl) | (rw [if_neg (by decide +kernel)]; exact ⟨rfl, rfl⟩))
    (fun os started H enc _ => SpreadTells_lifted os started H enc)

end Go.Proofs.Ytcigiahpgnjekaa
