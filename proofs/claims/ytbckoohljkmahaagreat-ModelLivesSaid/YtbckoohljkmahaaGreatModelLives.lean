/- Every input of ModelLives answers true, and reads behind the call as it read before. No condition. -/
import Derived.Test.YtbckoohljkmahaaGreatPa19
import Derived.Test.YtbckoohljkmahaaGreatPa18
namespace Go.Proofs.YtbckoohljkmahaaGreat
set_option linter.unusedVariables false
set_option linter.unusedSimpArgs false
open Go.RowKit
/-- the one binding -/
def lvB (k : Nat) (s : Int) : Bd := ⟨⟨carP k, 167772161, 5⟩, 1001, 0, s⟩
theorem Frame15_plain (k : Nat) (hk : k < 3) (W : World) : Calls Tryz.prog 12 #[.agg #[.bool true, .int .i64 (k : Int), .int .i64 0, .int .i64 0, .int .i64 2, .slice none 0 0, .int .i64 0, .int .u8 0, .int .i64 0]] W (Gives W (frameL k 167772161 134744065 5 53 2 [])) :=
  Frame15_k (k : Int) 0 0 2 0 0 none 0 0 [] 0 0 0 0 k W (Rd.nil _ _ _ _) (Nat.le_refl _) (by omega) rfl (Nat.le_refl _) (modk k (by omega)) hk rfl (by omega) rfl (by omega) rfl (by omega)
theorem lv_place {k : Nat} (hk : k < 3) : 0 ≤ placeP (cfL 39) (carP k) 1001 := by
  have h := carP_kind hk 1001 (cfL 39) (by decide)
  have hn : (cfL 39).n = 40 := rfl
  have hl : (cfL 39).lo = 1000 := rfl
  rw [h.1, hn, hl]
  omega
theorem lv_new {k : Nat} (hk : k < 3) (now : Int) (h : 0 ≤ now ∧ now ≤ 4294967295) : stepP (cfL 39) [] true (frameL k 167772161 134744065 5 53 2 []) now 1001 = ([lvB k now], 0, rwL (frameL k 167772161 134744065 5 53 2 []) true 3221225985 1001) :=
  step_new (k := k) (s := 167772161) (d := 134744065) (a := 5) (b := 53) (f := 2) (l := []) (by omega) (by omega) (by omega) (by omega) (fun x hx => by simp at hx) (by simp) hk (cfL 39) [] now 1001 (fun _ => rfl) h (by omega) rfl (lv_place hk) rfl
theorem lv_old {k : Nat} (hk : k < 3) (s t po : Int) (h : 0 ≤ t ∧ t ≤ 4294967295) : stepP (cfL 39) [lvB k s] true (frameL k 167772161 134744065 5 53 2 []) t po = ([lvB k (if s < t then t else s)], 0, rwL (frameL k 167772161 134744065 5 53 2 []) true 3221225985 1001) := by
  have h1 := step_old (k := k) (s := 167772161) (d := 134744065) (a := 5) (b := 53) (f := 2) (l := []) (by omega) (by omega) (by omega) (by omega) (fun x hx => by simp at hx) (by simp) hk (cfL 39) [lvB k s] (lvB k s) t po h (ofB_one (b := lvB k s))
  rw [h1, putB_one (seenB_key _ _ _), seen_plain hk (fun _ => rfl) _ rfl]
  rfl
theorem lv_exp (k : Nat) (s t : Int) (h : 0 ≤ t ∧ t ≤ 4294967295) : expP (cfL 39) [lvB k s] (carP k) 1001 t = if t < s + lifeS (carP k) 0 then ([lvB k s], false) else ([], true) := by
  unfold expP
  rw [if_neg (by omega)]
  have h1 : atB (cfL 39) (placeP (cfL 39) (carP k) 1001) [lvB k s] = some (lvB k s) := atB_one (b := lvB k s)
  have h2 : cutB (cfL 39) (placeP (cfL 39) (carP k) 1001) [lvB k s] = [] := cutB_one (b := lvB k s)
  rw [h1, h2]
  rfl
set_option maxRecDepth 100000 in
set_option maxHeartbeats 4000000 in
theorem ModelLives_walk (what seen : Int) (A : Option Addr) (n c : Nat) (l : List Int) (w : World) (hr : Rd .i64 w w.heap.size A n l) (hnc : n ≤ c) (hcm : c ≤ 9223372036854775807) :
    Calls Tryz.prog 6 #[.int .i64 what, .int .i64 seen, .slice A n c] w fun e w' => e = .returned (.bool true) ∧ Below w.heap.size w w' := by
  have hc : (cfL 39).ok := cfL_ok (by omega)
  have hou : 0 ≤ (cfL 39).ou ∧ (cfL 39).ou ≤ 4294967295 := by decide
  have kT : ∀ W, Calls Tryz.prog 14 #[.agg #[.int .i64 1, .int .u32 3221225985, .int .i64 1000, .int .i64 1039, .int .i64 2, .int .i64 4]] W fun e w' => e = .returned (.agg #[.int .i64 1, .int .u32 3221225985, .int .i64 1000, .int .i64 1039, .int .i64 2, .int .i64 4]) ∧ Below W.heap.size W w' := fun W => To_any (cfL 39) W
  have kN : ∀ W, Calls Tryz.prog 20 #[.agg #[.int .i64 1, .int .u32 3221225985, .int .i64 1000, .int .i64 1039, .int .i64 2, .int .i64 4]] W (NewR W (cfL 39)) := fun W => New_ok (cfL 39) W hc
  obtain ⟨k, hk, hk3⟩ := modn what 3 (by omega)
  have hk3' : k < 3 := by omega
  have hkv : Value.int .u64 ((IntKind.u64.wrap what).tmod 3) = .int .u64 (k : Int) := by rw [hk]
  obtain ⟨now, hnow, hnow5⟩ := modn seen 100000 (by omega)
  have hnv : Value.int .u64 ((IntKind.u64.wrap seen).tmod 100000) = .int .u64 (now : Int) := by rw [hnow]
  clear hk hnow
  have kF := Frame15_plain k hk3'
  have hnew := lv_new hk3' now (by omega)
  have hold := lv_old hk3'
  have hexp := lv_exp k
  obtain ⟨F, hF⟩ : ∃ F, frameL k 167772161 134744065 5 53 2 [] = F := ⟨_, rfl⟩
  have hFl : 28 ≤ F.length ∧ F.length ≤ 130 := by rw [← hF]; exact frame_bd (by simp)
  have hlen := fun h8 => (frame_again (k := k) (s := 167772161) (d := 134744065) (a := 5) (b := 53) (f := 2) (l := []) (by omega) (by omega) (by omega) (by omega) (fun x hx => by simp at hx) (by simp) (by omega) true (ou := 3221225985) (po := 1001) h8 (by omega) (by omega)).len
  rw [hF] at kF hnew hold hlen
  unfold Gives at kF
  obtain ⟨X, hX⟩ : ∃ X, rwL F true 3221225985 1001 = X := ⟨_, rfl⟩
  rw [hX] at hnew hold hlen
  have hPR : (k = 0 ∧ carP k = 17 ∧ lifeS (carP k) 0 = 120) ∨ (k = 1 ∧ carP k = 6 ∧ lifeS (carP k) 0 = 240) ∨ (k = 2 ∧ carP k = 1 ∧ lifeS (carP k) 0 = 60) := by
    have h3 : k = 0 ∨ k = 1 ∨ k = 2 := by omega
    rcases h3 with rfl | rfl | rfl
    · exact .inl ⟨rfl, rfl, rfl⟩
    · exact .inr (.inl ⟨rfl, rfl, rfl⟩)
    · exact .inr (.inr ⟨rfl, rfl, rfl⟩)
  generalize lifeS (carP k) 0 = LF at *
  generalize carP k = PR at *
  have hLF : 60 ≤ LF ∧ LF ≤ 240 := by omega
  obtain ⟨fn, hfn⟩ : ∃ n, F.length = n := ⟨_, rfl⟩
  rw [hfn] at hFl
  clear hF hX
  replace hc := Lib.hid hc
  replace hou := Lib.hid hou
  replace kT := Lib.hid kT
  replace kN := Lib.hid kN
  replace hr := Lib.hid hr
  replace kF := Lib.hid kF
  replace hnew := Lib.hid hnew
  replace hold := Lib.hid hold
  replace hexp := Lib.hid hexp
  replace hlen := Lib.hid hlen
  replace hfn := Lib.hid hfn
  replace hPR := Lib.hid hPR
  go_enter Tryz.func6, Tryz.ntmps6
  go_wp2_with fail
  refine (Config39 _).mono ?_
  rintro e w1 ⟨rfl, bel⟩
  have bc := (Blk.new w1 27 #[.int .i64 0, .int .u32 0, .int .i64 0, .int .i64 0, .int .i64 0, .int .i64 0]).setRow #[.int .i64 1, .int .u32 3221225985, .int .i64 1000, .int .i64 1039, .int .i64 2, .int .i64 4]
  have hbK : Below w1.heap.size w1 ((w1.alloc (.cells #[.int .i64 0, .int .u32 0, .int .i64 0, .int .i64 0, .int .i64 0, .int .i64 0] 27)).setRow w1.heap.size #[.int .i64 1, .int .u32 3221225985, .int .i64 1000, .int .i64 1039, .int .i64 2, .int .i64 4]) := below_setRow (bel_alloc _ _) (Nat.le_refl _) _
  go_upto_region 2 with (refine wpList_stRow rfl rfl rfl rfl rfl (Blk.new w1 _ _) c14_size rfl (by simp [Value.oneCell']) ?_; generalize (w1.alloc (.cells #[.int .i64 0, .int .u32 0, .int .i64 0, .int .i64 0, .int .i64 0, .int .i64 0] 27)).setRow w1.heap.size #[.int .i64 1, .int .u32 3221225985, .int .i64 1000, .int .i64 1039, .int .i64 2, .int .i64 4] = W1 at *)
  replace bel := bel_after bel hbK
  clear hbK
  go_wp2_with (refine wpList_ldRow rfl rfl rfl bc Tryz.underlying27 c14_size ?_)
  refine (kT.out _).mono ?_
  rintro e w2 ⟨rfl, hb⟩
  replace bel := bel_after bel hb
  clear hb kT bc
  go_wp2_with fail
  refine (kN.out _).mono ?_
  intro e w3 hN
  obtain ⟨gn, pb, fm, rfl, ln⟩ := LN.made bel hN
  clear hN bel kN
  have bs := Blk.new w3 24 #[.bool true, .int .i64 (k : Int), .int .i64 0, .int .i64 0, .int .i64 2, .slice none 0 0, .int .i64 0, .int .u8 0, .int .i64 0]
  have hbS := bel_alloc w3 (.cells #[.bool true, .int .i64 (k : Int), .int .i64 0, .int .i64 0, .int .i64 2, .slice none 0 0, .int .i64 0, .int .u8 0, .int .i64 0] 24)
  go_upto_region 5 with fail
  generalize w3.alloc (.cells #[.bool true, .int .i64 (k : Int), .int .i64 0, .int .i64 0, .int .i64 2, .slice none 0 0, .int .i64 0, .int .u8 0, .int .i64 0] 24) = W3 at *
  replace ln := ln.bel_ hbS
  clear hbS
  generalize w3.heap.size = gs at *
  go_wp2_with fail
  refine (binds_any _).mono ?_
  rintro e w4 ⟨rfl, hb⟩
  replace ln := ln.bel_ hb
  replace bs := bs.bel hb
  clear hb
  go_upto_region 8 with fail
  go_cut [13] (fun s13 wx => s13 = .int .i64 LF ∧ Below w4.heap.size w4 wx)
  case first =>
    rcases hPR.out with ⟨rfl, _, rfl⟩ | ⟨rfl, _, rfl⟩ | ⟨rfl, _, rfl⟩
    · go_wp2_with fail
      go_meet
      exact ⟨rfl, bel_alloc _ _⟩
    · go_wp2_with fail
      go_meet
      exact ⟨rfl, bel_alloc _ _⟩
    · go_wp2_with fail
      go_meet
      exact ⟨rfl, bel_alloc _ _⟩
  case rest =>
  obtain ⟨rfl, hb⟩ := hcut
  replace ln := ln.bel_ hb
  replace bs := bs.bel hb
  clear hb
  go_upto_region 9 with fail
  go_cut [14] (fun s14 wx => s14 = .int .i64 PR ∧ Below wc.heap.size wc wx)
  case first =>
    rcases hPR.out with ⟨rfl, rfl, hx⟩ | ⟨rfl, rfl, hx⟩ | ⟨rfl, rfl, hx⟩
    · clear hx
      go_wp2_with fail
      go_meet
      exact ⟨rfl, bel_alloc _ _⟩
    · clear hx
      go_wp2_with fail
      go_meet
      exact ⟨rfl, bel_alloc _ _⟩
    · clear hx
      go_wp2_with fail
      go_meet
      exact ⟨rfl, bel_alloc _ _⟩
  case rest =>
  rename_i wc2
  obtain ⟨rfl, hb⟩ := hcut
  replace ln := ln.bel_ hb
  replace bs := bs.bel hb
  clear hb hPR hkv hnv
  go_wp2_with (refine wpList_ldRow rfl rfl rfl bs Tryz.underlying24 s15_size ?_)
  refine (kF.out _).mono ?_
  rintro e w5 ⟨v5, rfl, own5, hb⟩
  replace ln := ln.bel_ hb
  replace bs := bs.bel hb
  clear hb
  replace hlen := hlen.out (fun x hx => inr_u8 (own5.rng x hx))
  have hXl : X.length = fn := by have : (X.length : Int) = (F.length : Int) := hlen; have := hfn.out; omega
  clear hlen
  obtain ⟨A5, c5, rfl, hc51, hc52, rd5⟩ := own5.form hfn.out
  unfold maxLen at hc52
  clear own5
  have kS := fun L gn pb fm np nf W ti po (h : LN w W (cfL 39) gn pb fm np nf L) (h1 : np < 900000) (h2 : nf < 900000) xA xc (hr : Rd .u8 W W.heap.size xA fn F) (h3 : fn ≤ xc) (h4 : xc ≤ 9223372036854775807) => h.stp hc.out hou.out h1 h2 true xA fn xc ti po F hr h3 h4 (by omega)
  unfold StR at kS
  have kS1 := kS [] gn pb fm 0 0 w5 (now : Int) 1001 ln (by omega) (by omega) A5 c5 rd5 hc51 hc52
  rw [hnew.out] at kS1
  simp only at kS1
  replace kS1 := Lib.hid kS1
  replace kS := Lib.hid kS
  go_wp2_with fail
  refine kS1.out.mono ?_
  rintro e w6 ⟨v6, np, nf, rfl, own6, ln6, h1, h2, hu⟩
  replace bs := ln.nm.keepB bs hu
  clear kS1 rd5 hu ln
  obtain ⟨A6, c6, rfl, hc61, hc62, _⟩ := own6.form hXl
  unfold maxLen at hc62
  have ba := (Blk.new w6 55 #[.slice none 0 0, .int .i64 0]).setRow #[.slice A6 fn c6, .int .i64 0]
  have hbA : Below w6.heap.size w6 ((w6.alloc (.cells #[.slice none 0 0, .int .i64 0] 55)).setRow w6.heap.size #[.slice A6 fn c6, .int .i64 0]) := below_setRow (bel_alloc _ _) (Nat.le_refl _) _
  go_upto_region 11 with (refine wpList_stRow rfl rfl rfl rfl rfl (Blk.new w6 _ _) an_size rfl (by simp [Value.oneCell']) ?_; generalize (w6.alloc (.cells #[.slice none 0 0, .int .i64 0] 55)).setRow w6.heap.size #[.slice A6 fn c6, .int .i64 0] = W6 at *)
  replace ln6 := ln6.bel_ hbA
  replace own6 := own6.below hbA
  replace bs := bs.bel hbA
  clear hbA
  have hga : w6.heap.size < W6.heap.size := ba.lt
  generalize w6.heap.size = ga at *
  have a1 := ba.cell 1
  go_upto_region 14 with fail
  clear a1
  generalize w5.heap.size = base at *
  go_wp2_with fail
  have en0 : 0 ≤ (now : Int) + LF := by omega
  go_loopw [16, 17] (fun e i wr => ∃ (j np nf : Nat) (s : Int), j ≤ n ∧ j ≤ 20 ∧ i = .int .i64 j ∧ e = .int .i64 (s + LF) ∧ 0 ≤ s ∧ s ≤ 200000 ∧ LN w wr (cfL 39) gn pb fm np nf [lvB k s] ∧ np ≤ j + 1 ∧ nf ≤ j + 1 ∧ Blk wr gs 24 #[.bool true, .int .i64 (k : Int), .int .i64 0, .int .i64 0, .int .i64 2, .slice none 0 0, .int .i64 0, .int .u8 0, .int .i64 0] ∧ Blk wr ga 55 #[.slice A6 fn c6, .int .i64 0] ∧ Own .u8 5 wr base (.slice A6 fn c6) X) (fun _ i _ => n - (intOf i).toNat)
  case atStart => exact ⟨0, np, nf, now, by omega, by omega, rfl, rfl, by omega, by omega, ln6, by omega, by omega, bs, ba, own6⟩
  case round =>
    clear ln6 own6 ba bs
    obtain ⟨j, np, nf, s, hj, hj20, rfl, rfl, hs0, hs1, ln, hnp, hnf, bs, ba, own⟩ := hrel
    by_cases hlt : j < n ∧ j < 20
    · obtain ⟨hlt, hlt20⟩ := hlt
      obtain ⟨b, o, rfl, hbl, hcl, hir⟩ := hr.out.at_ hlt
      obtain ⟨xv, hxv⟩ : ∃ v, l.getD j 0 = v := ⟨_, rfl⟩
      rw [hxv] at hcl
      have hcx := (ln.bel.cell (p := ⟨b, o + j, none⟩) hbl).trans hcl
      obtain ⟨r, hrr, hr3⟩ := modn xv 300 (by omega)
      have hrv : Value.int .u64 ((IntKind.u64.wrap xv).tmod 300) = .int .u64 (r : Int) := by rw [hrr]
      clear hrr hir hxv hcl
      have d1 : decide (j < n) = true := by simpa using hlt
      have d2 : decide ((j : Int) < 20) = true := by simp; omega
      have d3 : decide ((j : Int) < (n : Int)) = true := by simpa using hlt
      have j0 : (0 : Int) ≤ (j : Int) := by omega
      have j1 : (j : Int) < (n : Int) := by omega
      have kE := ln.exp hc.out PR 1001 ((now : Int) + (r : Int))
      rw [hexp.out s _ (by omega)] at kE
      by_cases hle : (now : Int) + (r : Int) < s + LF
      · rw [if_pos hle] at kE
        simp only at kE
        replace kE := Lib.hid kE
        go_wp2_with fail
        refine kE.out.mono ?_
        rintro e V1 ⟨rfl, ln1, hu⟩
        replace bs := ln.nm.keepB bs hu
        replace ba := ln.nm.keepB ba hu
        replace own := ln.nm.ownU own hu
        clear kE hu hcx ln
        have d5 : decide (s + LF ≤ (now : Int) + (r : Int)) = false := by simp; omega
        go_upto_region 20 with fail
        go_upto_region 22 with fail
        go_wp2_with (refine wpList_ldRow rfl rfl rfl bs Tryz.underlying24 s15_size ?_)
        refine (kF.out _).mono ?_
        rintro e V2 ⟨v2, rfl, own2, hb⟩
        replace ln1 := ln1.bel_ hb
        replace bs := bs.bel hb
        replace ba := ba.bel hb
        replace own := own.below hb
        clear hb
        obtain ⟨A2, c2, rfl, hc21, hc22, rd2⟩ := own2.form hfn.out
        unfold maxLen at hc22
        clear own2
        have kS1 := kS.out _ gn pb fm np nf V2 ((now : Int) + (r : Int)) 1002 ln1 (by omega) (by omega) A2 c2 rd2 hc21 hc22
        rw [hold.out _ _ _ (by omega)] at kS1
        simp only at kS1
        replace kS1 := Lib.hid kS1
        go_wp2_with fail
        refine kS1.out.mono ?_
        rintro e V3 ⟨v3, np3, nf3, rfl, own3, ln3, h1, h2, hu⟩
        replace bs := ln1.nm.keepB bs hu
        replace ba := ln1.nm.keepB ba hu
        replace own := ln1.nm.ownU own hu
        clear kS1 rd2 hu ln1
        obtain ⟨A3, c3, rfl, hc31, hc32, rd3⟩ := own3.form hXl
        clear own3
        have bz := (Blk.new V3 55 #[.slice none 0 0, .int .i64 0]).setRow #[.slice A3 fn c3, .int .i64 0]
        have hbA : Below V3.heap.size V3 ((V3.alloc (.cells #[.slice none 0 0, .int .i64 0] 55)).setRow V3.heap.size #[.slice A3 fn c3, .int .i64 0]) := below_setRow (bel_alloc _ _) (Nat.le_refl _) _
        go_upto_region 23 with (refine wpList_stRow rfl rfl rfl rfl rfl (Blk.new V3 _ _) an_size rfl (by simp [Value.oneCell']) ?_; generalize (V3.alloc (.cells #[.slice none 0 0, .int .i64 0] 55)).setRow V3.heap.size #[.slice A3 fn c3, .int .i64 0] = V4 at *)
        replace ln3 := ln3.bel_ hbA
        replace own := own.below hbA
        replace bs := bs.bel hbA
        replace ba := ba.bel hbA
        replace rd3 := rd3.below hbA
        clear hbA
        generalize V3.heap.size = gz at *
        have s1 := conv_rd (P := Tryz.prog) rd3 22 5 9 (cap := c3) Tryz.underlying22 Tryz.underlying5 Tryz.underlying9
        have s2 := conv_rd (P := Tryz.prog) (own.rdS hXl) 22 5 9 (cap := c6) Tryz.underlying22 Tryz.underlying5 Tryz.underlying9
        have z0 := bz.cell 0
        have z1 := bz.cell 1
        have a0 := ba.cell 0
        generalize hs' : (if s < (now : Int) + (r : Int) then (now : Int) + (r : Int) else s) = s' at *
        have hmx : (if s + LF < (now : Int) + (r : Int) + LF then (now : Int) + (r : Int) + LF else s + LF) = s' + LF := by rw [← hs']; split <;> split <;> omega
        have hmx2 : max (s + LF) ((now : Int) + (r : Int) + LF) = s' + LF := by rw [← hs']; split <;> omega
        have hs2 : 0 ≤ s' ∧ s' ≤ 200000 := by rw [← hs']; split <;> omega
        replace hs' := Lib.hid hs'
        go_wp2_with fail
        go_roundw
        case rel => exact ⟨j + 1, np3, nf3, s', by omega, by omega, by go_num, rfl, hs2.1, hs2.2, ln3, by omega, by omega, bs, ba, own⟩
        case measure => simp [intOf]; omega
      · rw [if_neg hle] at kE
        simp only at kE
        replace kE := Lib.hid kE
        go_wp2_with fail
        refine kE.out.mono ?_
        rintro e V1 ⟨rfl, ln1, hu⟩
        clear kE hu hcx ln ba bs own
        have kB := ln1.bnd hc.out (by omega)
        replace kB := Lib.hid kB
        go_wp2_with fail
        refine kB.out.mono ?_
        rintro e V2 ⟨v2, rfl, own2, ln2, hb⟩
        obtain ⟨A2, c2, rfl, _, _⟩ := own2.form (n := 0) rfl
        go_wp2_with fail
        go_ret
        exact ⟨rfl, ln2.bel⟩
    · go_upto_region 15 with fail
      go_cut [70] (fun s70 wx => s70 = .bool false ∧ wr = wx)
      case first =>
        rcases Nat.lt_or_ge j n with h1 | h1
        · have d1 : decide (j < n) = true := by simpa using h1
          have d3 : decide ((j : Int) < (n : Int)) = true := by simpa using h1
          have d2 : decide ((j : Int) < 20) = false := by simp; omega
          go_wp2_with fail
          go_meet
          exact ⟨rfl, rfl⟩
        · have d1 : decide (j < n) = false := by simpa using h1
          have d3 : decide ((j : Int) < (n : Int)) = false := by simpa using h1
          go_wp2_with fail
          go_meet
          exact ⟨rfl, rfl⟩
      case rest =>
        obtain ⟨rfl, rfl⟩ := hcut
        have kB := ln.bnd hc.out (by omega)
        replace kB := Lib.hid kB
        go_wp2_with fail
        refine kB.out.mono ?_
        rintro e V2 ⟨v2, rfl, own2, ln2, hb⟩
        obtain ⟨A2, c2, rfl, _, _⟩ := own2.form (n := 1) rfl
        go_wp2_with fail
        go_ret
        exact ⟨rfl, ln2.bel⟩
theorem ModelLives_args (W : World) (args : Array Value) (hs : args.size = Tryz.f6.params.size) (hA : ∀ (j : Nat) t v, Tryz.f6.params[j]? = some t → args[j]? = some v → Arg Tryz.prog W t v) :
    Calls Tryz.prog 6 args W fun e W' => e = .returned (.bool true) ∧ Below W.heap.size W W' := by
  obtain ⟨v0, v1, v2, rfl⟩ := args3 hs
  obtain ⟨x, rfl, _⟩ := arg_int Tryz.underlying3 (hA 0 3 v0 rfl rfl)
  obtain ⟨y, rfl, _⟩ := arg_int Tryz.underlying3 (hA 1 3 v1 rfl rfl)
  obtain ⟨A, n, c, l, rfl, g1, g2, g3⟩ := arg_ints Tryz.underlying77 Tryz.underlying3 (by kernel_rfl) (hA 2 77 v2 rfl rfl)
  unfold maxLen at g2
  exact ModelLives_walk x y A n c l W g3 g1 (by omega)

set_option maxRecDepth 100000 in
theorem ModelLives_lifted (os : Os) (started : os.Started) (H : Type) (enc : TypeId × Value → H) :
    ReturnsInHanded {} Tryz.checked os 6 .any (Rows.modelLivesSpec.pre6 enc Tryz.prog Tryz.f6 Rows.modelLivesRow.domain false) (Rows.modelLivesSpec.post enc Tryz.prog Tryz.f6 false true false false) :=
  law_lifted os started H enc (by kernel_rfl) Tryz.func6 rfl rfl (fun H ds h => by match ds, h with | [_, _, _], _ => exact ⟨rfl, rfl, rfl⟩) (by kernel_rfl)
    (ChangeSpec.witness6 (enc := enc) (C := Tryz.checked) false ⟨#[], #[.int .i64 0, .int .i64 0, .slice none 0 0], []⟩ 8 (by kernel_rfl) (by kernel_rfl) (by kernel_rfl) (by kernel_rfl))
    ModelLives_args

/-- the statement -/
theorem modelLives_holds : Rows.ModelLivesSaid :=
  OpenClaim.holds_of_wide 6 Tryz.f6 rfl rfl rfl rfl rfl rfl rfl ⟨rfl, rfl, rfl, rfl, rfl⟩ rfl rfl rfl rfl rfl (by kernel_rfl) Tryz.func6 (by kernel_rfl)
    (of_decide_eq_true (by kernel_rfl)) (by unfold Func.isWrapper; first | (rw [if_pos (by decide +kernel)]; kernel_rfl) | (rw [if_neg (by decide +kernel)]; exact ⟨rfl, rfl⟩))
    (fun os started H enc _ => ModelLives_lifted os started H enc)

end Go.Proofs.YtbckoohljkmahaaGreat
