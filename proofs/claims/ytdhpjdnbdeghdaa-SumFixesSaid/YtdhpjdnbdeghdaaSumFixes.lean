/- Every input of SumFixes answers true, and reads behind the call as it read before. No condition. -/
import Derived.Test.YtdhpjdnbdeghdaaSumWhole
import Derived.Test.YtdhpjdnbdeghdaaSumBack
import Derived.Test.YtdhpjdnbdeghdaaHeap
namespace Go.Proofs.Ytdhpjdnbdeghdaa
set_option linter.unusedVariables false
open Go.RowKit
theorem sumOf_mod (l : List Int) (h : 0 ≤ sb true l) : sumOf l % 65535 = (- sb true l) % 65535 := by
  unfold sumOf fo; split <;> omega
theorem or16 (a b : Int) (ha : 0 ≤ a ∧ a ≤ 255) (hb : 0 ≤ b ∧ b ≤ 255) : bits .or .u16 (a * 256) b = a * 256 + b := by
  rw [u16_or _ _ (by omega) (by omega) (by omega) (by omega), nat_join 8 _ _ (by omega) (by omega)]; omega
theorem or32 (a b : Int) (ha : 0 ≤ a ∧ a ≤ 65535) (hb : 0 ≤ b ∧ b ≤ 65535) : bits .or .u32 (a * 65536) b = a * 65536 + b := by
  rw [u32_or _ _ (by omega) (by omega) (by omega) (by omega), nat_join 16 _ _ (by omega) (by omega)]; omega
theorem sb_set2 (l : List Int) (k : Nat) (x y : Int) (hk : k + 1 < l.length) (he : k % 2 = 0) :
    sb true ((l.set k x).set (k + 1) y) = sb true l + (x * 256 + y) - (l.getD k 0 * 256 + l.getD (k + 1) 0) := by
  rw [sb_set _ _ _ (by simpa using hk), sb_set _ _ _ (by omega)]
  have : (l.set k x).getD (k + 1) 0 = l.getD (k + 1) 0 := by simp [List.getD_eq_getElem?_getD, List.getElem?_set]
  rw [this]
  simp [he, show (k + 1) % 2 = 1 by omega]; omega
set_option maxRecDepth 100000 in
set_option maxHeartbeats 4000000 in
theorem SumFixes_walk (A : Option Addr) (len cap : Nat) (l : List Int) (at_ n0 n1 : Int) (w : World) (hr : Rd .u8 w w.heap.size A len l) (hlc : len ≤ cap) (hm : cap ≤ maxLen) (hn0 : 0 ≤ n0 ∧ n0 ≤ 65535) (hn1 : 0 ≤ n1 ∧ n1 ≤ 65535) :
    Calls Try.prog 9 #[.slice A len cap, .int .i64 at_, .agg #[.int .u16 n0, .int .u16 n1]] w fun e w' => e = .returned (.bool true) ∧ Below w.heap.size w w' := by
  obtain ⟨i0, hi, hz0, hz1, hz2⟩ := info_parts info_u8
  unfold maxLen at hm
  obtain ⟨m0, hmn0, hm10, hm20⟩ := minc 200 (by omega) len
  have hr2 := (((hr.take hm10).alloc (Nat.le_refl _) (.cells #[.int .u16 n0, .int .u16 n1] 43)).more (Nat.le_succ _)).alloc (by simp) (.cells #[] 5)
  have hlm : (l.take m0).length = m0 := by rw [List.length_take, hr.len]; omega
  obtain ⟨L0, hL0⟩ : ∃ L, L = l.take m0 := ⟨_, rfl⟩
  rw [← hL0] at hr2 hlm
  clear hL0 hr
  replace hlm := Lib.hid hlm
  have hown : Own .u8 5 ((w.alloc (.cells #[.int .u16 n0, .int .u16 n1] 43)).alloc (.cells #[] 5)) w.heap.size (.slice (some ⟨w.heap.size + 1, 0, none⟩) 0 0) [] := by
    have := Own.new .u8 (w.alloc (.cells #[.int .u16 n0, .int .u16 n1] 43)) 5 w.heap.size (by simp) [] (by simp) #[] rfl 0 rfl (by simp)
    simpa using this
  have hbk := (Blk.new w 43 #[.int .u16 n0, .int .u16 n1]).alloc (.cells #[] 5)
  obtain ⟨m, hm1, hm2, hme, hpar⟩ : ∃ m : Nat, m ≤ m0 ∧ m ≤ 200 ∧ m % 2 = 0 ∧ ((((m0 : Int) % 2 == 1) = true ∧ (m0 : Int) - 1 = m) ∨ (((m0 : Int) % 2 == 1) = false ∧ m0 = m)) := by
    by_cases h : m0 % 2 = 0
    · exact ⟨m0, Nat.le_refl _, by omega, h, .inr ⟨by simp; omega, rfl⟩⟩
    · exact ⟨m0 - 1, by omega, by omega, by omega, .inl ⟨by simp; omega, by omega⟩⟩
  replace hme := Lib.hid hme
  go_enter Try.func9, Try.ntmps9
  rcases hpar with ⟨hp1, hp2⟩ | ⟨hp1, hp2⟩
  all_goals
    first | (replace hp2 := hp2.symm; subst hp2) | skip
    go_wp2_with (at_builtin; go_must ((refine wpList_app _ rfl (.tmp 14) (.tmp 19) 22 rfl .u8 w.heap.size 5 i0 (.int .u8 0) 1 Try.underlying22 hi hz0 hz1 hz2 rfl (.slice (some ⟨w.heap.size + 1, 0, none⟩) 0 0) rfl [] hown (w.heap.size + 1) _ _ _ rfl L0 hr2 (by simp; omega) (by decide) (by simp; omega) ?_); intro v1 w1 own1 hg1 _; rw [List.nil_append] at own1; obtain ⟨A1, c1, rfl, hc1, hc2, rd1⟩ := own1.form hlm.out; unfold maxLen at hc2; have hbk1 := hbk.grown hg1 (by simp [Value.ownBlock]); have bel1 : Below w.heap.size w w1 := (((Below.refl _ _).alloc (Nat.le_refl _) _).alloc (by simp) _).grown hg1 (by simp; omega) (fun k h => by simp [Value.ownBlock] at h; omega); clear hg1))
    refine (sums_any _).mono ?_
    rintro e w2 ⟨rfl, hb2⟩
    have rd2 := (rd1.take hm1).below hb2
    have hbk2 := hbk1.bel hb2
    have bel2 := bel1.trans (hb2.mono bel1.size)
    by_cases hm4 : m < 4
    · have hd : decide ((m : Int) < 4) = true := by simp; omega
      go_wp2_with fail
      refine (sums_any _).mono ?_
      rintro e w3 ⟨rfl, hb3⟩
      go_wp2_with fail
      go_ret
      exact ⟨rfl, bel2.trans (hb3.mono bel2.size)⟩
    · have hd : decide ((m : Int) < 4) = false := by simp; omega
      as_aux_lemma =>
        obtain ⟨g, c1', hve, hc1', hc2', hg1, hg2⟩ := own1.formG hlm.out (by omega)
        simp only [Value.slice.injEq] at hve
        obtain ⟨rfl, _, rfl⟩ := hve
        have own2 := (own1.take hm1).below hb2
        have hgw : g < w2.heap.size := by have := hb2.size; omega
        have hlL : (L0.take m).length = m := by rw [List.length_take, hlm.out]; omega
        obtain ⟨L, hL⟩ : ∃ L, L = L0.take m := ⟨_, rfl⟩
        rw [← hL] at own2 rd2 hlL
        clear hL own1 rd1 hbk1 hc1' hc2'
        replace hlL := Lib.hid hlL
        have h8 : ∀ y, y ∈ L → 0 ≤ y ∧ y ≤ 255 := fun y hy => inr_u8 (own2.rng y hy)
        have hsb := (sb_bd L h8 true).1
        have hsO : 0 ≤ sumOf L ∧ sumOf L ≤ 65535 := by have := fo_bd hsb; unfold sumOf; omega
        obtain ⟨q, hq, hq1⟩ := modn at_ ((m : Int) / 2 - 1) (by omega)
        obtain ⟨k, hk, hk1, hk2⟩ : ∃ k : Nat, (q : Int) * 2 = (k : Int) ∧ k + 3 < m ∧ k % 2 = 0 := ⟨q * 2, by push_cast; rfl, by omega, by omega⟩
        replace hk2 := Lib.hid hk2
        obtain ⟨hc0, hf0, r0⟩ := own2.at_ hlL.out (j := k) (by omega)
        obtain ⟨hc1, hf1, r1⟩ := own2.at_ hlL.out (j := k + 1) (by omega)
        obtain ⟨hc2, hf2, r2⟩ := own2.at_ hlL.out (j := k + 2) (by omega)
        obtain ⟨hc3, hf3, r3⟩ := own2.at_ hlL.out (j := k + 3) (by omega)
        replace r0 := inr_u8 r0
        replace r1 := inr_u8 r1
        replace r2 := inr_u8 r2
        replace r3 := inr_u8 r3
        obtain ⟨x0, hx0⟩ : ∃ x, x = L.getD k 0 := ⟨_, rfl⟩
        obtain ⟨x1, hx1⟩ : ∃ x, x = L.getD (k + 1) 0 := ⟨_, rfl⟩
        obtain ⟨x2, hx2⟩ : ∃ x, x = L.getD (k + 2) 0 := ⟨_, rfl⟩
        obtain ⟨x3, hx3⟩ : ∃ x, x = L.getD (k + 3) 0 := ⟨_, rfl⟩
        rw [← hx0] at hc0 r0
        rw [← hx1] at hc1 r1
        rw [← hx2] at hc2 r2
        rw [← hx3] at hc3 r3
        replace hx0 := Lib.hid hx0
        replace hx1 := Lib.hid hx1
        replace hx2 := Lib.hid hx2
        replace hx3 := Lib.hid hx3
        obtain ⟨o0, ho0, bo0⟩ : ∃ o, x0 * 256 + x1 = o ∧ (0 ≤ o ∧ o ≤ 65535) := ⟨_, rfl, by omega⟩
        obtain ⟨o1, ho1, bo1⟩ : ∃ o, x2 * 256 + x3 = o ∧ (0 ≤ o ∧ o ≤ 65535) := ⟨_, rfl, by omega⟩
        have hor0 := or16 x0 x1 r0 r1
        have hor1 := or16 x2 x3 r2 r3
        rw [ho0] at hor0
        rw [ho1] at hor1
        replace ho0 := Lib.hid ho0
        replace ho1 := Lib.hid ho1
        go_wp2_with fail
        refine (Of_any L _ _ _ _ _ (by omega) rd2).mono ?_
        rintro e w' ⟨rfl, rfl⟩
        go_wp2_with fail
        go_region
        as_aux_lemma =>
          have hsz : w.heap.size < w2.heap.size := hbk2.lt
          have hold := (Blk.new w2 43 #[.int .u16 o0, .int .u16 o1]).drew
          have hnow := (hbk2.alloc (.cells #[.int .u16 o0, .int .u16 o1] 43)).drew
          have own3 := (own2.alloc (.cells #[.int .u16 o0, .int .u16 o1] 43)).drew
          have bel3 := (bel2.alloc bel2.size (.cells #[.int .u16 o0, .int .u16 o1] 43)).drew
          obtain ⟨w3, hw3⟩ : ∃ w3, w3 = (w2.alloc (.cells #[.int .u16 o0, .int .u16 o1] 43)).drew := ⟨_, rfl⟩
          rw [← hw3] at hold hnow own3 bel3 ⊢
          clear hw3 own2 hc0 hc1 hc2 hc3 hf0 hf1 hf2 hf3 bel2 hb2 rd2
          have hgn : w.heap.size ≠ g := own3.ne hnow (by decide)
          have a0 : w3.cell? ⟨w2.heap.size, 0, none⟩ = some (.int .u16 o0) := hold.cell 0
          have a1 : w3.cell? ⟨w2.heap.size, 1, none⟩ = some (.int .u16 o1) := hold.cell 1
          have c0 : w3.cell? ⟨w.heap.size, 0, none⟩ = some (.int .u16 n0) := hnow.cell 0
          have c1 : w3.cell? ⟨w.heap.size, 1, none⟩ = some (.int .u16 n1) := hnow.cell 1
          have bf := fixOf_bd hsO bo0 hn0
          have mf := fixOf_mod hsO bo0 hn0
          obtain ⟨f, hf⟩ : ∃ f, f = fixOf (sumOf L) o0 n0 := ⟨_, rfl⟩
          rw [← hf] at bf mf
          replace hf := Lib.hid hf
          have bw := fixOf_bd bf bo1 hn1
          have mw := fixOf_mod bf bo1 hn1
          obtain ⟨fw, hfw⟩ : ∃ fw, fw = fixOf f o1 n1 := ⟨_, rfl⟩
          rw [← hfw] at bw mw
          replace hfw := Lib.hid hfw
          replace mf := Lib.hid mf
          replace mw := Lib.hid mw
          have hOo := or32 o0 o1 bo0 bo1
          have hOn := or32 n0 n1 hn0 hn1
          obtain ⟨O, hO, bO⟩ : ∃ O, o0 * 65536 + o1 = O ∧ (0 ≤ O ∧ O ≤ 4294967295) := ⟨_, rfl, by omega⟩
          obtain ⟨M, hM, bM⟩ : ∃ O, n0 * 65536 + n1 = O ∧ (0 ≤ O ∧ O ≤ 4294967295) := ⟨_, rfl, by omega⟩
          rw [hO] at hOo
          rw [hM] at hOn
          replace hO := Lib.hid hO
          replace hM := Lib.hid hM
          go_wp2_with fail
          refine (Fix_any (sumOf L) o0 n0 _ hsO bo0 hn0).mono ?_
          rw [← hf.out]
          rintro e w' ⟨rfl, rfl⟩
          go_wp2_with fail
          refine (FixWide_any (sumOf L) O M _ hsO bO bM).mono ?_
          rw [show O / 65536 = o0 by have := hO.out; omega, show M / 65536 = n0 by have := hM.out; omega, show O % 65536 = o1 by have := hO.out; omega, show M % 65536 = n1 by have := hM.out; omega, ← hf.out, ← hfw.out]
          rintro e w' ⟨rfl, rfl⟩
          go_wp2_with fail
          refine (rFix_any (sumOf L) o0 n0 _ hsO bo0 hn0).mono ?_
          rw [← hf.out]
          rintro e w' ⟨rfl, rfl⟩
          go_wp2_with fail
          refine (rFix_any f o1 n1 _ bf bo1 hn1).mono ?_
          rw [← hfw.out]
          rintro e w' ⟨rfl, rfl⟩
          obtain ⟨hc0, hf0, _⟩ := own3.at_ hlL.out (j := k) (by omega)
          obtain ⟨hc1, hf1, _⟩ := own3.at_ hlL.out (j := k + 1) (by omega)
          have hw8 := IntKind.wrap_u8' n0
          have hw8' := IntWalk.u8_in (n0 / 256) (by omega)
          go_wp2_with fail
          clear hmn0 hOo hOn bO bM hi hz0 hz1 hz2 hr2 hown hbk hq hor0 hor1 a0 hold hlm hme hd i0 hp1
          go_region
          as_aux_lemma =>
            have own4 := ((own3.set hlL.out k (x := n0 / 256) (u8_inr (by omega))).set (by rw [List.length_set]; exact hlL.out) (k + 1) (x := n0 % 256) (u8_inr (by omega))).drew
            have hs4 := sb_set2 L k (n0 / 256) (n0 % 256) (by rw [hlL.out]; omega) hk2.out
            have bel4 : Below w.heap.size w ((w3.setCell ⟨g, k, none⟩ (.int .u8 (n0 / 256))).setCell ⟨g, k + 1, none⟩ (.int .u8 (n0 % 256))).drew := ((bel3.setCell hg1 _).setCell hg1 _).drew
            have hnow4 : Blk ((w3.setCell ⟨g, k, none⟩ (.int .u8 (n0 / 256))).setCell ⟨g, k + 1, none⟩ (.int .u8 (n0 % 256))).drew w.heap.size 43 #[.int .u16 n0, .int .u16 n1] := ((hnow.far (p := ⟨g, k, none⟩) hgn _).far (p := ⟨g, k + 1, none⟩) hgn _).drew
            obtain ⟨w4, hw4⟩ : ∃ w4, w4 = ((w3.setCell ⟨g, k, none⟩ (.int .u8 (n0 / 256))).setCell ⟨g, k + 1, none⟩ (.int .u8 (n0 % 256))).drew := ⟨_, rfl⟩
            rw [← hw4] at own4 bel4 hnow4 ⊢
            clear hw4 own3 bel3 hnow hc0 hc1 hf0 hf1 a1 c0 c1 hw8 hw8'
            have hl4 : ((L.set k (n0 / 256)).set (k + 1) (n0 % 256)).length = m := by rw [List.length_set, List.length_set]; exact hlL.out
            have g2 : ((L.set k (n0 / 256)).set (k + 1) (n0 % 256)).getD (k + 2) 0 = x2 := by rw [hx2.out]; simp [List.getD_eq_getElem?_getD, List.getElem?_set]
            have g3 : ((L.set k (n0 / 256)).set (k + 1) (n0 % 256)).getD (k + 3) 0 = x3 := by rw [hx3.out]; simp [List.getD_eq_getElem?_getD, List.getElem?_set]
            obtain ⟨L4, hL4⟩ : ∃ L4, L4 = (L.set k (n0 / 256)).set (k + 1) (n0 % 256) := ⟨_, rfl⟩
            rw [← hL4] at own4 hs4 hl4 g2 g3
            clear hL4
            replace hl4 := Lib.hid hl4
            replace hs4 := Lib.hid hs4
            replace g2 := Lib.hid g2
            replace g3 := Lib.hid g3
            have h84 : ∀ y, y ∈ L4 → 0 ≤ y ∧ y ≤ 255 := fun y hy => inr_u8 (own4.rng y hy)
            have hsb4 := (sb_bd L4 h84 true).1
            have hsO4 : 0 ≤ sumOf L4 ∧ sumOf L4 ≤ 65535 := by have := fo_bd hsb4; unfold sumOf; omega
            have c1 : w4.cell? ⟨w.heap.size, 1, none⟩ = some (.int .u16 n1) := hnow4.cell 1
            obtain ⟨hc2, hf2, _⟩ := own4.at_ hl4.out (j := k + 2) (by omega)
            obtain ⟨hc3, hf3, _⟩ := own4.at_ hl4.out (j := k + 3) (by omega)
            have hw8 := IntKind.wrap_u8' n1
            have hw8' := IntWalk.u8_in (n1 / 256) (by omega)
            clear h84
            go_wp2_with fail
            refine (rOf_any L4 _ _ _ _ _ (by omega) (own4.rd hl4.out)).mono ?_
            rintro e w' ⟨rfl, rfl⟩
            go_wp2_with fail
            go_region
            have own5 := ((own4.set hl4.out (k + 2) (x := n1 / 256) (u8_inr (by omega))).set (by rw [List.length_set]; exact hl4.out) (k + 3) (x := n1 % 256) (u8_inr (by omega))).drew
            have hs5 := sb_set2 L4 (k + 2) (n1 / 256) (n1 % 256) (by rw [hl4.out]; omega) (by have := hk2.out; omega)
            have bel5 : Below w.heap.size w ((w4.setCell ⟨g, k + 2, none⟩ (.int .u8 (n1 / 256))).setCell ⟨g, k + 3, none⟩ (.int .u8 (n1 % 256))).drew := ((bel4.setCell hg1 _).setCell hg1 _).drew
            have hl5 : ((L4.set (k + 2) (n1 / 256)).set (k + 3) (n1 % 256)).length = m := by rw [List.length_set, List.length_set]; exact hl4.out
            have h85 := (sb_bd ((L4.set (k + 2) (n1 / 256)).set (k + 3) (n1 % 256)) (fun y hy => inr_u8 (own5.rng y hy)) true).1
            have q1 : f % 65535 = sumOf L4 % 65535 := by
              rw [mf.out, sumOf_mod L4 hsb4, hs4.out, ← hx0.out, ← hx1.out]
              have := sumOf_mod L hsb
              have := ho0.out
              omega
            have q2 : fw % 65535 = sumOf ((L4.set (k + 2) (n1 / 256)).set (k + 3) (n1 % 256)) % 65535 := by
              rw [mw.out, sumOf_mod _ h85, hs5, g2.out, g3.out]
              have := sumOf_mod L4 hsb4
              have := ho1.out
              omega
            obtain ⟨L5, hL5⟩ : ∃ L5, L5 = (L4.set (k + 2) (n1 / 256)).set (k + 3) (n1 % 256) := ⟨_, rfl⟩
            rw [← hL5] at own5 hl5 q2 h85
            clear hL5 hs5 own4 hc2 hc3 hf2 hf3 bel4 hnow4 c1
            replace hl5 := Lib.hid hl5
            have hsO5 : 0 ≤ sumOf L5 ∧ sumOf L5 ≤ 65535 := by have := fo_bd h85; unfold sumOf; omega
            go_wp2_with fail
            refine (rOf_any L5 _ _ _ _ _ (by omega) (own5.rd hl5.out)).mono ?_
            rintro e w' ⟨rfl, rfl⟩
            go_wp2
            go_ret
            exact ⟨rfl, bel5⟩
theorem SumFixes_args (W : World) (args : Array Value) (hs : args.size = Try.f9.params.size) (hA : ∀ (j : Nat) t v, Try.f9.params[j]? = some t → args[j]? = some v → Arg Try.prog W t v) :
    Calls Try.prog 9 args W fun e W' => e = .returned (.bool true) ∧ Below W.heap.size W W' := by
  obtain ⟨v0, v1, v2, rfl⟩ := args3 hs
  obtain ⟨A, len, cap, l, rfl, h1, h2, h3⟩ := arg_ints Try.underlying22 Try.underlying5 (by kernel_rfl) (hA 0 22 v0 rfl rfl)
  obtain ⟨a, rfl, wa⟩ := arg_int Try.underlying3 (hA 1 3 v1 rfl rfl)
  obtain ⟨cs, n, rfl, hcs, hh⟩ := arg_array Try.underlying43 (hA 2 43 v2 rfl rfl)
  obtain ⟨a0, a1, rfl⟩ := args2 (args := cs) (by rw [hcs]; kernel_rfl)
  have hC : Try.prog.cellsOf 26 = 1 := by kernel_rfl
  rw [hC] at hh
  obtain ⟨x, hx, ix⟩ := rdg_int Try.underlying26 (hh 0 (by omega))
  obtain ⟨y, hy, iy⟩ := rdg_int Try.underlying26 (hh 1 (by omega))
  simp at hx hy
  subst hx hy
  exact SumFixes_walk A len cap l a x y W h3 h1 h2 (inr_u16 ix) (inr_u16 iy)

set_option maxRecDepth 100000 in
theorem SumFixes_lifted (os : Os) (started : os.Started) (H : Type) (enc : TypeId × Value → H) :
    ReturnsInHanded {} Try.checked os 9 .any (Rows.sumFixesSpec.pre6 enc Try.prog Try.f9 Rows.sumFixesRow.domain false) (Rows.sumFixesSpec.post enc Try.prog Try.f9 false true false false) :=
  law_lifted os started H enc (by kernel_rfl) Try.func9 rfl rfl (fun H ds h => by match ds, h with | [_, _, _], _ => exact ⟨rfl, rfl, rfl⟩) (by kernel_rfl)
    (ChangeSpec.witness6 (enc := enc) (C := Try.checked) false ⟨#[], #[.slice none 0 0, .int .i64 0, .agg #[.int .u16 0, .int .u16 0]], []⟩ 8 (by kernel_rfl) (by kernel_rfl) (by kernel_rfl) (by kernel_rfl))
    SumFixes_args

/-- the statement -/
theorem sumFixes_holds : Rows.SumFixesSaid :=
  OpenClaim.holds_of_wide 9 Try.f9 rfl rfl rfl rfl rfl rfl rfl ⟨rfl, rfl, rfl, rfl, rfl⟩ rfl rfl rfl rfl rfl (by kernel_rfl) Try.func9 (by kernel_rfl)
    (of_decide_eq_true (by kernel_rfl)) (by unfold Func.isWrapper; first | (rw [if_pos (by decide +kernel)]; kernel_rfl) | (rw [if_neg (by decide +kernel)]; exact ⟨rfl, rfl⟩))
    (fun os started H enc _ => SumFixes_lifted os started H enc)

end Go.Proofs.Ytdhpjdnbdeghdaa
