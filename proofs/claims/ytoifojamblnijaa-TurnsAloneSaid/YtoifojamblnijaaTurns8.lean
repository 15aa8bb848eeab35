/- The walk of the document's Orders. -/
import Derived.Test.YtoifojamblnijaaTurns7
namespace Go.Proofs.Ytoifojamblnijaa
set_option linter.unusedVariables false
set_option linter.unusedSimpArgs false
open Go.RowKit
set_option maxRecDepth 100000 in
set_option maxHeartbeats 1000000 in
theorem refOrders_any (A : Option Addr) (n cap : Nat) (l : List Dn) (W : Int) (wc : World) (rd : RdT Dn.cs 3 wc wc.heap.size A n l) (hn : n ≤ 100000) :
    Calls Try.prog 17 #[.slice A n cap, .int .i64 W] wc fun e w' => ∃ v, e = .returned v ∧ Below wc.heap.size wc w' ∧ Own .i64 3 w' wc.heap.size v (ordL W l) := by
  obtain ⟨i0, hi, hz0, hz1, hz2⟩ := info_parts info_int
  obtain ⟨M, hM⟩ : ∃ M, M = ordM W := ⟨_, rfl⟩
  have hM64 : M ≤ 64 := by rw [hM]; unfold ordM; omega
  unfold ordL
  rw [← hM]
  have hMi : (M : Int) = min (max W 0) 64 := by rw [hM]; unfold ordM; omega
  clear hM
  go_enter Try.func17, Try.ntmps17
  replace hMi := Lib.hid hMi
  go_wp2_with fail
  go_loopg [5, 6] M (fun gk s5 s6 wr => ∃ k : Nat, gk = M - k ∧ k ≤ M ∧ s6 = .int .i64 k ∧ Below wc.heap.size wc wr ∧ Own .i64 3 wr wc.heap.size s5 ((List.range k).map fun k : Nat => ((ordN (k : Int) l 0 : Nat) : Int)))
  case atStart => exact ⟨0, rfl, Nat.zero_le _, rfl, Below.refl _ _, Own.nil _ _ _ _⟩
  case round =>
    obtain ⟨k, hgk, hk, rfl, bel, own⟩ := hrel
    by_cases hlt : k < M
    · have hkW : (k : Int) < W := by have := hMi.out; omega
      have hd : decide ((k : Int) < W) = true := by simpa using hkW
      have hd2 : decide ((k : Int) < 64) = true := by simp; omega
      replace hgk := Lib.hid hgk
      obtain ⟨q, hq⟩ : ∃ q, q = ordN (k : Int) l 0 := ⟨_, rfl⟩
      have hqn : q ≤ n := by have := ordN_le k l 0; have := rd.len; omega
      replace hq := Lib.hid hq
      generalize hW0 : wr = W0 at *
      clear hW0
      go_wp2_with fail
      go_loopg [7, 8] n (fun gt s7 s8 wx => ∃ (j nn : Nat), gt = n - j ∧ j ≤ n ∧ s8 = .int .i64 j ∧ s7 = .int .i64 nn ∧ nn ≤ n ∧ q = ordN (k : Int) (l.drop j) nn ∧ Below W0.heap.size W0 wx)
      case atStart => exact ⟨0, 0, rfl, Nat.zero_le _, rfl, rfl, Nat.zero_le _, by rw [List.drop_zero]; exact hq.out, Below.refl _ _⟩
      case round =>
        obtain ⟨j, nn, hgt, hj, rfl, rfl, hnn, hqe, bel2⟩ := hrel
        replace hqe := Lib.hid hqe
        replace hgt := Lib.hid hgt
        by_cases hltj : j < n
        · have hd3 : decide (j < n) = true := by simpa using hltj
          obtain ⟨b, o, rfl, hb, hcl⟩ := rd.cel (by omega)
          obtain ⟨d, hdj⟩ : ∃ d, l[j]? = some d := ⟨_, List.getElem?_eq_getElem (by have := rd.len; omega)⟩
          have hbw : b < W0.heap.size := Nat.lt_of_lt_of_le hb bel.size
          have cc : ∀ f u, d.cs[f]? = some u → wr.cell? ⟨b, o + j * 3 + f, none⟩ = some u := fun f u hu => (bel2.cell (p := ⟨b, o + j * 3 + f, none⟩) hbw).trans ((bel.cell (p := ⟨b, o + j * 3 + f, none⟩) hb).trans (hcl j d hdj f u hu))
          have hdr : l.drop j = d :: l.drop (j + 1) := by rw [List.drop_eq_getElem_cons (by have := rd.len; omega)]; congr 1; rw [List.getElem?_eq_getElem (by have := rd.len; omega)] at hdj; simpa using hdj
          have hq2 := hqe.out
          rw [hdr] at hq2
          unfold ordN at hq2
          obtain ⟨who, idx, gv⟩ := d
          have c0 : wr.cell? ⟨b, o + j * 3, none⟩ = some (.int .i64 who) := cc 0 _ rfl
          have c1 : wr.cell? ⟨b, o + j * 3 + 1, none⟩ = some (.int .i64 idx) := cc 1 _ rfl
          clear cc hcl hdj hdr hqe
          simp only at hq2
          by_cases hw : who = (k : Int)
          · rw [if_pos hw] at hq2
            subst hw
            by_cases hi2 : idx = (nn : Int)
            · rw [if_pos hi2] at hq2
              subst hi2
              replace hq2 := Lib.hid hq2
              go_wp2_with fail
              go_roundg (n - (j + 1))
              case measure => have := hgt.out; omega
              case rel => exact ⟨j + 1, nn + 1, rfl, by omega, by go_num, by go_num, by have := hq2.out; have h5 := hqn; have := ordN_ge (k : Int) (l.drop (j + 1)) (nn + 1); omega, hq2.out, bel2⟩
            · rw [if_neg hi2] at hq2
              have hqk : _ := Lib.hid (hq2.symm.trans hq.out)
              clear hq hq2
              have belA := bel_after bel bel2
              have ownA := own.below bel2
              have hx := Rd.new .i64 wr 3 [(nn : Int)] (by intro y hy; simp at hy; subst hy; exact i64_inr (by omega)) #[.int .i64 nn] rfl 1 rfl
              rw [show (wr).heap.size = (wr.heap.size) by simp] at hx
              have hbz := (belA.alloc belA.size (.cells #[.int .i64 nn] 3)).size
              go_wp2_with (at_builtin; go_loud (refine wpList_app _ rfl (.tmp 40) (.tmp 42) 22 rfl .i64 wc.heap.size 3 i0 (.int .i64 0) 8 Try.underlying22 hi hz0 hz1 hz2 rfl u5 rfl _ (ownA.alloc _) _ _ 1 1 rfl [(nn : Int)] hx (by rw [List.length_map, List.length_range]; omega) (by decide) hbz ?_; intro v1 w1 own1 hg1 hb1))
              have bel4 : Below wc.heap.size wc w1 := (belA.alloc belA.size (.cells #[.int .i64 nn] 3)).grown hg1 hbz (fun g h => (ownA.lt g h).1)
              clear hx hg1 hb1 ownA belA hbz bel2
              go_wp2_with fail
              go_roundg (M - (k + 1))
              case measure => have := hgk.out; omega
              case rel => exact ⟨k + 1, by first | rfl | omega, by omega, by go_num, bel4, by rw [List.range_succ, List.map_append]; rw [hqk.out] at own1; exact own1⟩
          · rw [if_neg hw] at hq2
            replace hq2 := Lib.hid hq2
            go_wp2_with fail
            go_roundg (n - (j + 1))
            case measure => have := hgt.out; omega
            case rel => exact ⟨j + 1, nn, rfl, by omega, by go_num, rfl, hnn, hq2.out, bel2⟩
        · obtain rfl : j = n := by omega
          have hq2 := hqe.out
          rw [List.drop_of_length_le (by rw [rd.len]; exact Nat.le_refl _)] at hq2
          unfold ordN at hq2
          clear hqe
          have hqk : _ := Lib.hid (hq2.symm.trans hq.out)
          clear hq hq2
          have belA := bel_after bel bel2
          have ownA := own.below bel2
          have hx := Rd.new .i64 wr 3 [(nn : Int)] (by intro y hy; simp at hy; subst hy; exact i64_inr (by omega)) #[.int .i64 nn] rfl 1 rfl
          rw [show (wr).heap.size = (wr.heap.size) by simp] at hx
          have hbz := (belA.alloc belA.size (.cells #[.int .i64 nn] 3)).size
          go_wp2_with (at_builtin; go_loud (refine wpList_app _ rfl (.tmp 40) (.tmp 42) 22 rfl .i64 wc.heap.size 3 i0 (.int .i64 0) 8 Try.underlying22 hi hz0 hz1 hz2 rfl u5 rfl _ (ownA.alloc _) _ _ 1 1 rfl [(nn : Int)] hx (by rw [List.length_map, List.length_range]; omega) (by decide) hbz ?_; intro v1 w1 own1 hg1 hb1))
          have bel4 : Below wc.heap.size wc w1 := (belA.alloc belA.size (.cells #[.int .i64 nn] 3)).grown hg1 hbz (fun g h => (ownA.lt g h).1)
          clear hx hg1 hb1 ownA belA hbz bel2
          go_wp2_with fail
          go_roundg (M - (k + 1))
          case measure => have := hgk.out; omega
          case rel => exact ⟨k + 1, by first | rfl | omega, by omega, by go_num, bel4, by rw [List.range_succ, List.map_append]; rw [hqk.out] at own1; exact own1⟩
    · obtain rfl : k = M := by omega
      have hcond : decide ((k : Int) < W) = false ∨ (decide ((k : Int) < W) = true ∧ decide ((k : Int) < 64) = false) := by
        have := hMi.out
        by_cases h : (k : Int) < W
        · exact .inr ⟨by simpa using h, by simp; omega⟩
        · exact .inl (by simpa using h)
      rcases hcond with hd | ⟨hd, hd2⟩
      · go_wp2
        go_ret
        exact ⟨_, rfl, bel, own⟩
      · go_wp2
        go_ret
        exact ⟨_, rfl, bel, own⟩
end Go.Proofs.Ytoifojamblnijaa
