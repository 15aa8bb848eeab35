/- Every input of PlaceActs answers true, and reads behind the call as it read before. No condition. -/
import Derived.Test.YtgkimfodbbgdbaaPlaceActsA
namespace Go.Proofs.Ytgkimfodbbgdbaa
set_option linter.unusedVariables false
set_option linter.unusedSimpArgs false
open Go.RowKit
set_option maxRecDepth 100000 in
set_option maxHeartbeats 8000000 in
theorem PlaceActs_yes (n : Nat) (A : Option Addr) (m cap : Nat) (w : World) (hn1 : 1 ≤ n) (hn2 : n ≤ 3072) (hr : AcRd w A m) (hmm : m ≤ 9223372036854775807) :
    Calls Try.prog 8 #[.int .i64 n, .slice A m cap] w fun e w' => e = .returned (.bool true) ∧ Below w.heap.size w w' := by
  obtain ⟨i1, hi1, hu0, hu1, hu2⟩ := info_parts info_wd
  obtain ⟨i2, hi2, hv0, hv1, hv2⟩ := info_parts info_ky
  have hmkW := fun W => make_rowT (P := Try.prog) wd_len (by omega) (Wd.mk 0 0 0 0) 53 23 i1 _ Try.underlying53 hi1 hu0 hu1 rfl .i64 .i64 n (by rw [hu2]; omega) (by omega) W
  have hmkK := fun W => make_rowT (P := Try.prog) ky_len (by omega) (Ky.mk 0 0 0) 63 47 i2 _ Try.underlying63 hi2 hv0 hv1 rfl .i64 .i64 n (by rw [hv2]; omega) (by omega) W
  clear hu0 hu1 hu2 hv0 hv1 hv2
  have hc1 : decide ((n : Int) < 1) = false := by simp; omega
  have hc2 : decide (3072 < (n : Int)) = false := by simp; omega
  go_enter Try.func8, Try.ntmps8
  go_wp2_with (first
    | (go_at_call 12; refine (moves_any _).mono ?_; rintro e w1 ⟨rfl, b1⟩)
    | (go_at_call 22; refine (none_any _).mono ?_; rintro e w' ⟨rfl, rfl⟩)
    | (go_at_call 19; refine (PlLoad_nil _ _).mono ?_; rintro e w2 ⟨rfl, b2⟩; replace b1 := bel_after b1 b2; clear b2)
    | (go_at_call 20; refine (PlCas_nil _ _ _ _ _ _ _ _ _ _).mono ?_; rintro e w3 ⟨rfl, b3⟩; replace b1 := bel_after b1 b3; clear b3)
    | (go_at_call 23; refine (PlKey_nil _ _).mono ?_; rintro e w4 ⟨rfl, b4⟩; replace b1 := bel_after b1 b4; clear b4)
    | (go_at_call 24; refine (PlSetKey_nil _ _).mono ?_; rintro e w5 ⟨rfl, b5⟩; replace b1 := bel_after b1 b5; clear b5)
    | (go_at_call 25; refine (PlSize_nil _).mono ?_; rintro e w' ⟨rfl, rfl⟩)
    | (go_at_call 26; refine (PlCount_nil _ _).mono ?_; rintro e w' ⟨rfl, rfl⟩)
    | (go_at_call 27; refine (PlCopy_nil _).mono ?_; rintro e w' ⟨rfl, rfl⟩))
  refine (PlNew_yes n _ hn1 hn2).mono ?_
  rintro e w6 ⟨p, g, h, rfl, b6, hh, pl⟩
  have hhw : w.heap.size ≤ h := by have := b1.size; omega
  replace b1 := bel_after b1 b6
  have hpa := pa_new pl b1 hhw
  go_upto_region 6 with fail
  generalize ((List.replicate n (Wd.mk 0 0 0 0)).flatMap Wd.cs).toArray = CW at *
  generalize ((List.replicate n (Ky.mk 0 0 0)).flatMap Ky.cs).toArray = CK at *
  refine wp_cut (fun a' wx => ∃ v : Nat → Value, a' = ⟨(frm v).toArray, []⟩ ∧ v 0 = .int .i64 n ∧ v 1 = .slice A m cap ∧ v 5 = .pointer (some ⟨p, 0, none⟩) ∧ v 6 = .int .i64 0 ∧ ∃ lb kb, v 7 = .slice (some ⟨lb, 0, none⟩) n n ∧ v 8 = .slice (some ⟨kb, 0, none⟩) n n ∧ PA w p g h lb kb n (List.replicate (2 * n) 0) (List.replicate n ⟨0, 0, 0, 0⟩) (List.replicate n ⟨0, 0, 0⟩) wx) ?_ ?_
  rotate_left
  · obtain ⟨e1, e2⟩ := hpa
    intro _ _ _ _
    go_region
    all_goals
      go_wp2_with fail
      refine Met.intro ?_
      go_step
      refine frm_meet (by kernel_rfl) ?_
      refine ⟨rfl, rfl, rfl, rfl, _, _, rfl, rfl, ?_⟩
      first
        | exact e1
        | exact e2
  · intro a' wr hcut
    obtain ⟨v, rfl, hv0, hv1, hv5, hv6, lb, kb, hv7, hv8, pa⟩ := hcut
    have hfr := frm_lit v
    rw [hv0, hv1, hv5, hv6, hv7, hv8] at hfr
    rw [hfr]
    clear hfr hv0 hv1 hv5 hv6 hv7 hv8
    clear hpa hmkW hmkK pl b1 b6 hhw hh
    generalize List.replicate (2 * n) (0 : Int) = L at *
    generalize List.replicate n (Wd.mk 0 0 0 0) = ws at *
    generalize List.replicate n (Ky.mk 0 0 0) = ks at *
    go_upto_block 0 with fail
    refine wp_cut (fun a' wx => ∃ v : Nat → Value, a' = ⟨(frm v).toArray, []⟩ ∧ ∃ (k : Nat) (L : List Int) (ws : List Wd) (ks : List Ky), Com n A m cap p lb kb k v ∧ PA w p g h lb kb n L ws ks wx) ?_ ?_
    rotate_left
    · intro _ _ _ _
      go_wp2_with fail
      refine wp_loop_ghost_k (fun gk a' wr => ∃ v : Nat → Value, a' = ⟨(frm v).toArray, []⟩ ∧ ∃ (k : Nat) (L : List Int) (ws : List Wd) (ks : List Ky), gk = m - k ∧ k ≤ m ∧ Com n A m cap p lb kb k v ∧ PA w p g h lb kb n L ws ks wr) m ?_ ?_
      · refine frm_meet (by kernel_rfl) ?_
        exact ⟨0, L, ws, ks, rfl, Nat.zero_le _, ⟨rfl, rfl, rfl, rfl, rfl, rfl, rfl⟩, pa⟩
      · clear pa
        intro gk a' wr hrel _ _ _ _
        obtain ⟨v, rfl, k, L, ws, ks, hgk, hk, cm, pa⟩ := hrel
        by_cases hlt : k < m ∧ k < 60
        · obtain ⟨hlt, hlt60⟩ := hlt
          obtain ⟨b, o, rfl, hbl, hcl⟩ := hr (by omega)
          have hfr := frm_lit v
          rw [cm.v0, cm.v1, cm.v5, cm.v6, cm.v7, cm.v8, cm.v9] at hfr
          rw [hfr]
          clear hfr cm
          obtain ⟨⟨x0, x1, ⟨o0, o1, o2, o3⟩, ⟨n0, n1, n2, n3⟩, kp, ka, kr⟩, hrg, hcl⟩ := hcl k hlt
          have c0 := pa.bel.cell (p := ⟨b, o + k * 13, none⟩) hbl |>.trans (hcl 0 _ rfl)
          have c1 := pa.bel.cell (p := ⟨b, o + k * 13 + 1, none⟩) hbl |>.trans (hcl 1 _ rfl)
          have c2 := pa.bel.cell (p := ⟨b, o + k * 13 + 2, none⟩) hbl |>.trans (hcl 2 _ rfl)
          have c3 := pa.bel.cell (p := ⟨b, o + k * 13 + 3, none⟩) hbl |>.trans (hcl 3 _ rfl)
          have c4 := pa.bel.cell (p := ⟨b, o + k * 13 + 4, none⟩) hbl |>.trans (hcl 4 _ rfl)
          have c5 := pa.bel.cell (p := ⟨b, o + k * 13 + 5, none⟩) hbl |>.trans (hcl 5 _ rfl)
          have c6 := pa.bel.cell (p := ⟨b, o + k * 13 + 6, none⟩) hbl |>.trans (hcl 6 _ rfl)
          have c7 := pa.bel.cell (p := ⟨b, o + k * 13 + 7, none⟩) hbl |>.trans (hcl 7 _ rfl)
          have c8 := pa.bel.cell (p := ⟨b, o + k * 13 + 8, none⟩) hbl |>.trans (hcl 8 _ rfl)
          have c9 := pa.bel.cell (p := ⟨b, o + k * 13 + 9, none⟩) hbl |>.trans (hcl 9 _ rfl)
          have c10 := pa.bel.cell (p := ⟨b, o + k * 13 + 10, none⟩) hbl |>.trans (hcl 10 _ rfl)
          have c11 := pa.bel.cell (p := ⟨b, o + k * 13 + 11, none⟩) hbl |>.trans (hcl 11 _ rfl)
          have c12 := pa.bel.cell (p := ⟨b, o + k * 13 + 12, none⟩) hbl |>.trans (hcl 12 _ rfl)
          clear hcl
          have hd : decide (k < m) = true := by simpa using hlt
          have hd2 : decide ((k : Int) < 60) = true := by simp; omega
          have ba := Blk.new wr 49 #[.int .i64 x0, .int .i64 x1, .int .i64 o0, .int .i64 o1, .int .i64 o2, .int .i64 o3, .int .i64 n0, .int .i64 n1, .int .i64 n2, .int .i64 n3, .int .i64 kp, .int .u32 ka, .int .u16 kr]
          replace pa := pa.alloc (.cells #[.int .i64 x0, .int .i64 x1, .int .i64 o0, .int .i64 o1, .int .i64 o2, .int .i64 o3, .int .i64 n0, .int .i64 n1, .int .i64 n2, .int .i64 n3, .int .i64 kp, .int .u32 ka, .int .u16 kr] 49)
          replace hgk := Lib.hid hgk
          go_upto_region 11 with fail
          clear c0 c1 c2 c3 c4 c5 c6 c7 c8 c9 c10 c11 c12
          generalize wr.alloc (.cells #[.int .i64 x0, .int .i64 x1, .int .i64 o0, .int .i64 o1, .int .i64 o2, .int .i64 o3, .int .i64 n0, .int .i64 n1, .int .i64 n2, .int .i64 n3, .int .i64 kp, .int .u32 ka, .int .u16 kr] 49) = W1 at *
          generalize wr.heap.size = ga at *
          have a1 := ba.cell 1
          obtain ⟨T, hT⟩ : ∃ T, T = decide (0 ≤ x1 ∧ x1 < n) := ⟨_, rfl⟩
          refine wp_cut (fun a' wx => ∃ v : Nat → Value, a' = ⟨(frm v).toArray, []⟩ ∧ Com n (some ⟨b, o, none⟩) m cap p lb kb k v ∧ v 10 = .pointer (some ⟨ga, 0, none⟩) ∧ v 11 = .bool T ∧ W1 = wx) ?_ ?_
          rotate_left
          · intro _ _ _ _
            rcases Int.lt_or_le x1 0 with h0 | h0
            · have hd3 : decide (0 ≤ x1) = false := by simp; omega
              have hT2 : T = false := by rw [hT]; simp; omega
              clear hT
              subst hT2
              go_wp2_with fail
              refine Met.intro ?_
              go_step
              refine frm_meet (by kernel_rfl) ?_
              exact ⟨⟨rfl, rfl, rfl, rfl, rfl, rfl, rfl⟩, rfl, rfl, rfl⟩
            · have hd3 : decide (0 ≤ x1) = true := by simp; omega
              have hT2 : T = decide (x1 < n) := by rw [hT]; simp [h0]
              clear hT
              subst hT2
              go_wp2_with fail
              refine Met.intro ?_
              go_step
              refine frm_meet (by kernel_rfl) ?_
              exact ⟨⟨rfl, rfl, rfl, rfl, rfl, rfl, rfl⟩, rfl, rfl, rfl⟩
          · intro a' wx hcut
            obtain ⟨v, rfl, cm, hv10, hv11, rfl⟩ := hcut
            have hfr := frm_lit v
            rw [cm.v0, cm.v1, cm.v5, cm.v6, cm.v7, cm.v8, cm.v9, hv10, hv11] at hfr
            rw [hfr]
            clear hfr cm
            clear hv10 hv11
            replace hT := Lib.hid hT
            have a0 := ba.cell 0
            obtain ⟨q, hq, hq4⟩ := modn x0 4 (by omega)
            go_upto_block 2 with fail
            replace hq := Lib.hid hq
            clear a0 a1
            refine wp_cut (fun a' wx => ∃ v : Nat → Value, a' = ⟨(frm v).toArray, []⟩ ∧ Com n (some ⟨b, o, none⟩) m cap p lb kb k v ∧ v 10 = .pointer (some ⟨ga, 0, none⟩) ∧ v 11 = .bool T ∧ ∃ (L : List Int) (ws : List Wd) (ks : List Ky), Blk wx ga 49 #[.int .i64 x0, .int .i64 x1, .int .i64 o0, .int .i64 o1, .int .i64 o2, .int .i64 o3, .int .i64 n0, .int .i64 n1, .int .i64 n2, .int .i64 n3, .int .i64 kp, .int .u32 ka, .int .u16 kr] ∧ PA w p g h lb kb n L ws ks wx) ?_ ?_
            rotate_left
            · intro _ _ _ _
              go_upto_if 114 with fail
              refine wp_cut (fun a' wx => ∃ v : Nat → Value, a' = ⟨(frm v).toArray, []⟩ ∧ Com n (some ⟨b, o, none⟩) m cap p lb kb k v ∧ v 10 = .pointer (some ⟨ga, 0, none⟩) ∧ v 11 = .bool T ∧ v 113 = .int .i64 q ∧ v 114 = .bool (decide (q < 3)) ∧ W1 = wx) ?_ ?_
              rotate_left
              · intro _ _ _ _
                have h4 : q = 0 ∨ q = 1 ∨ q = 2 ∨ q = 3 := by omega
                clear hq hq4
                rcases h4 with rfl | rfl | rfl | rfl
                all_goals
                  go_wp2_with fail
                  refine Met.intro ?_
                  go_step
                  refine frm_meet (by kernel_rfl) ?_
                  exact ⟨⟨rfl, rfl, rfl, rfl, rfl, rfl, rfl⟩, rfl, rfl, rfl, rfl, rfl⟩
              · intro a' wx hcut
                obtain ⟨v, rfl, cm, hv10, hv11, hv113, hv114, rfl⟩ := hcut
                by_cases hq3 : q < 3
                · rw [decide_eq_true hq3] at hv114
                  have hfr := frm_lit v
                  rw [cm.v0, cm.v1, cm.v5, cm.v6, cm.v7, cm.v8, cm.v9, hv10, hv11, hv113, hv114] at hfr
                  rw [hfr]
                  clear hfr cm
                  clear hv10 hv11 hv113 hv114
                  go_upto_region 16 with fail
                  refine wp_cut (fun a' wx => ∃ v : Nat → Value, a' = ⟨(frm v).toArray, []⟩ ∧ Com n (some ⟨b, o, none⟩) m cap p lb kb k v ∧ v 10 = .pointer (some ⟨ga, 0, none⟩) ∧ v 11 = .bool T ∧ ∃ go gn, v 12 = .pointer (some ⟨go, 0, none⟩) ∧ v 13 = .pointer (some ⟨gn, 0, none⟩) ∧ AB w p g h lb kb n L ws ks ga #[.int .i64 x0, .int .i64 x1, .int .i64 o0, .int .i64 o1, .int .i64 o2, .int .i64 o3, .int .i64 n0, .int .i64 n1, .int .i64 n2, .int .i64 n3, .int .i64 kp, .int .u32 ka, .int .u16 kr] go gn ⟨o0, o1, o2, o3⟩ ⟨n0, n1, n2, n3⟩ wx) ?_ ?_
                  rotate_left
                  · intro _ _ _ _
                    obtain ⟨e1, e2⟩ := ab_new pa ba ⟨o0, o1, o2, o3⟩ ⟨n0, n1, n2, n3⟩
                    have a2 := ba.cell 2
                    have a3 := ba.cell 3
                    have a4 := ba.cell 4
                    have a5 := ba.cell 5
                    have a6 := ba.cell 6
                    have a7 := ba.cell 7
                    have a8 := ba.cell 8
                    have a9 := ba.cell 9
                    have hA : ∀ o i, (W1.alloc o).cell? ⟨ga, i, none⟩ = W1.cell? ⟨ga, i, none⟩ := fun o i => World.cell?_alloc_lt _ _ _ ba.lt
                    have hB : ∀ o o' i, ((W1.alloc o).alloc o').cell? ⟨ga, i, none⟩ = W1.cell? ⟨ga, i, none⟩ := fun o o' i => (World.cell?_alloc_lt _ _ _ (by have := ba.lt; simp; omega)).trans (World.cell?_alloc_lt _ _ _ ba.lt)
                    clear pa ba hrg hq hgk
                    go_region
                    all_goals
                      go_wp2_with fail
                      refine Met.intro ?_
                      go_step
                      refine frm_meet (by kernel_rfl) ?_
                      refine ⟨⟨rfl, rfl, rfl, rfl, rfl, rfl, rfl⟩, rfl, rfl, _, _, rfl, rfl, ?_⟩
                      first
                        | with_reducible exact e1
                        | with_reducible exact e2
                  · intro a' W2 hcut
                    obtain ⟨v, rfl, cm, hv10, hv11, go, gn, hv12, hv13, ab⟩ := hcut
                    have hfr := frm_lit v
                    rw [cm.v0, cm.v1, cm.v5, cm.v6, cm.v7, cm.v8, cm.v9, hv10, hv11, hv12, hv13] at hfr
                    rw [hfr]
                    clear hfr cm
                    clear hv10 hv11 hv12 hv13 pa ba
                    go_upto_region 17 with fail
                    obtain ⟨B, hB⟩ : ∃ B, B = (decide (q < 2) && T) := ⟨_, rfl⟩
                    refine wp_cut (fun a' wx => ∃ v : Nat → Value, a' = ⟨(frm v).toArray, []⟩ ∧ Com n (some ⟨b, o, none⟩) m cap p lb kb k v ∧ v 10 = .pointer (some ⟨ga, 0, none⟩) ∧ v 11 = .bool T ∧ v 12 = .pointer (some ⟨go, 0, none⟩) ∧ v 13 = .pointer (some ⟨gn, 0, none⟩) ∧ v 129 = .bool B ∧ W2 = wx) ?_ ?_
                    rotate_left
                    · intro _ _ _ _
                      have a0 := ab.ba.cell 0
                      have hq0 := hq.out
                      clear hq
                      rcases Nat.lt_or_ge q 2 with h2 | h2
                      · have hd4 : decide ((q : Int) < 2) = true := by simp; omega
                        rw [decide_eq_true h2, Bool.true_and] at hB
                        subst hB
                        go_wp2_with fail
                        refine Met.intro ?_
                        go_step
                        refine frm_meet (by kernel_rfl) ?_
                        exact ⟨⟨rfl, rfl, rfl, rfl, rfl, rfl, rfl⟩, rfl, rfl, rfl, rfl, rfl, rfl⟩
                      · have hd4 : decide ((q : Int) < 2) = false := by simp; omega
                        rw [decide_eq_false (by omega), Bool.false_and] at hB
                        subst hB
                        go_wp2_with fail
                        refine Met.intro ?_
                        go_step
                        refine frm_meet (by kernel_rfl) ?_
                        exact ⟨⟨rfl, rfl, rfl, rfl, rfl, rfl, rfl⟩, rfl, rfl, rfl, rfl, rfl, rfl⟩
                    · intro a' wx hcut
                      obtain ⟨v, rfl, cm, hv10, hv11, hv12, hv13, hv129, rfl⟩ := hcut
                      have hfr := frm_lit v
                      rw [cm.v0, cm.v1, cm.v5, cm.v6, cm.v7, cm.v8, cm.v9, hv10, hv11, hv12, hv13, hv129] at hfr
                      rw [hfr]
                      clear hfr cm
                      clear hv10 hv11 hv12 hv13 hv129
                      go_upto_if 129 with fail
                      refine wp_cut (fun a' wx => ∃ v : Nat → Value, a' = ⟨(frm v).toArray, []⟩ ∧ Com n (some ⟨b, o, none⟩) m cap p lb kb k v ∧ v 10 = .pointer (some ⟨ga, 0, none⟩) ∧ v 11 = .bool T ∧ v 12 = .pointer (some ⟨go, 0, none⟩) ∧ v 13 = .pointer (some ⟨gn, 0, none⟩) ∧ ∃ O N, AB w p g h lb kb n L ws ks ga #[.int .i64 x0, .int .i64 x1, .int .i64 o0, .int .i64 o1, .int .i64 o2, .int .i64 o3, .int .i64 n0, .int .i64 n1, .int .i64 n2, .int .i64 n3, .int .i64 kp, .int .u32 ka, .int .u16 kr] go gn O N wx) ?_ ?_
                      rotate_left
                      · intro _ _ _ _
                        cases B with
                        | false =>
                          go_wp2_with fail
                          refine Met.intro ?_
                          go_step
                          refine frm_meet (by kernel_rfl) ?_
                          exact ⟨⟨rfl, rfl, rfl, rfl, rfl, rfl, rfl⟩, rfl, rfl, rfl, rfl, _, _, ab⟩
                        | true =>
                          have hB2 : T = true := by
                            cases T with
                            | true => rfl
                            | false => simp at hB
                          subst hB2
                          have hx1 : 0 ≤ x1 ∧ x1 < n := of_decide_eq_true hT.out.symm
                          obtain ⟨j, rfl⟩ := Int.eq_ofNat_of_zero_le hx1.1
                          have hj : j < n := by omega
                          clear hT hB
                          obtain ⟨⟨s0, s1, s2, s3⟩, y, hx, hy, hxo, hyo, e1, e2⟩ := ab.pa.rel.get hj
                          obtain ⟨l0, l1, l2, l3⟩ := ab.pa.cel hx
                          clear e1 e2 hy
                          have a1 := ab.ba.cell 1
                          have q0 := ab.bo.cell 0
                          have q1 := ab.bo.cell 1
                          have q2 := ab.bo.cell 2
                          have q3 := ab.bo.cell 3
                          have r0 := ab.bo.frozen 0
                          have r1 := ab.bo.frozen 1
                          have r2 := ab.bo.frozen 2
                          have r3 := ab.bo.frozen 3
                          have hji : decide ((j : Int) < n) = true := by simp; omega
                          have ab3 := ab.setO4 ⟨s0, s1, s2, s3⟩
                          simp only at ab3 l0 l1 l2 l3
                          clear ab
                          go_upto_region 19 with fail
                          generalize (((W2.setCell ⟨go, 0, none⟩ (.int .i64 s0)).setCell ⟨go, 1, none⟩ (.int .i64 s1)).setCell ⟨go, 2, none⟩ (.int .i64 s2)).setCell ⟨go, 3, none⟩ (.int .i64 s3) = W3 at *
                          clear a1 q0 q1 q2 q3 r0 r1 r2 r3 l0 l1 l2 l3
                          have q1 := ab3.bo.cell 1
                          have q3 := ab3.bo.cell 3
                          have a7 := ab3.ba.cell 7
                          have a8 := ab3.ba.cell 8
                          have a9 := ab3.ba.cell 9
                          have e1 := ab3.bn.cell 1
                          have e3 := ab3.bn.cell 3
                          have f1 := ab3.bn.frozen 1
                          have f3 := ab3.bn.frozen 3
                          obtain ⟨y1, hy1⟩ : ∃ y, IntKind.i64.wrap (s1 + n1.tmod 3) = y := ⟨_, rfl⟩
                          obtain ⟨y3, hy3⟩ : ∃ y, IntKind.i64.wrap (s3 + n3.tmod 3) = y := ⟨_, rfl⟩
                          have ab4 := (ab3.setN1 y1).setN3 y3
                          clear ab3
                          go_upto_if 155 with fail
                          generalize (W3.setCell ⟨gn, 1, none⟩ (.int .i64 y1)).setCell ⟨gn, 3, none⟩ (.int .i64 y3) = W4 at *
                          clear q1 q3 a7 a8 a9 e1 e3 f1 f3 hy1 hy3
                          obtain ⟨Z, hZ⟩ : ∃ Z, Z = (n2.tmod 2 == 0) := ⟨_, rfl⟩
                          refine wp_cut (fun a' wx => ∃ v : Nat → Value, a' = ⟨(frm v).toArray, []⟩ ∧ Com n (some ⟨b, o, none⟩) m cap p lb kb k v ∧ v 10 = .pointer (some ⟨ga, 0, none⟩) ∧ v 11 = .bool true ∧ v 12 = .pointer (some ⟨go, 0, none⟩) ∧ v 13 = .pointer (some ⟨gn, 0, none⟩) ∧ ∃ N, AB w p g h lb kb n L ws ks ga #[.int .i64 x0, .int .i64 (j : Int), .int .i64 o0, .int .i64 o1, .int .i64 o2, .int .i64 o3, .int .i64 n0, .int .i64 n1, .int .i64 n2, .int .i64 n3, .int .i64 kp, .int .u32 ka, .int .u16 kr] go gn ⟨s0, s1, s2, s3⟩ N wx) ?_ ?_
                          rotate_left
                          · intro _ _ _ _
                            rw [← hZ]
                            clear hZ
                            cases Z with
                            | false =>
                              go_wp2_with fail
                              refine Met.intro ?_
                              go_step
                              refine frm_meet (by kernel_rfl) ?_
                              exact ⟨⟨rfl, rfl, rfl, rfl, rfl, rfl, rfl⟩, rfl, rfl, rfl, rfl, _, ab4⟩
                            | true =>
                              go_upto_region 22 with fail
                              have z1 : ∀ t : Tw (fun w' => Blk w' go 23 #[.int .i64 s0, .int .i64 s1, .int .i64 s2, .int .i64 s3]), t.w.cell? ⟨go, 1, none⟩ = some (.int .i64 s1) := fun t => t.h.cell 1
                              have z2 : ∀ t : Tw (fun w' => Blk w' go 23 #[.int .i64 s0, .int .i64 s1, .int .i64 s2, .int .i64 s3]), t.w.cell? ⟨go, 2, none⟩ = some (.int .i64 s2) := fun t => t.h.cell 2
                              have z3 : ∀ t : Tw (fun w' => Blk w' go 23 #[.int .i64 s0, .int .i64 s1, .int .i64 s2, .int .i64 s3]), t.w.cell? ⟨go, 3, none⟩ = some (.int .i64 s3) := fun t => t.h.cell 3
                              have : Nonempty (Tw (fun w' => Blk w' go 23 #[.int .i64 s0, .int .i64 s1, .int .i64 s2, .int .i64 s3])) := ⟨⟨_, ab4.bo⟩⟩
                              refine wp_region_plan (fun w' => Blk w' go 23 #[.int .i64 s0, .int .i64 s1, .int .i64 s2, .int .i64 s3]) [(0, true), (1, true), (2, true), (3, true), (4, true), (5, true), (6, true), (7, false), (8, true), (9, false), (10, true), (11, false)] (by kernel_rfl) (by kernel_rfl) (by kernel_rfl) (by kernel_rfl) ab4.bo.drew ?_
                              replace ab4 := ab4.drew
                              generalize W4.drew = W6 at *
                              refine wpPl_qs 7 _ _ _ (by kernel_rfl) (by kernel_rfl) (by simp) ?_
                              unfold clsS
                              simp only [List.take_succ_cons, List.take_zero, List.drop_succ_cons, List.drop_zero, List.filterMap_cons, List.filterMap_nil, List.getElem?_toArray, List.getElem?_cons_zero, List.getElem?_cons_succ]
                              repeat (first
                                | go_big_quiet_skip
                                | (go_big_quiet_want; go_big_quiet_op; go_big_quiet_on)
                                | (refine id (?_ : wpQuiet _ _ _ _ (_ :: _) _); first | go_big_quiet_skip | (go_big_quiet_want; go_big_quiet_op; go_big_quiet_on)))
                              refine wpQuiet_nil ?_
                              have i0 := ab4.bn.cell 2
                              have f0 := ab4.bn.frozen 2
                              refine wpPl_e _ (by rfl) (by kernel_rfl) (fun K hK => ?_)
                              go_simp
                              replace ab4 := ab4.setN2 s2
                              refine hK _ _ ab4.bo ?_
                              clear hK K i0 f0
                              generalize W6.setCell ⟨gn, 2, none⟩ (.int .i64 s2) = W7 at *
                              refine wpPl_qs 1 _ _ _ (by kernel_rfl) (by kernel_rfl) (by simp) ?_
                              unfold clsS
                              simp only [List.take_succ_cons, List.take_zero, List.drop_succ_cons, List.drop_zero, List.filterMap_cons, List.filterMap_nil, List.getElem?_toArray, List.getElem?_cons_zero, List.getElem?_cons_succ]
                              repeat (first
                                | go_big_quiet_skip
                                | (go_big_quiet_want; go_big_quiet_op; go_big_quiet_on)
                                | (refine id (?_ : wpQuiet _ _ _ _ (_ :: _) _); first | go_big_quiet_skip | (go_big_quiet_want; go_big_quiet_op; go_big_quiet_on)))
                              refine wpQuiet_nil ?_
                              have i0 := ab4.bn.cell 1
                              have f0 := ab4.bn.frozen 1
                              refine wpPl_e _ (by rfl) (by kernel_rfl) (fun K hK => ?_)
                              go_simp
                              replace ab4 := ab4.setN1 s1
                              refine hK _ _ ab4.bo ?_
                              clear hK K i0 f0
                              generalize W7.setCell ⟨gn, 1, none⟩ (.int .i64 s1) = W8 at *
                              refine wpPl_qs 1 _ _ _ (by kernel_rfl) (by kernel_rfl) (by simp) ?_
                              unfold clsS
                              simp only [List.take_succ_cons, List.take_zero, List.drop_succ_cons, List.drop_zero, List.filterMap_cons, List.filterMap_nil, List.getElem?_toArray, List.getElem?_cons_zero, List.getElem?_cons_succ]
                              repeat (first
                                | go_big_quiet_skip
                                | (go_big_quiet_want; go_big_quiet_op; go_big_quiet_on)
                                | (refine id (?_ : wpQuiet _ _ _ _ (_ :: _) _); first | go_big_quiet_skip | (go_big_quiet_want; go_big_quiet_op; go_big_quiet_on)))
                              refine wpQuiet_nil ?_
                              have i0 := ab4.bn.cell 3
                              have f0 := ab4.bn.frozen 3
                              refine wpPl_e _ (by rfl) (by kernel_rfl) (fun K hK => ?_)
                              go_simp
                              replace ab4 := ab4.setN3 s3
                              refine hK _ _ ab4.bo ?_
                              clear hK K i0 f0
                              generalize W8.setCell ⟨gn, 3, none⟩ (.int .i64 s3) = W9 at *
                              unfold wpPl
                              refine NoPanic.normal ?_
                              go_wp2_with fail
                              refine Met.intro ?_
                              go_step
                              refine frm_meet (by kernel_rfl) ?_
                              exact ⟨⟨rfl, rfl, rfl, rfl, rfl, rfl, rfl⟩, rfl, rfl, rfl, rfl, _, ab4⟩
                          · intro a' W5 hcut
                            obtain ⟨v, rfl, cm, hv10, hv11, hv12, hv13, ⟨z0, z1, z2, z3⟩, ab⟩ := hcut
                            have hfr := frm_lit v
                            rw [cm.v0, cm.v1, cm.v5, cm.v6, cm.v7, cm.v8, cm.v9, hv10, hv11, hv12, hv13] at hfr
                            rw [hfr]
                            clear hfr cm
                            clear hv10 hv11 hv12 hv13 ab4
                            have q0 := ab.bo.cell 0
                            have a8 := ab.ba.cell 8
                            obtain ⟨Y, hY⟩ : ∃ Y, Y = (s0 == 0) := ⟨_, rfl⟩
                            obtain ⟨Z, hZ⟩ : ∃ Z, Z = (n2.tmod 3 != 0) := ⟨_, rfl⟩
                            replace hZ := hZ.symm
                            replace hY := hY.symm
                            have ab4 := ab
                            clear ab
                            cases Y with
                            | false =>
                              go_wp2_with fail
                              refine Met.intro ?_
                              go_step
                              refine frm_meet (by kernel_rfl) ?_
                              exact ⟨⟨rfl, rfl, rfl, rfl, rfl, rfl, rfl⟩, rfl, rfl, rfl, rfl, _, _, ab4⟩
                            | true =>
                              cases Z with
                              | false =>
                                go_wp2_with fail
                                refine Met.intro ?_
                                go_step
                                refine frm_meet (by kernel_rfl) ?_
                                exact ⟨⟨rfl, rfl, rfl, rfl, rfl, rfl, rfl⟩, rfl, rfl, rfl, rfl, _, _, ab4⟩
                              | true =>
                                go_upto_region 24 with fail
                                have z1 : ∀ t : Tw (fun w' => Blk w' go 23 #[.int .i64 s0, .int .i64 s1, .int .i64 s2, .int .i64 s3]), t.w.cell? ⟨go, 1, none⟩ = some (.int .i64 s1) := fun t => t.h.cell 1
                                have : Nonempty (Tw (fun w' => Blk w' go 23 #[.int .i64 s0, .int .i64 s1, .int .i64 s2, .int .i64 s3])) := ⟨⟨_, ab4.bo⟩⟩
                                refine wp_region_plan (fun w' => Blk w' go 23 #[.int .i64 s0, .int .i64 s1, .int .i64 s2, .int .i64 s3]) [(0, true), (1, true), (2, true), (3, true), (4, true), (5, false), (6, true), (7, false)] (by kernel_rfl) (by kernel_rfl) (by kernel_rfl) (by kernel_rfl) ab4.bo.drew ?_
                                replace ab4 := ab4.drew
                                generalize W5.drew = W6 at *
                                refine wpPl_qs 5 _ _ _ (by kernel_rfl) (by kernel_rfl) (by simp) ?_
                                unfold clsS
                                simp only [List.take_succ_cons, List.take_zero, List.drop_succ_cons, List.drop_zero, List.filterMap_cons, List.filterMap_nil, List.getElem?_toArray, List.getElem?_cons_zero, List.getElem?_cons_succ]
                                repeat (first
                                  | go_big_quiet_skip
                                  | (go_big_quiet_want; go_big_quiet_op; go_big_quiet_on)
                                  | (refine id (?_ : wpQuiet _ _ _ _ (_ :: _) _); first | go_big_quiet_skip | (go_big_quiet_want; go_big_quiet_op; go_big_quiet_on)))
                                refine wpQuiet_nil ?_
                                have i0 := ab4.bn.cell 0
                                have f0 := ab4.bn.frozen 0
                                refine wpPl_e _ (by rfl) (by kernel_rfl) (fun K hK => ?_)
                                go_simp
                                replace ab4 := ab4.setN0 1
                                refine hK _ _ ab4.bo ?_
                                clear hK K i0 f0
                                generalize W6.setCell ⟨gn, 0, none⟩ (.int .i64 1) = W7 at *
                                refine wpPl_qs 1 _ _ _ (by kernel_rfl) (by kernel_rfl) (by simp) ?_
                                unfold clsS
                                simp only [List.take_succ_cons, List.take_zero, List.drop_succ_cons, List.drop_zero, List.filterMap_cons, List.filterMap_nil, List.getElem?_toArray, List.getElem?_cons_zero, List.getElem?_cons_succ]
                                repeat (first
                                  | go_big_quiet_skip
                                  | (go_big_quiet_want; go_big_quiet_op; go_big_quiet_on)
                                  | (refine id (?_ : wpQuiet _ _ _ _ (_ :: _) _); first | go_big_quiet_skip | (go_big_quiet_want; go_big_quiet_op; go_big_quiet_on)))
                                refine wpQuiet_nil ?_
                                have i0 := ab4.bn.cell 1
                                have f0 := ab4.bn.frozen 1
                                refine wpPl_e _ (by rfl) (by kernel_rfl) (fun K hK => ?_)
                                go_simp
                                have ab5 := ab4.setN1 ((wrap64 (s1 + 1)).tmod 65536)
                                refine hK _ _ ab5.bo ?_
                                clear hK K i0 f0
                                generalize W7.setCell ⟨gn, 1, none⟩ (.int .i64 ((wrap64 (s1 + 1)).tmod 65536)) = W8 at *
                                unfold wpPl
                                refine NoPanic.normal ?_
                                go_wp2_with fail
                                refine Met.intro ?_
                                go_step
                                refine frm_meet (by kernel_rfl) ?_
                                exact ⟨⟨rfl, rfl, rfl, rfl, rfl, rfl, rfl⟩, rfl, rfl, rfl, rfl, _, _, ab5⟩
                      · intro a' W3 hcut
                        obtain ⟨v, rfl, cm, hv10, hv11, hv12, hv13, ⟨s0, s1, s2, s3⟩, ⟨z0, z1, z2, z3⟩, ab3⟩ := hcut
                        have hfr := frm_lit v
                        rw [cm.v0, cm.v1, cm.v5, cm.v6, cm.v7, cm.v8, cm.v9, hv10, hv11, hv12, hv13] at hfr
                        rw [hfr]
                        clear hfr cm
                        clear hv10 hv11 hv12 hv13 ab hB B hq hq3 hq4
                        obtain ⟨C, hC⟩ : ∃ C, C = decide (T = true ∧ (Wd.mk s0 s1 s2 s3).may ⟨z0, z1, z2, z3⟩ ∧ ws[x1.toNat]? = some ⟨s0, s1, s2, s3⟩) := ⟨_, rfl⟩
                        go_upto_region 25 with fail
                        refine wp_cut (fun a' wx => ∃ v : Nat → Value, a' = ⟨(frm v).toArray, []⟩ ∧ Com n (some ⟨b, o, none⟩) m cap p lb kb k v ∧ v 10 = .pointer (some ⟨ga, 0, none⟩) ∧ v 11 = .bool T ∧ v 12 = .pointer (some ⟨go, 0, none⟩) ∧ v 13 = .pointer (some ⟨gn, 0, none⟩) ∧ v 14 = .bool C ∧ AB w p g h lb kb n L ws ks ga #[.int .i64 x0, .int .i64 x1, .int .i64 o0, .int .i64 o1, .int .i64 o2, .int .i64 o3, .int .i64 n0, .int .i64 n1, .int .i64 n2, .int .i64 n3, .int .i64 kp, .int .u32 ka, .int .u16 kr] go gn ⟨s0, s1, s2, s3⟩ ⟨z0, z1, z2, z3⟩ wx) ?_ ?_
                        rotate_left
                        · intro _ _ _ _
                          have : Nonempty (Tw (fun w' => Below W3.heap.size W3 w')) := ⟨⟨W3, Below.refl _ _⟩⟩
                          cases T with
                          | false =>
                            have hC2 : C = false := by rw [hC]; simp
                            subst hC2
                            clear hC
                            refine region_tw (fun w' => Below (W3).heap.size (W3) w') (by kernel_rfl) (by kernel_rfl) (Below.refl _ _).drew ?_
                            unfold clsS
                            repeat (first
                              | go_big_quiet_skip
                              | (go_big_quiet_want; go_big_quiet_op; first | go_big_quiet_on | go_big_quiet_call (
                                (first 
                                                          | fail))))
                            refine wpQuiet_nil ?_
                            intro tq
                            go_wp2_with fail
                            refine Met.intro ?_
                            go_step
                            refine frm_meet (by kernel_rfl) ?_
                            exact ⟨⟨rfl, rfl, rfl, rfl, rfl, rfl, rfl⟩, rfl, rfl, rfl, rfl, rfl, ab3.bel' tq.h⟩
                          | true =>
                            have hx1 : 0 ≤ x1 ∧ x1 < n := of_decide_eq_true hT.out.symm
                            obtain ⟨j, rfl⟩ := Int.eq_ofNat_of_zero_le hx1.1
                            have hj : j < n := by omega
                            clear hT
                            rw [Int.toNat_natCast] at hC
                            have y0 : ∀ t : Tw (fun w' => Below W3.heap.size W3 w'), t.w.cell? ⟨go, 0, none⟩ = some (.int .i64 s0) := fun t => ab3.bo.tw ab3.bo.lt t 0
                            have y1 : ∀ t : Tw (fun w' => Below W3.heap.size W3 w'), t.w.cell? ⟨go, 1, none⟩ = some (.int .i64 s1) := fun t => ab3.bo.tw ab3.bo.lt t 1
                            have y2 : ∀ t : Tw (fun w' => Below W3.heap.size W3 w'), t.w.cell? ⟨go, 2, none⟩ = some (.int .i64 s2) := fun t => ab3.bo.tw ab3.bo.lt t 2
                            have y3 : ∀ t : Tw (fun w' => Below W3.heap.size W3 w'), t.w.cell? ⟨go, 3, none⟩ = some (.int .i64 s3) := fun t => ab3.bo.tw ab3.bo.lt t 3
                            have e0 : ∀ t : Tw (fun w' => Below W3.heap.size W3 w'), t.w.cell? ⟨gn, 0, none⟩ = some (.int .i64 z0) := fun t => ab3.bn.tw ab3.bn.lt t 0
                            have e1 : ∀ t : Tw (fun w' => Below W3.heap.size W3 w'), t.w.cell? ⟨gn, 1, none⟩ = some (.int .i64 z1) := fun t => ab3.bn.tw ab3.bn.lt t 1
                            have e2 : ∀ t : Tw (fun w' => Below W3.heap.size W3 w'), t.w.cell? ⟨gn, 2, none⟩ = some (.int .i64 z2) := fun t => ab3.bn.tw ab3.bn.lt t 2
                            have e3 : ∀ t : Tw (fun w' => Below W3.heap.size W3 w'), t.w.cell? ⟨gn, 3, none⟩ = some (.int .i64 z3) := fun t => ab3.bn.tw ab3.bn.lt t 3
                            obtain ⟨M, hM⟩ : ∃ M, M = decide ((Wd.mk s0 s1 s2 s3).may ⟨z0, z1, z2, z3⟩) := ⟨_, rfl⟩
                            have hrM := fun W => rMay_any s0 s1 s2 s3 z0 z1 z2 z3 W
                            rw [← hM] at hrM
                            replace hrM := Lib.hid hrM
                            cases M with
                            | false =>
                              have hC2 : C = false := by rw [hC]; exact decide_eq_false fun hh => of_decide_eq_false hM.symm hh.2.1
                              subst hC2
                              clear hC hM
                              refine region_tw (fun w' => Below (W3).heap.size (W3) w') (by kernel_rfl) (by kernel_rfl) (Below.refl _ _).drew ?_
                              unfold clsS
                              repeat (first
                                | go_big_quiet_skip
                                | (go_big_quiet_want; go_big_quiet_op; first | go_big_quiet_on | go_big_quiet_call (
                                  (first 
                                                              | (go_at_call 17; exact q_tw (Nat.le_refl _) (hrM.out _))))))
                              refine wpQuiet_nil ?_
                              intro tq
                              go_wp2_with fail
                              refine Met.intro ?_
                              go_step
                              refine frm_meet (by kernel_rfl) ?_
                              exact ⟨⟨rfl, rfl, rfl, rfl, rfl, rfl, rfl⟩, rfl, rfl, rfl, rfl, rfl, ab3.bel' tq.h⟩
                            | true =>
                              have hm2 := of_decide_eq_true hM.symm
                              obtain ⟨⟨t0, t1, t2, t3⟩, y, hx, hy, hxo, hyo, h1, h2⟩ := ab3.pa.rel.get hj
                              have hC2 : C = (t0 == s0 && (t1 == s1 && (t2 == s2 && t3 == s3))) := by
                                rw [hC, hx]
                                simp [hm2, Bool.beq_eq_decide_eq]
                              clear hC hM hm2 h1 h2 hy
                              have ha1 : ∀ t : Tw (fun w' => Below W3.heap.size W3 w'), t.w.cell? ⟨ga, 1, none⟩ = some (.int .i64 (j : Int)) := fun t => ab3.ba.tw ab3.ba.lt t 1
                              have l0 : ∀ t : Tw (fun w' => Below W3.heap.size W3 w'), t.w.cell? ⟨lb, j * 4, none⟩ = some (.int .i64 t0) := fun t => ((ab3.pa.bel' t.h).cel hx).1
                              have l1 : ∀ t : Tw (fun w' => Below W3.heap.size W3 w'), t.w.cell? ⟨lb, j * 4 + 1, none⟩ = some (.int .i64 t1) := fun t => ((ab3.pa.bel' t.h).cel hx).2.1
                              have l2 : ∀ t : Tw (fun w' => Below W3.heap.size W3 w'), t.w.cell? ⟨lb, j * 4 + 2, none⟩ = some (.int .i64 t2) := fun t => ((ab3.pa.bel' t.h).cel hx).2.2.1
                              have l3 : ∀ t : Tw (fun w' => Below W3.heap.size W3 w'), t.w.cell? ⟨lb, j * 4 + 3, none⟩ = some (.int .i64 t3) := fun t => ((ab3.pa.bel' t.h).cel hx).2.2.2
                              have hw1 : IntKind.i64.wrap ((n : Int) - 1) = (n : Int) - 1 := by rw [IntKind.wrap_i64]; omega
                              have hmn : (if (j : Int) < (n : Int) - 1 then (j : Int) else (n : Int) - 1) = (j : Int) := by split <;> omega
                              have hj0 : (0 : Int) ≤ j := by omega
                              have hjn : (j : Int) < n := by omega
                              rcases Bool.eq_false_or_eq_true (t0 == s0) with hb0 | hb0
                              rotate_left
                              · obtain rfl : C = false := by rw [hC2]; simp_all
                                clear hC2
                                refine region_tw (fun w' => Below (W3).heap.size (W3) w') (by kernel_rfl) (by kernel_rfl) (Below.refl _ _).drew ?_
                                unfold clsS
                                repeat (first
                                  | go_big_quiet_skip
                                  | (go_big_quiet_want; go_big_quiet_op; first | go_big_quiet_on | go_big_quiet_call (
                                    (first 
                                                                  | (go_at_call 17; exact q_tw (Nat.le_refl _) (hrM.out _))))))
                                refine wpQuiet_nil ?_
                                intro tq
                                go_wp2_with fail
                                refine Met.intro ?_
                                go_step
                                refine frm_meet (by kernel_rfl) ?_
                                exact ⟨⟨rfl, rfl, rfl, rfl, rfl, rfl, rfl⟩, rfl, rfl, rfl, rfl, rfl, ab3.bel' tq.h⟩
                              obtain rfl : t0 = s0 := by simpa using hb0
                              rcases Bool.eq_false_or_eq_true (t1 == s1) with hb1 | hb1
                              rotate_left
                              · obtain rfl : C = false := by rw [hC2]; simp_all
                                clear hC2
                                refine region_tw (fun w' => Below (W3).heap.size (W3) w') (by kernel_rfl) (by kernel_rfl) (Below.refl _ _).drew ?_
                                unfold clsS
                                repeat (first
                                  | go_big_quiet_skip
                                  | (go_big_quiet_want; go_big_quiet_op; first | go_big_quiet_on | go_big_quiet_call (
                                    (first 
                                                                  | (go_at_call 17; exact q_tw (Nat.le_refl _) (hrM.out _))))))
                                refine wpQuiet_nil ?_
                                intro tq
                                go_wp2_with fail
                                refine Met.intro ?_
                                go_step
                                refine frm_meet (by kernel_rfl) ?_
                                exact ⟨⟨rfl, rfl, rfl, rfl, rfl, rfl, rfl⟩, rfl, rfl, rfl, rfl, rfl, ab3.bel' tq.h⟩
                              obtain rfl : t1 = s1 := by simpa using hb1
                              rcases Bool.eq_false_or_eq_true (t2 == s2) with hb2 | hb2
                              rotate_left
                              · obtain rfl : C = false := by rw [hC2]; simp_all
                                clear hC2
                                refine region_tw (fun w' => Below (W3).heap.size (W3) w') (by kernel_rfl) (by kernel_rfl) (Below.refl _ _).drew ?_
                                unfold clsS
                                repeat (first
                                  | go_big_quiet_skip
                                  | (go_big_quiet_want; go_big_quiet_op; first | go_big_quiet_on | go_big_quiet_call (
                                    (first 
                                                                  | (go_at_call 17; exact q_tw (Nat.le_refl _) (hrM.out _))))))
                                refine wpQuiet_nil ?_
                                intro tq
                                go_wp2_with fail
                                refine Met.intro ?_
                                go_step
                                refine frm_meet (by kernel_rfl) ?_
                                exact ⟨⟨rfl, rfl, rfl, rfl, rfl, rfl, rfl⟩, rfl, rfl, rfl, rfl, rfl, ab3.bel' tq.h⟩
                              obtain rfl : t2 = s2 := by simpa using hb2
                              rcases Bool.eq_false_or_eq_true (t3 == s3) with hb3 | hb3
                              rotate_left
                              · obtain rfl : C = false := by rw [hC2]; simp_all
                                clear hC2
                                refine region_tw (fun w' => Below (W3).heap.size (W3) w') (by kernel_rfl) (by kernel_rfl) (Below.refl _ _).drew ?_
                                unfold clsS
                                repeat (first
                                  | go_big_quiet_skip
                                  | (go_big_quiet_want; go_big_quiet_op; first | go_big_quiet_on | go_big_quiet_call (
                                    (first 
                                                                  | (go_at_call 17; exact q_tw (Nat.le_refl _) (hrM.out _))))))
                                refine wpQuiet_nil ?_
                                intro tq
                                go_wp2_with fail
                                refine Met.intro ?_
                                go_step
                                refine frm_meet (by kernel_rfl) ?_
                                exact ⟨⟨rfl, rfl, rfl, rfl, rfl, rfl, rfl⟩, rfl, rfl, rfl, rfl, rfl, ab3.bel' tq.h⟩
                              obtain rfl : t3 = s3 := by simpa using hb3
                              obtain rfl : C = true := by rw [hC2]; simp_all
                              clear hC2
                              refine region_tw (fun w' => Below (W3).heap.size (W3) w') (by kernel_rfl) (by kernel_rfl) (Below.refl _ _).drew ?_
                              unfold clsS
                              repeat (first
                                | go_big_quiet_skip
                                | (go_big_quiet_want; go_big_quiet_op; first | go_big_quiet_on | go_big_quiet_call (
                                  (first 
                                                              | (go_at_call 17; exact q_tw (Nat.le_refl _) (hrM.out _))))))
                              refine wpQuiet_nil ?_
                              intro tq
                              go_wp2_with fail
                              refine Met.intro ?_
                              go_step
                              refine frm_meet (by kernel_rfl) ?_
                              exact ⟨⟨rfl, rfl, rfl, rfl, rfl, rfl, rfl⟩, rfl, rfl, rfl, rfl, rfl, ab3.bel' tq.h⟩
                        · intro a' W4 hcut
                          obtain ⟨v, rfl, cm, hv10, hv11, hv12, hv13, hv14, ab4⟩ := hcut
                          have hfr := frm_lit v
                          rw [cm.v0, cm.v1, cm.v5, cm.v6, cm.v7, cm.v8, cm.v9, hv10, hv11, hv12, hv13, hv14] at hfr
                          rw [hfr]
                          clear hfr cm
                          clear hv10 hv11 hv12 hv13 hv14 ab3
                          have hct := cas_test ab4.pa.rel x1 ⟨s0, s1, s2, s3⟩ ⟨z0, z1, z2, z3⟩ T hT.out
                          rw [← hC] at hct
                          go_upto_region 26 with fail
                          cases C with
                          | false =>
                            replace hC := Lib.hid hC
                            have ha1 : ∀ t : Tw (fun w' => Blk w' ga 49 #[.int .i64 x0, .int .i64 x1, .int .i64 o0, .int .i64 o1, .int .i64 o2, .int .i64 o3, .int .i64 n0, .int .i64 n1, .int .i64 n2, .int .i64 n3, .int .i64 kp, .int .u32 ka, .int .u16 kr] ∧ Blk w' go 23 #[.int .i64 s0, .int .i64 s1, .int .i64 s2, .int .i64 s3] ∧ Blk w' gn 23 #[.int .i64 z0, .int .i64 z1, .int .i64 z2, .int .i64 z3]), t.w.cell? ⟨ga, 1, none⟩ = some (.int .i64 x1) := fun t => t.h.1.cell 1
                            have y0 : ∀ t : Tw (fun w' => Blk w' ga 49 #[.int .i64 x0, .int .i64 x1, .int .i64 o0, .int .i64 o1, .int .i64 o2, .int .i64 o3, .int .i64 n0, .int .i64 n1, .int .i64 n2, .int .i64 n3, .int .i64 kp, .int .u32 ka, .int .u16 kr] ∧ Blk w' go 23 #[.int .i64 s0, .int .i64 s1, .int .i64 s2, .int .i64 s3] ∧ Blk w' gn 23 #[.int .i64 z0, .int .i64 z1, .int .i64 z2, .int .i64 z3]), t.w.cell? ⟨go, 0, none⟩ = some (.int .i64 s0) := fun t => t.h.2.1.cell 0
                            have e0 : ∀ t : Tw (fun w' => Blk w' ga 49 #[.int .i64 x0, .int .i64 x1, .int .i64 o0, .int .i64 o1, .int .i64 o2, .int .i64 o3, .int .i64 n0, .int .i64 n1, .int .i64 n2, .int .i64 n3, .int .i64 kp, .int .u32 ka, .int .u16 kr] ∧ Blk w' go 23 #[.int .i64 s0, .int .i64 s1, .int .i64 s2, .int .i64 s3] ∧ Blk w' gn 23 #[.int .i64 z0, .int .i64 z1, .int .i64 z2, .int .i64 z3]), t.w.cell? ⟨gn, 0, none⟩ = some (.int .i64 z0) := fun t => t.h.2.2.cell 0
                            have y1 : ∀ t : Tw (fun w' => Blk w' ga 49 #[.int .i64 x0, .int .i64 x1, .int .i64 o0, .int .i64 o1, .int .i64 o2, .int .i64 o3, .int .i64 n0, .int .i64 n1, .int .i64 n2, .int .i64 n3, .int .i64 kp, .int .u32 ka, .int .u16 kr] ∧ Blk w' go 23 #[.int .i64 s0, .int .i64 s1, .int .i64 s2, .int .i64 s3] ∧ Blk w' gn 23 #[.int .i64 z0, .int .i64 z1, .int .i64 z2, .int .i64 z3]), t.w.cell? ⟨go, 1, none⟩ = some (.int .i64 s1) := fun t => t.h.2.1.cell 1
                            have e1 : ∀ t : Tw (fun w' => Blk w' ga 49 #[.int .i64 x0, .int .i64 x1, .int .i64 o0, .int .i64 o1, .int .i64 o2, .int .i64 o3, .int .i64 n0, .int .i64 n1, .int .i64 n2, .int .i64 n3, .int .i64 kp, .int .u32 ka, .int .u16 kr] ∧ Blk w' go 23 #[.int .i64 s0, .int .i64 s1, .int .i64 s2, .int .i64 s3] ∧ Blk w' gn 23 #[.int .i64 z0, .int .i64 z1, .int .i64 z2, .int .i64 z3]), t.w.cell? ⟨gn, 1, none⟩ = some (.int .i64 z1) := fun t => t.h.2.2.cell 1
                            have y2 : ∀ t : Tw (fun w' => Blk w' ga 49 #[.int .i64 x0, .int .i64 x1, .int .i64 o0, .int .i64 o1, .int .i64 o2, .int .i64 o3, .int .i64 n0, .int .i64 n1, .int .i64 n2, .int .i64 n3, .int .i64 kp, .int .u32 ka, .int .u16 kr] ∧ Blk w' go 23 #[.int .i64 s0, .int .i64 s1, .int .i64 s2, .int .i64 s3] ∧ Blk w' gn 23 #[.int .i64 z0, .int .i64 z1, .int .i64 z2, .int .i64 z3]), t.w.cell? ⟨go, 2, none⟩ = some (.int .i64 s2) := fun t => t.h.2.1.cell 2
                            have e2 : ∀ t : Tw (fun w' => Blk w' ga 49 #[.int .i64 x0, .int .i64 x1, .int .i64 o0, .int .i64 o1, .int .i64 o2, .int .i64 o3, .int .i64 n0, .int .i64 n1, .int .i64 n2, .int .i64 n3, .int .i64 kp, .int .u32 ka, .int .u16 kr] ∧ Blk w' go 23 #[.int .i64 s0, .int .i64 s1, .int .i64 s2, .int .i64 s3] ∧ Blk w' gn 23 #[.int .i64 z0, .int .i64 z1, .int .i64 z2, .int .i64 z3]), t.w.cell? ⟨gn, 2, none⟩ = some (.int .i64 z2) := fun t => t.h.2.2.cell 2
                            have y3 : ∀ t : Tw (fun w' => Blk w' ga 49 #[.int .i64 x0, .int .i64 x1, .int .i64 o0, .int .i64 o1, .int .i64 o2, .int .i64 o3, .int .i64 n0, .int .i64 n1, .int .i64 n2, .int .i64 n3, .int .i64 kp, .int .u32 ka, .int .u16 kr] ∧ Blk w' go 23 #[.int .i64 s0, .int .i64 s1, .int .i64 s2, .int .i64 s3] ∧ Blk w' gn 23 #[.int .i64 z0, .int .i64 z1, .int .i64 z2, .int .i64 z3]), t.w.cell? ⟨go, 3, none⟩ = some (.int .i64 s3) := fun t => t.h.2.1.cell 3
                            have e3 : ∀ t : Tw (fun w' => Blk w' ga 49 #[.int .i64 x0, .int .i64 x1, .int .i64 o0, .int .i64 o1, .int .i64 o2, .int .i64 o3, .int .i64 n0, .int .i64 n1, .int .i64 n2, .int .i64 n3, .int .i64 kp, .int .u32 ka, .int .u16 kr] ∧ Blk w' go 23 #[.int .i64 s0, .int .i64 s1, .int .i64 s2, .int .i64 s3] ∧ Blk w' gn 23 #[.int .i64 z0, .int .i64 z1, .int .i64 z2, .int .i64 z3]), t.w.cell? ⟨gn, 3, none⟩ = some (.int .i64 z3) := fun t => t.h.2.2.cell 3
                            have : Nonempty (Tw (fun w' => Blk w' ga 49 #[.int .i64 x0, .int .i64 x1, .int .i64 o0, .int .i64 o1, .int .i64 o2, .int .i64 o3, .int .i64 n0, .int .i64 n1, .int .i64 n2, .int .i64 n3, .int .i64 kp, .int .u32 ka, .int .u16 kr] ∧ Blk w' go 23 #[.int .i64 s0, .int .i64 s1, .int .i64 s2, .int .i64 s3] ∧ Blk w' gn 23 #[.int .i64 z0, .int .i64 z1, .int .i64 z2, .int .i64 z3])) := ⟨⟨_, ab4.ba, ab4.bo, ab4.bn⟩⟩
                            refine wp_region_plan (fun w' => Blk w' ga 49 #[.int .i64 x0, .int .i64 x1, .int .i64 o0, .int .i64 o1, .int .i64 o2, .int .i64 o3, .int .i64 n0, .int .i64 n1, .int .i64 n2, .int .i64 n3, .int .i64 kp, .int .u32 ka, .int .u16 kr] ∧ Blk w' go 23 #[.int .i64 s0, .int .i64 s1, .int .i64 s2, .int .i64 s3] ∧ Blk w' gn 23 #[.int .i64 z0, .int .i64 z1, .int .i64 z2, .int .i64 z3]) [(0, true), (1, true), (2, true), (3, true), (5, true), (8, true), (4, false), (6, false), (7, false), (9, true)] (by kernel_rfl) (by kernel_rfl) (by kernel_rfl) (by kernel_rfl) ⟨ab4.ba.drew, ab4.bo.drew, ab4.bn.drew⟩ ?_
                            replace ab4 := ab4.drew
                            generalize W4.drew = W5 at *
                            refine wpPl_qs 6 _ _ _ (by kernel_rfl) (by kernel_rfl) (by simp) ?_
                            unfold clsS
                            simp only [List.take_succ_cons, List.take_zero, List.drop_succ_cons, List.drop_zero, List.filterMap_cons, List.filterMap_nil, List.getElem?_toArray, List.getElem?_cons_zero, List.getElem?_cons_succ]
                            repeat (first
                              | go_big_quiet_skip
                              | (go_big_quiet_want; go_big_quiet_op; go_big_quiet_on)
                              | (refine id (?_ : wpQuiet _ _ _ _ (_ :: _) _); first | go_big_quiet_skip | (go_big_quiet_want; go_big_quiet_op; go_big_quiet_on)))
                            refine wpQuiet_nil ?_
                            refine wpPl_e _ (by rfl) (by kernel_rfl) (fun K hK => ?_)
                            go_simp
                            refine (To_any _ _ _ _ _).mono ?_
                            rintro r u1 ⟨rfl, q1⟩
                            replace ab4 := ab4.bel' q1
                            refine hK _ _ ⟨ab4.ba, ab4.bo, ab4.bn⟩ ?_
                            clear hK K q1
                            refine wpPl_e _ (by rfl) (by kernel_rfl) (fun K hK => ?_)
                            go_simp
                            refine (To_any _ _ _ _ _).mono ?_
                            rintro r u2 ⟨rfl, q2⟩
                            replace ab4 := ab4.bel' q2
                            refine hK _ _ ⟨ab4.ba, ab4.bo, ab4.bn⟩ ?_
                            clear hK K q2
                            refine wpPl_e _ (by rfl) (by kernel_rfl) (fun K hK => ?_)
                            go_simp
                            refine (PlCas_any x1 s0 s1 s2 s3 z0 z1 z2 z3 p g h n L _ ab4.pa.pl hn2 false hct).mono ?_
                            rintro r u3 ⟨rfl, pl3, up3⟩
                            have hah : ga ≠ h := Ne.symm (ab4.pa.pl.cel.row.ne_ ab4.ba (by decide))
                            have hoh : go ≠ h := Ne.symm (ab4.pa.pl.cel.row.ne_ ab4.bo (by decide))
                            have hnh : gn ≠ h := Ne.symm (ab4.pa.pl.cel.row.ne_ ab4.bn (by decide))
                            have ba5 := ab4.ba.upd up3 hah
                            have bo5 := ab4.bo.upd up3 hoh
                            have bn5 := ab4.bn.upd up3 hnh
                            refine hK _ _ ⟨ba5, bo5, bn5⟩ ?_
                            clear hK K
                            refine wpPl_qs 1 _ _ _ (by kernel_rfl) (by kernel_rfl) (by simp) ?_
                            unfold clsS
                            simp only [List.take_succ_cons, List.take_zero, List.drop_succ_cons, List.drop_zero, List.filterMap_cons, List.filterMap_nil, List.getElem?_toArray, List.getElem?_cons_zero, List.getElem?_cons_succ]
                            repeat (first
                              | go_big_quiet_skip
                              | (go_big_quiet_want; go_big_quiet_op; go_big_quiet_on)
                              | (refine id (?_ : wpQuiet _ _ _ _ (_ :: _) _); first | go_big_quiet_skip | (go_big_quiet_want; go_big_quiet_op; go_big_quiet_on)))
                            refine wpQuiet_nil ?_
                            unfold wpPl
                            refine NoPanic.normal ?_
                            clear y0 e0 y1 e1 y2 e2 y3 e3 ha1 this
                            have pa5 := ab4.pa.casno (u := u3) pl3 up3
                            clear ab4 pl3 up3
                            go_wp2_with fail
                            refine Met.intro ?_
                            go_step
                            refine frm_meet (by kernel_rfl) ?_
                            exact ⟨⟨rfl, rfl, rfl, rfl, rfl, rfl, rfl⟩, rfl, rfl, _, _, _, ba5, pa5⟩
                          | true =>
                            obtain ⟨hT1, hmay, hws⟩ := of_decide_eq_true hC.symm
                            subst hT1
                            have hx1 : 0 ≤ x1 ∧ x1 < n := of_decide_eq_true hT.out.symm
                            obtain ⟨j, rfl⟩ := Int.eq_ofNat_of_zero_le hx1.1
                            have hj : j < n := by omega
                            clear hT hC hws
                            have ha1 : ∀ t : Tw (fun w' => Blk w' ga 49 #[.int .i64 x0, .int .i64 (j : Int), .int .i64 o0, .int .i64 o1, .int .i64 o2, .int .i64 o3, .int .i64 n0, .int .i64 n1, .int .i64 n2, .int .i64 n3, .int .i64 kp, .int .u32 ka, .int .u16 kr] ∧ Blk w' go 23 #[.int .i64 s0, .int .i64 s1, .int .i64 s2, .int .i64 s3] ∧ Blk w' gn 23 #[.int .i64 z0, .int .i64 z1, .int .i64 z2, .int .i64 z3]), t.w.cell? ⟨ga, 1, none⟩ = some (.int .i64 (j : Int)) := fun t => t.h.1.cell 1
                            have y0 : ∀ t : Tw (fun w' => Blk w' ga 49 #[.int .i64 x0, .int .i64 (j : Int), .int .i64 o0, .int .i64 o1, .int .i64 o2, .int .i64 o3, .int .i64 n0, .int .i64 n1, .int .i64 n2, .int .i64 n3, .int .i64 kp, .int .u32 ka, .int .u16 kr] ∧ Blk w' go 23 #[.int .i64 s0, .int .i64 s1, .int .i64 s2, .int .i64 s3] ∧ Blk w' gn 23 #[.int .i64 z0, .int .i64 z1, .int .i64 z2, .int .i64 z3]), t.w.cell? ⟨go, 0, none⟩ = some (.int .i64 s0) := fun t => t.h.2.1.cell 0
                            have e0 : ∀ t : Tw (fun w' => Blk w' ga 49 #[.int .i64 x0, .int .i64 (j : Int), .int .i64 o0, .int .i64 o1, .int .i64 o2, .int .i64 o3, .int .i64 n0, .int .i64 n1, .int .i64 n2, .int .i64 n3, .int .i64 kp, .int .u32 ka, .int .u16 kr] ∧ Blk w' go 23 #[.int .i64 s0, .int .i64 s1, .int .i64 s2, .int .i64 s3] ∧ Blk w' gn 23 #[.int .i64 z0, .int .i64 z1, .int .i64 z2, .int .i64 z3]), t.w.cell? ⟨gn, 0, none⟩ = some (.int .i64 z0) := fun t => t.h.2.2.cell 0
                            have y1 : ∀ t : Tw (fun w' => Blk w' ga 49 #[.int .i64 x0, .int .i64 (j : Int), .int .i64 o0, .int .i64 o1, .int .i64 o2, .int .i64 o3, .int .i64 n0, .int .i64 n1, .int .i64 n2, .int .i64 n3, .int .i64 kp, .int .u32 ka, .int .u16 kr] ∧ Blk w' go 23 #[.int .i64 s0, .int .i64 s1, .int .i64 s2, .int .i64 s3] ∧ Blk w' gn 23 #[.int .i64 z0, .int .i64 z1, .int .i64 z2, .int .i64 z3]), t.w.cell? ⟨go, 1, none⟩ = some (.int .i64 s1) := fun t => t.h.2.1.cell 1
                            have e1 : ∀ t : Tw (fun w' => Blk w' ga 49 #[.int .i64 x0, .int .i64 (j : Int), .int .i64 o0, .int .i64 o1, .int .i64 o2, .int .i64 o3, .int .i64 n0, .int .i64 n1, .int .i64 n2, .int .i64 n3, .int .i64 kp, .int .u32 ka, .int .u16 kr] ∧ Blk w' go 23 #[.int .i64 s0, .int .i64 s1, .int .i64 s2, .int .i64 s3] ∧ Blk w' gn 23 #[.int .i64 z0, .int .i64 z1, .int .i64 z2, .int .i64 z3]), t.w.cell? ⟨gn, 1, none⟩ = some (.int .i64 z1) := fun t => t.h.2.2.cell 1
                            have y2 : ∀ t : Tw (fun w' => Blk w' ga 49 #[.int .i64 x0, .int .i64 (j : Int), .int .i64 o0, .int .i64 o1, .int .i64 o2, .int .i64 o3, .int .i64 n0, .int .i64 n1, .int .i64 n2, .int .i64 n3, .int .i64 kp, .int .u32 ka, .int .u16 kr] ∧ Blk w' go 23 #[.int .i64 s0, .int .i64 s1, .int .i64 s2, .int .i64 s3] ∧ Blk w' gn 23 #[.int .i64 z0, .int .i64 z1, .int .i64 z2, .int .i64 z3]), t.w.cell? ⟨go, 2, none⟩ = some (.int .i64 s2) := fun t => t.h.2.1.cell 2
                            have e2 : ∀ t : Tw (fun w' => Blk w' ga 49 #[.int .i64 x0, .int .i64 (j : Int), .int .i64 o0, .int .i64 o1, .int .i64 o2, .int .i64 o3, .int .i64 n0, .int .i64 n1, .int .i64 n2, .int .i64 n3, .int .i64 kp, .int .u32 ka, .int .u16 kr] ∧ Blk w' go 23 #[.int .i64 s0, .int .i64 s1, .int .i64 s2, .int .i64 s3] ∧ Blk w' gn 23 #[.int .i64 z0, .int .i64 z1, .int .i64 z2, .int .i64 z3]), t.w.cell? ⟨gn, 2, none⟩ = some (.int .i64 z2) := fun t => t.h.2.2.cell 2
                            have y3 : ∀ t : Tw (fun w' => Blk w' ga 49 #[.int .i64 x0, .int .i64 (j : Int), .int .i64 o0, .int .i64 o1, .int .i64 o2, .int .i64 o3, .int .i64 n0, .int .i64 n1, .int .i64 n2, .int .i64 n3, .int .i64 kp, .int .u32 ka, .int .u16 kr] ∧ Blk w' go 23 #[.int .i64 s0, .int .i64 s1, .int .i64 s2, .int .i64 s3] ∧ Blk w' gn 23 #[.int .i64 z0, .int .i64 z1, .int .i64 z2, .int .i64 z3]), t.w.cell? ⟨go, 3, none⟩ = some (.int .i64 s3) := fun t => t.h.2.1.cell 3
                            have e3 : ∀ t : Tw (fun w' => Blk w' ga 49 #[.int .i64 x0, .int .i64 (j : Int), .int .i64 o0, .int .i64 o1, .int .i64 o2, .int .i64 o3, .int .i64 n0, .int .i64 n1, .int .i64 n2, .int .i64 n3, .int .i64 kp, .int .u32 ka, .int .u16 kr] ∧ Blk w' go 23 #[.int .i64 s0, .int .i64 s1, .int .i64 s2, .int .i64 s3] ∧ Blk w' gn 23 #[.int .i64 z0, .int .i64 z1, .int .i64 z2, .int .i64 z3]), t.w.cell? ⟨gn, 3, none⟩ = some (.int .i64 z3) := fun t => t.h.2.2.cell 3
                            have : Nonempty (Tw (fun w' => Blk w' ga 49 #[.int .i64 x0, .int .i64 (j : Int), .int .i64 o0, .int .i64 o1, .int .i64 o2, .int .i64 o3, .int .i64 n0, .int .i64 n1, .int .i64 n2, .int .i64 n3, .int .i64 kp, .int .u32 ka, .int .u16 kr] ∧ Blk w' go 23 #[.int .i64 s0, .int .i64 s1, .int .i64 s2, .int .i64 s3] ∧ Blk w' gn 23 #[.int .i64 z0, .int .i64 z1, .int .i64 z2, .int .i64 z3])) := ⟨⟨_, ab4.ba, ab4.bo, ab4.bn⟩⟩
                            refine wp_region_plan (fun w' => Blk w' ga 49 #[.int .i64 x0, .int .i64 (j : Int), .int .i64 o0, .int .i64 o1, .int .i64 o2, .int .i64 o3, .int .i64 n0, .int .i64 n1, .int .i64 n2, .int .i64 n3, .int .i64 kp, .int .u32 ka, .int .u16 kr] ∧ Blk w' go 23 #[.int .i64 s0, .int .i64 s1, .int .i64 s2, .int .i64 s3] ∧ Blk w' gn 23 #[.int .i64 z0, .int .i64 z1, .int .i64 z2, .int .i64 z3]) [(0, true), (1, true), (2, true), (3, true), (5, true), (8, true), (4, false), (6, false), (7, false), (9, true)] (by kernel_rfl) (by kernel_rfl) (by kernel_rfl) (by kernel_rfl) ⟨ab4.ba.drew, ab4.bo.drew, ab4.bn.drew⟩ ?_
                            replace ab4 := ab4.drew
                            generalize W4.drew = W5 at *
                            refine wpPl_qs 6 _ _ _ (by kernel_rfl) (by kernel_rfl) (by simp) ?_
                            unfold clsS
                            simp only [List.take_succ_cons, List.take_zero, List.drop_succ_cons, List.drop_zero, List.filterMap_cons, List.filterMap_nil, List.getElem?_toArray, List.getElem?_cons_zero, List.getElem?_cons_succ]
                            repeat (first
                              | go_big_quiet_skip
                              | (go_big_quiet_want; go_big_quiet_op; go_big_quiet_on)
                              | (refine id (?_ : wpQuiet _ _ _ _ (_ :: _) _); first | go_big_quiet_skip | (go_big_quiet_want; go_big_quiet_op; go_big_quiet_on)))
                            refine wpQuiet_nil ?_
                            refine wpPl_e _ (by rfl) (by kernel_rfl) (fun K hK => ?_)
                            go_simp
                            refine (To_any _ _ _ _ _).mono ?_
                            rintro r u1 ⟨rfl, q1⟩
                            replace ab4 := ab4.bel' q1
                            refine hK _ _ ⟨ab4.ba, ab4.bo, ab4.bn⟩ ?_
                            clear hK K q1
                            refine wpPl_e _ (by rfl) (by kernel_rfl) (fun K hK => ?_)
                            go_simp
                            refine (To_any _ _ _ _ _).mono ?_
                            rintro r u2 ⟨rfl, q2⟩
                            replace ab4 := ab4.bel' q2
                            refine hK _ _ ⟨ab4.ba, ab4.bo, ab4.bn⟩ ?_
                            clear hK K q2
                            refine wpPl_e _ (by rfl) (by kernel_rfl) (fun K hK => ?_)
                            go_simp
                            refine (PlCas_any (j : Int) s0 s1 s2 s3 z0 z1 z2 z3 p g h n L _ ab4.pa.pl hn2 true hct).mono ?_
                            rintro r u3 ⟨rfl, pl3, up3⟩
                            have hah : ga ≠ h := Ne.symm (ab4.pa.pl.cel.row.ne_ ab4.ba (by decide))
                            have hoh : go ≠ h := Ne.symm (ab4.pa.pl.cel.row.ne_ ab4.bo (by decide))
                            have hnh : gn ≠ h := Ne.symm (ab4.pa.pl.cel.row.ne_ ab4.bn (by decide))
                            have ba5 := ab4.ba.upd up3 hah
                            have bo5 := ab4.bo.upd up3 hoh
                            have bn5 := ab4.bn.upd up3 hnh
                            refine hK _ _ ⟨ba5, bo5, bn5⟩ ?_
                            clear hK K
                            refine wpPl_qs 1 _ _ _ (by kernel_rfl) (by kernel_rfl) (by simp) ?_
                            unfold clsS
                            simp only [List.take_succ_cons, List.take_zero, List.drop_succ_cons, List.drop_zero, List.filterMap_cons, List.filterMap_nil, List.getElem?_toArray, List.getElem?_cons_zero, List.getElem?_cons_succ]
                            repeat (first
                              | go_big_quiet_skip
                              | (go_big_quiet_want; go_big_quiet_op; go_big_quiet_on)
                              | (refine id (?_ : wpQuiet _ _ _ _ (_ :: _) _); first | go_big_quiet_skip | (go_big_quiet_want; go_big_quiet_op; go_big_quiet_on)))
                            refine wpQuiet_nil ?_
                            unfold wpPl
                            refine NoPanic.normal ?_
                            clear y0 e0 y1 e1 y2 e2 y3 e3 ha1 this
                            have pl4 : Pl u3 p g h n (celSet L (2 * (j : Int)) (Wd.mk z0 z1 z2 z3).num) := pl3
                            have pa5 := ab4.pa.cas hj hmay.2.1 pl4 up3
                            have hlh : lb ≠ h := Ne.symm (ab4.pa.pl.cel.row.ne_ ab4.pa.bw (by decide))
                            have hal : ga ≠ lb := ba5.ne_ (ab4.pa.bw.upd up3 hlh) (by decide)
                            have bw5 := ab4.pa.bw.upd up3 hlh
                            obtain ⟨⟨t0, t1, t2, t3⟩, y, hx, hy, hxo, hyo, h1, h2⟩ := ab4.pa.rel.get hj
                            obtain ⟨l0, l1, l2, l3⟩ := pa_cel bw5 hx
                            have f0 := bw5.frozen (j * 4)
                            have f1 := bw5.frozen (j * 4 + 1)
                            have f2 := bw5.frozen (j * 4 + 2)
                            have f3 := bw5.frozen (j * 4 + 3)
                            have a1 := ba5.cell 1
                            have e0 := bn5.cell 0
                            have e1 := bn5.cell 1
                            have e2 := bn5.cell 2
                            have e3 := bn5.cell 3
                            have up6 := (((Upd.one u3 lb (j * 4) (.int .i64 z0)).setCell (p := ⟨lb, j * 4 + 1, none⟩) (fun _ => rfl) (.int .i64 z1)).setCell (p := ⟨lb, j * 4 + 2, none⟩) (fun _ => rfl) (.int .i64 z2)).setCell (p := ⟨lb, j * 4 + 3, none⟩) (fun _ => rfl) (.int .i64 z3)
                            have ba6 := ba5.upd up6 hal
                            have hj0 : (0 : Int) ≤ j := by omega
                            have hjn : (j : Int) < n := by omega
                            have hji : decide ((j : Int) < n) = true := by simp; omega
                            clear ab4 pl3 up3 pl4 bw5 hx hy h1 h2 hxo hyo hmay up6 ba5 bn5 bo5
                            go_wp2_with fail
                            refine Met.intro ?_
                            go_step
                            refine frm_meet (by kernel_rfl) ?_
                            exact ⟨⟨rfl, rfl, rfl, rfl, rfl, rfl, rfl⟩, rfl, rfl, _, _, _, ba6, pa5⟩
                · rw [decide_eq_false hq3] at hv114
                  have hfr := frm_lit v
                  rw [cm.v0, cm.v1, cm.v5, cm.v6, cm.v7, cm.v8, cm.v9, hv10, hv11, hv113, hv114] at hfr
                  rw [hfr]
                  clear hfr cm
                  clear hv10 hv11 hv113 hv114
                  obtain rfl : q = 3 := by omega
                  clear hq hq3 hq4
                  have hka : 0 ≤ ka ∧ ka ≤ 4294967295 := by have := inr_u32 hrg.2.2.2.2.2.1; omega
                  have hkr : 0 ≤ kr ∧ kr ≤ 65535 := by have := inr_u16 hrg.2.2.2.2.2.2; omega
                  go_upto_region 31 with fail
                  obtain ⟨F, hF⟩ : ∃ F, F = decide ((0 ≤ x1 ∧ x1 < n) ∧ 0 ≤ kp ∧ kp ≤ 255) := ⟨_, rfl⟩
                  refine wp_cut (fun a' wx => ∃ v : Nat → Value, a' = ⟨(frm v).toArray, []⟩ ∧ Com n (some ⟨b, o, none⟩) m cap p lb kb k v ∧ v 10 = .pointer (some ⟨ga, 0, none⟩) ∧ v 11 = .bool T ∧ v 15 = .bool F ∧ W1 = wx) ?_ ?_
                  rotate_left
                  · intro _ _ _ _
                    have a10 := ba.cell 10
                    have hTF : F = (T && (decide (0 ≤ kp) && decide (kp ≤ 255))) := by rw [hF, hT.out]; simp [Bool.decide_and]
                    clear hF hT
                    cases T with
                    | false =>
                      have hF0 : F = false := by rw [hTF]; rfl
                      clear hTF
                      subst hF0
                      go_wp2_with fail
                      refine Met.intro ?_
                      go_step
                      refine frm_meet (by kernel_rfl) ?_
                      exact ⟨⟨rfl, rfl, rfl, rfl, rfl, rfl, rfl⟩, rfl, rfl, rfl, rfl⟩
                    | true =>
                      rcases Bool.eq_false_or_eq_true (decide (0 ≤ kp)) with hb1 | hb1
                      · rw [hb1, Bool.true_and, Bool.true_and] at hTF
                        subst hTF
                        go_wp2_with fail
                        refine Met.intro ?_
                        go_step
                        refine frm_meet (by kernel_rfl) ?_
                        exact ⟨⟨rfl, rfl, rfl, rfl, rfl, rfl, rfl⟩, rfl, rfl, rfl, rfl⟩
                      · have hF0 : F = false := by rw [hTF, hb1]; rfl
                        clear hTF
                        subst hF0
                        go_wp2_with fail
                        refine Met.intro ?_
                        go_step
                        refine frm_meet (by kernel_rfl) ?_
                        exact ⟨⟨rfl, rfl, rfl, rfl, rfl, rfl, rfl⟩, rfl, rfl, rfl, rfl⟩
                  · intro a' wx hcut
                    obtain ⟨v, rfl, cm, hv10, hv11, hv15, rfl⟩ := hcut
                    have hfr := frm_lit v
                    rw [cm.v0, cm.v1, cm.v5, cm.v6, cm.v7, cm.v8, cm.v9, hv10, hv11, hv15] at hfr
                    rw [hfr]
                    clear hfr cm
                    clear hv10 hv11 hv15
                    go_upto_region 32 with fail
                    replace hF := Lib.hid hF
                    cases F with
                    | false =>
                      have z1 : ∀ t : Tw (fun w' => Blk w' ga 49 #[.int .i64 x0, .int .i64 x1, .int .i64 o0, .int .i64 o1, .int .i64 o2, .int .i64 o3, .int .i64 n0, .int .i64 n1, .int .i64 n2, .int .i64 n3, .int .i64 kp, .int .u32 ka, .int .u16 kr]), t.w.cell? ⟨ga, 1, none⟩ = some (.int .i64 x1) := fun t => t.h.cell 1
                      have z10 : ∀ t : Tw (fun w' => Blk w' ga 49 #[.int .i64 x0, .int .i64 x1, .int .i64 o0, .int .i64 o1, .int .i64 o2, .int .i64 o3, .int .i64 n0, .int .i64 n1, .int .i64 n2, .int .i64 n3, .int .i64 kp, .int .u32 ka, .int .u16 kr]), t.w.cell? ⟨ga, 10, none⟩ = some (.int .i64 kp) := fun t => t.h.cell 10
                      have z11 : ∀ t : Tw (fun w' => Blk w' ga 49 #[.int .i64 x0, .int .i64 x1, .int .i64 o0, .int .i64 o1, .int .i64 o2, .int .i64 o3, .int .i64 n0, .int .i64 n1, .int .i64 n2, .int .i64 n3, .int .i64 kp, .int .u32 ka, .int .u16 kr]), t.w.cell? ⟨ga, 11, none⟩ = some (.int .u32 ka) := fun t => t.h.cell 11
                      have z12 : ∀ t : Tw (fun w' => Blk w' ga 49 #[.int .i64 x0, .int .i64 x1, .int .i64 o0, .int .i64 o1, .int .i64 o2, .int .i64 o3, .int .i64 n0, .int .i64 n1, .int .i64 n2, .int .i64 n3, .int .i64 kp, .int .u32 ka, .int .u16 kr]), t.w.cell? ⟨ga, 12, none⟩ = some (.int .u16 kr) := fun t => t.h.cell 12
                      have : Nonempty (Tw (fun w' => Blk w' ga 49 #[.int .i64 x0, .int .i64 x1, .int .i64 o0, .int .i64 o1, .int .i64 o2, .int .i64 o3, .int .i64 n0, .int .i64 n1, .int .i64 n2, .int .i64 n3, .int .i64 kp, .int .u32 ka, .int .u16 kr])) := ⟨⟨_, ba⟩⟩
                      refine wp_region_plan (fun w' => Blk w' ga 49 #[.int .i64 x0, .int .i64 x1, .int .i64 o0, .int .i64 o1, .int .i64 o2, .int .i64 o3, .int .i64 n0, .int .i64 n1, .int .i64 n2, .int .i64 n3, .int .i64 kp, .int .u32 ka, .int .u16 kr]) [(0, true), (1, true), (2, true), (3, true), (4, true), (5, false), (6, false), (7, true)] (by kernel_rfl) (by kernel_rfl) (by kernel_rfl) (by kernel_rfl) ba.drew ?_
                      replace ba := ba.drew
                      replace pa := pa.drew
                      generalize W1.drew = W5 at *
                      refine wpPl_qs 5 _ _ _ (by kernel_rfl) (by kernel_rfl) (by simp) ?_
                      unfold clsS
                      simp only [List.take_succ_cons, List.take_zero, List.drop_succ_cons, List.drop_zero, List.filterMap_cons, List.filterMap_nil, List.getElem?_toArray, List.getElem?_cons_zero, List.getElem?_cons_succ]
                      repeat (first
                        | go_big_quiet_skip
                        | (go_big_quiet_want; go_big_quiet_op; go_big_quiet_on)
                        | (refine id (?_ : wpQuiet _ _ _ _ (_ :: _) _); first | go_big_quiet_skip | (go_big_quiet_want; go_big_quiet_op; go_big_quiet_on)))
                      refine wpQuiet_nil ?_
                      refine wpPl_e _ (by rfl) (by kernel_rfl) (fun K hK => ?_)
                      go_simp
                      refine (lKey_any _ _ _ _).mono ?_
                      rintro r u1 ⟨rfl, q1⟩
                      replace pa := pa.bel' q1
                      replace ba := ba.bel q1
                      refine hK _ _ ba ?_
                      clear hK K q1
                      refine wpPl_e _ (by rfl) (by kernel_rfl) (fun K hK => ?_)
                      go_simp
                      refine (PlSetKey_all x1 kp ka kr p g h n L _ pa.pl hn2 hka hkr false hF.out).mono ?_
                      rintro r u3 ⟨rfl, pl3, up3⟩
                      have hah : ga ≠ h := Ne.symm (pa.pl.cel.row.ne_ ba (by decide))
                      have ba5 := ba.upd up3 hah
                      refine hK _ _ ba5 ?_
                      clear hK K
                      refine wpPl_qs 1 _ _ _ (by kernel_rfl) (by kernel_rfl) (by simp) ?_
                      unfold clsS
                      simp only [List.take_succ_cons, List.take_zero, List.drop_succ_cons, List.drop_zero, List.filterMap_cons, List.filterMap_nil, List.getElem?_toArray, List.getElem?_cons_zero, List.getElem?_cons_succ]
                      repeat (first
                        | go_big_quiet_skip
                        | (go_big_quiet_want; go_big_quiet_op; go_big_quiet_on)
                        | (refine id (?_ : wpQuiet _ _ _ _ (_ :: _) _); first | go_big_quiet_skip | (go_big_quiet_want; go_big_quiet_op; go_big_quiet_on)))
                      refine wpQuiet_nil ?_
                      unfold wpPl
                      refine NoPanic.normal ?_
                      clear z1 z10 z11 z12 this
                      have pa5 := pa.casno (u := u3) pl3 up3
                      clear pa pl3 up3 hF
                      go_wp2_with fail
                      refine Met.intro ?_
                      go_step
                      refine frm_meet (by kernel_rfl) ?_
                      exact ⟨⟨rfl, rfl, rfl, rfl, rfl, rfl, rfl⟩, rfl, rfl, _, _, _, ba5, pa5⟩
                    | true =>
                      obtain ⟨hx1, hkp⟩ := of_decide_eq_true hF.out.symm
                      obtain ⟨j, rfl⟩ := Int.eq_ofNat_of_zero_le hx1.1
                      have hj : j < n := by omega
                      clear hT
                      have z1 : ∀ t : Tw (fun w' => Blk w' ga 49 #[.int .i64 x0, .int .i64 (j : Int), .int .i64 o0, .int .i64 o1, .int .i64 o2, .int .i64 o3, .int .i64 n0, .int .i64 n1, .int .i64 n2, .int .i64 n3, .int .i64 kp, .int .u32 ka, .int .u16 kr]), t.w.cell? ⟨ga, 1, none⟩ = some (.int .i64 (j : Int)) := fun t => t.h.cell 1
                      have z10 : ∀ t : Tw (fun w' => Blk w' ga 49 #[.int .i64 x0, .int .i64 (j : Int), .int .i64 o0, .int .i64 o1, .int .i64 o2, .int .i64 o3, .int .i64 n0, .int .i64 n1, .int .i64 n2, .int .i64 n3, .int .i64 kp, .int .u32 ka, .int .u16 kr]), t.w.cell? ⟨ga, 10, none⟩ = some (.int .i64 kp) := fun t => t.h.cell 10
                      have z11 : ∀ t : Tw (fun w' => Blk w' ga 49 #[.int .i64 x0, .int .i64 (j : Int), .int .i64 o0, .int .i64 o1, .int .i64 o2, .int .i64 o3, .int .i64 n0, .int .i64 n1, .int .i64 n2, .int .i64 n3, .int .i64 kp, .int .u32 ka, .int .u16 kr]), t.w.cell? ⟨ga, 11, none⟩ = some (.int .u32 ka) := fun t => t.h.cell 11
                      have z12 : ∀ t : Tw (fun w' => Blk w' ga 49 #[.int .i64 x0, .int .i64 (j : Int), .int .i64 o0, .int .i64 o1, .int .i64 o2, .int .i64 o3, .int .i64 n0, .int .i64 n1, .int .i64 n2, .int .i64 n3, .int .i64 kp, .int .u32 ka, .int .u16 kr]), t.w.cell? ⟨ga, 12, none⟩ = some (.int .u16 kr) := fun t => t.h.cell 12
                      have : Nonempty (Tw (fun w' => Blk w' ga 49 #[.int .i64 x0, .int .i64 (j : Int), .int .i64 o0, .int .i64 o1, .int .i64 o2, .int .i64 o3, .int .i64 n0, .int .i64 n1, .int .i64 n2, .int .i64 n3, .int .i64 kp, .int .u32 ka, .int .u16 kr])) := ⟨⟨_, ba⟩⟩
                      refine wp_region_plan (fun w' => Blk w' ga 49 #[.int .i64 x0, .int .i64 (j : Int), .int .i64 o0, .int .i64 o1, .int .i64 o2, .int .i64 o3, .int .i64 n0, .int .i64 n1, .int .i64 n2, .int .i64 n3, .int .i64 kp, .int .u32 ka, .int .u16 kr]) [(0, true), (1, true), (2, true), (3, true), (4, true), (5, false), (6, false), (7, true)] (by kernel_rfl) (by kernel_rfl) (by kernel_rfl) (by kernel_rfl) ba.drew ?_
                      replace ba := ba.drew
                      replace pa := pa.drew
                      generalize W1.drew = W5 at *
                      refine wpPl_qs 5 _ _ _ (by kernel_rfl) (by kernel_rfl) (by simp) ?_
                      unfold clsS
                      simp only [List.take_succ_cons, List.take_zero, List.drop_succ_cons, List.drop_zero, List.filterMap_cons, List.filterMap_nil, List.getElem?_toArray, List.getElem?_cons_zero, List.getElem?_cons_succ]
                      repeat (first
                        | go_big_quiet_skip
                        | (go_big_quiet_want; go_big_quiet_op; go_big_quiet_on)
                        | (refine id (?_ : wpQuiet _ _ _ _ (_ :: _) _); first | go_big_quiet_skip | (go_big_quiet_want; go_big_quiet_op; go_big_quiet_on)))
                      refine wpQuiet_nil ?_
                      refine wpPl_e _ (by rfl) (by kernel_rfl) (fun K hK => ?_)
                      go_simp
                      refine (lKey_any _ _ _ _).mono ?_
                      rintro r u1 ⟨rfl, q1⟩
                      replace pa := pa.bel' q1
                      replace ba := ba.bel q1
                      refine hK _ _ ba ?_
                      clear hK K q1
                      refine wpPl_e _ (by rfl) (by kernel_rfl) (fun K hK => ?_)
                      go_simp
                      refine (PlSetKey_all (j : Int) kp ka kr p g h n L _ pa.pl hn2 hka hkr true hF.out).mono ?_
                      rintro r u3 ⟨rfl, pl3, up3⟩
                      have hah : ga ≠ h := Ne.symm (pa.pl.cel.row.ne_ ba (by decide))
                      have ba5 := ba.upd up3 hah
                      refine hK _ _ ba5 ?_
                      clear hK K
                      refine wpPl_qs 1 _ _ _ (by kernel_rfl) (by kernel_rfl) (by simp) ?_
                      unfold clsS
                      simp only [List.take_succ_cons, List.take_zero, List.drop_succ_cons, List.drop_zero, List.filterMap_cons, List.filterMap_nil, List.getElem?_toArray, List.getElem?_cons_zero, List.getElem?_cons_succ]
                      repeat (first
                        | go_big_quiet_skip
                        | (go_big_quiet_want; go_big_quiet_op; go_big_quiet_on)
                        | (refine id (?_ : wpQuiet _ _ _ _ (_ :: _) _); first | go_big_quiet_skip | (go_big_quiet_want; go_big_quiet_op; go_big_quiet_on)))
                      refine wpQuiet_nil ?_
                      unfold wpPl
                      refine NoPanic.normal ?_
                      clear z1 z10 z11 z12 this
                      have pl4 : Pl u3 p g h n (celSet L (2 * (j : Int) + 1) (Ky.mk kp ka kr).num) := pl3
                      have pa5 := pa.key hj ⟨hkp, hka, hkr⟩ pl4 up3
                      have hkh : kb ≠ h := Ne.symm (pa.pl.cel.row.ne_ pa.bk (by decide))
                      have hak : ga ≠ kb := ba5.ne_ (pa.bk.upd up3 hkh) (by decide)
                      have bk5 := pa.bk.upd up3 hkh
                      obtain ⟨x, ⟨t0, t1, t2⟩, hx, hy, hxo, hyo, h1, h2⟩ := pa.rel.get hj
                      obtain ⟨l0, l1, l2⟩ := pa_kel bk5 hy
                      have f0 := bk5.frozen (j * 3)
                      have f1 := bk5.frozen (j * 3 + 1)
                      have f2 := bk5.frozen (j * 3 + 2)
                      have a1 := ba5.cell 1
                      have a10 := ba5.cell 10
                      have a11 := ba5.cell 11
                      have a12 := ba5.cell 12
                      have up6 := ((Upd.one u3 kb (j * 3) (.int .i64 kp)).setCell (p := ⟨kb, j * 3 + 1, none⟩) (fun _ => rfl) (.int .u32 ka)).setCell (p := ⟨kb, j * 3 + 2, none⟩) (fun _ => rfl) (.int .u16 kr)
                      have ba6 := ba5.upd up6 hak
                      have hj0 : (0 : Int) ≤ j := by omega
                      have hjn : (j : Int) < n := by omega
                      have hji : decide ((j : Int) < n) = true := by simp; omega
                      clear pa pl3 up3 pl4 bk5 hx hy h1 h2 hxo hyo up6 ba5 hF hka hkr hkp
                      go_wp2_with fail
                      refine Met.intro ?_
                      go_step
                      refine frm_meet (by kernel_rfl) ?_
                      exact ⟨⟨rfl, rfl, rfl, rfl, rfl, rfl, rfl⟩, rfl, rfl, _, _, _, ba6, pa5⟩
            · intro a' W6 hcut
              obtain ⟨v, rfl, cm, hv10, hv11, L, ws, ks, ba, pa⟩ := hcut
              replace hT := hT.out
              have hfr := frm_lit v
              rw [cm.v0, cm.v1, cm.v5, cm.v6, cm.v7, cm.v8, cm.v9, hv10, hv11] at hfr
              rw [hfr]
              clear hfr cm
              clear hv10 hv11
              go_upto_region 37 with fail
              have : Nonempty (Tw (fun w' => Below W6.heap.size W6 w')) := ⟨⟨W6, Below.refl _ _⟩⟩
              have ha1 : ∀ t : Tw (fun w' => Below W6.heap.size W6 w'), t.w.cell? ⟨ga, 1, none⟩ = some (.int .i64 x1) := fun t => ba.tw ba.lt t 1
              cases T with
              | false =>
                have hx1 : ¬ (0 ≤ x1 ∧ x1 < n) := of_decide_eq_false hT.symm
                clear hT
                have hL := fun W (hW : Below W6.heap.size W6 W) => PlLoad_any x1 p g h n L W (pa.pl.bel hW) hn2
                rw [wd_out pa.rel.ll hx1, show (unW 0).val = .agg #[.int .i64 0, .int .i64 0, .int .i64 0, .int .i64 0] from rfl] at hL
                have hKy := fun W (hW : Below W6.heap.size W6 W) => PlKey_out x1 p g h n L W (pa.pl.bel hW) hn2 hx1
                replace hL := Lib.hid hL
                replace hKy := Lib.hid hKy
                replace hx1 := Lib.hid hx1
                refine region_tw (fun w' => Below (W6).heap.size (W6) w') (by kernel_rfl) (by kernel_rfl) (Below.refl _ _).drew ?_
                unfold clsS
                repeat (first
                  | go_big_quiet_skip
                  | (go_big_quiet_want; go_big_quiet_op; first | go_big_quiet_on | go_big_quiet_call (
                    (first 
                                  | (go_at_call 19; exact q_tw (Nat.le_refl _) (hL.out _ (Tw.h _)))
                                  | (go_at_call 23; exact q_tw (Nat.le_refl _) (hKy.out _ (Tw.h _)))))))
                refine wpQuiet_nil ?_
                intro tq
                replace pa := pa.bel' tq.h
                clear hL hKy ha1 ba
                go_wp2_with fail
                refine Handed.intro (m - (k + 1)) (by have := hgk.out; omega) ?_
                go_step
                refine frm_meet (by kernel_rfl) ?_
                exact ⟨k + 1, L, ws, ks, rfl, by omega, ⟨rfl, rfl, rfl, rfl, rfl, rfl, rfl⟩, pa⟩
              | true =>
                have hx1 : 0 ≤ x1 ∧ x1 < n := of_decide_eq_true hT.symm
                obtain ⟨j, rfl⟩ := Int.eq_ofNat_of_zero_le hx1.1
                have hj : j < n := by omega
                clear hT
                obtain ⟨⟨t0, t1, t2, t3⟩, ⟨r0, r1, r2⟩, hx, hy, hxo, hyo, h1, h2⟩ := pa.rel.get hj
                have hL := fun W (hW : Below W6.heap.size W6 W) => PlLoad_any j p g h n L W (pa.pl.bel hW) hn2
                rw [h1, un_num hxo, show (Wd.mk t0 t1 t2 t3).val = .agg #[.int .i64 t0, .int .i64 t1, .int .i64 t2, .int .i64 t3] from rfl] at hL
                have hKy := fun W (hW : Below W6.heap.size W6 W) => PlKey_any j p g h n L W (pa.pl.bel hW) hn2 hx1
                rw [h2, unk_num hyo, show (Ky.mk r0 r1 r2).val = .agg #[.int .i64 r0, .int .u32 r1, .int .u16 r2] from rfl] at hKy
                have l0 : ∀ t : Tw (fun w' => Below W6.heap.size W6 w'), t.w.cell? ⟨lb, j * 4, none⟩ = some (.int .i64 t0) := fun t => ((pa.bel' t.h).cel hx).1
                have l1 : ∀ t : Tw (fun w' => Below W6.heap.size W6 w'), t.w.cell? ⟨lb, j * 4 + 1, none⟩ = some (.int .i64 t1) := fun t => ((pa.bel' t.h).cel hx).2.1
                have l2 : ∀ t : Tw (fun w' => Below W6.heap.size W6 w'), t.w.cell? ⟨lb, j * 4 + 2, none⟩ = some (.int .i64 t2) := fun t => ((pa.bel' t.h).cel hx).2.2.1
                have l3 : ∀ t : Tw (fun w' => Below W6.heap.size W6 w'), t.w.cell? ⟨lb, j * 4 + 3, none⟩ = some (.int .i64 t3) := fun t => ((pa.bel' t.h).cel hx).2.2.2
                have m0 : ∀ t : Tw (fun w' => Below W6.heap.size W6 w'), t.w.cell? ⟨kb, j * 3, none⟩ = some (.int .i64 r0) := fun t => ((pa.bel' t.h).kel hy).1
                have m1 : ∀ t : Tw (fun w' => Below W6.heap.size W6 w'), t.w.cell? ⟨kb, j * 3 + 1, none⟩ = some (.int .u32 r1) := fun t => ((pa.bel' t.h).kel hy).2.1
                have m2 : ∀ t : Tw (fun w' => Below W6.heap.size W6 w'), t.w.cell? ⟨kb, j * 3 + 2, none⟩ = some (.int .u16 r2) := fun t => ((pa.bel' t.h).kel hy).2.2
                have hj0 : (0 : Int) ≤ j := by omega
                have hjn : (j : Int) < n := by omega
                replace hL := Lib.hid hL
                replace hKy := Lib.hid hKy
                clear h1 h2 hxo hyo hx1
                replace hx := Lib.hid hx
                replace hy := Lib.hid hy
                refine region_tw (fun w' => Below (W6).heap.size (W6) w') (by kernel_rfl) (by kernel_rfl) (Below.refl _ _).drew ?_
                unfold clsS
                repeat (first
                  | go_big_quiet_skip
                  | (go_big_quiet_want; go_big_quiet_op; first | go_big_quiet_on | go_big_quiet_call (
                    (first 
                                  | (go_at_call 19; exact q_tw (Nat.le_refl _) (hL.out _ (Tw.h _)))
                                  | (go_at_call 23; exact q_tw (Nat.le_refl _) (hKy.out _ (Tw.h _)))
                                  | (go_at_call 13; exact q_tw (Nat.le_refl _) (From_any _ _ _ _ _))
                                  | (go_at_call 29; exact q_tw (Nat.le_refl _) (lFromKey_any _ _ _ _))))))
                refine wpQuiet_nil ?_
                intro tq
                replace pa := pa.bel' tq.h
                clear hL hKy ha1 ba l0 l1 l2 l3 m0 m1 m2
                go_wp2_with fail
                refine Handed.intro (m - (k + 1)) (by have := hgk.out; omega) ?_
                go_step
                refine frm_meet (by kernel_rfl) ?_
                exact ⟨k + 1, L, ws, ks, rfl, by omega, ⟨rfl, rfl, rfl, rfl, rfl, rfl, rfl⟩, pa⟩
        · have hcond : decide (k < m) = false ∨ (decide (k < m) = true ∧ decide ((k : Int) < 60) = false) := by
            rcases Nat.lt_or_ge k m with h | h
            · exact .inr ⟨by simpa using h, by simp; omega⟩
            · exact .inl (by simp; omega)
          have hfr := frm_lit v
          rw [cm.v0, cm.v1, cm.v5, cm.v6, cm.v7, cm.v8, cm.v9] at hfr
          rw [hfr]
          clear hfr cm
          rcases hcond with hd | ⟨hd, hd2⟩
          · go_wp2_with fail
            refine Met.intro ?_
            go_step
            refine frm_meet (by kernel_rfl) ?_
            exact ⟨k, L, ws, ks, ⟨rfl, rfl, rfl, rfl, rfl, rfl, rfl⟩, pa⟩
          · go_wp2_with fail
            refine Met.intro ?_
            go_step
            refine frm_meet (by kernel_rfl) ?_
            exact ⟨k, L, ws, ks, ⟨rfl, rfl, rfl, rfl, rfl, rfl, rfl⟩, pa⟩
    · clear pa L ws ks
      intro a' W7 hcut
      obtain ⟨v, rfl, k, L, ws, ks, cm, pa⟩ := hcut
      have hfr := frm_lit v
      rw [cm.v0, cm.v1, cm.v5, cm.v6, cm.v7, cm.v8, cm.v9] at hfr
      rw [hfr]
      clear hfr cm
      have bc := Blk.new W7 66 #[.int .i64 0, .int .i64 0, .int .i64 0, .int .i64 0]
      have hcw := pa.bel.size
      replace pa := pa.alloc (.cells #[.int .i64 0, .int .i64 0, .int .i64 0, .int .i64 0] 66)
      have h2n : IntKind.i64.wrap (2 * (n : Int)) = ((2 * n : Nat) : Int) := by rw [IntKind.wrap_i64]; omega
      go_wp2_with fail
      generalize W7.alloc (.cells #[.int .i64 0, .int .i64 0, .int .i64 0, .int .i64 0] 66) = W8 at *
      generalize W7.heap.size = cb at *
      refine (PlCopy_any p g h n L _ pa.pl hn2).mono ?_
      rintro r u1 ⟨cv, rfl, own, q1⟩
      replace pa := pa.bel' q1
      replace bc := bc.bel q1
      obtain ⟨g2, c2, rfl, hc21, hc22, _, _⟩ := own.formG pa.rel.ll (by omega)
      clear q1
      go_wp2_with fail
      refine (PlSize_any p g h n L _ pa.pl hn2).mono ?_
      rintro r u2 ⟨rfl, rfl⟩
      have fa : Fin4 w p g h lb kb n L ws ks cb g2 c2 W8.heap.size 0 u1 := ⟨pa, bc, own, hcw⟩
      clear pa bc own hcw
      go_wp2_with fail
      go_loopg [19] n (fun gk s19 wr => ∃ i : Nat, gk = n - i ∧ i ≤ n ∧ s19 = .int .i64 i ∧ Fin4 w p g h lb kb n L ws ks cb g2 c2 W8.heap.size i wr)
      case atStart => exact ⟨0, rfl, Nat.zero_le _, rfl, fa⟩
      case round =>
        clear fa
        obtain ⟨i, hgk, hin, rfl, fa⟩ := hrel
        by_cases hlt : i < n
        · obtain ⟨⟨t0, t1, t2, t3⟩, ⟨r0, r1, r2⟩, hx, hy, hxo, hyo, h1, h2⟩ := fa.pa.rel.get hlt
          have hd : decide ((i : Int) < n) = true := by simp; omega
          obtain ⟨l0, l1, l2, l3⟩ := fa.pa.cel hx
          have hP := fun W => rPack_any t0 t1 t2 t3 W
          simp only [if_pos hxo, decide_eq_true hxo] at hP
          have hN := fun W => rNumber_any r0 r1 r2 W hyo
          replace hP := Lib.hid hP
          replace hN := Lib.hid hN
          replace hgk := Lib.hid hgk
          go_wp2_with fail
          refine (hP.out _).mono ?_
          rintro r u3 ⟨rfl, q3⟩
          replace fa := fa.bel' q3
          clear l0 l1 l2 l3 q3
          have hw1 : IntKind.i64.wrap (2 * (i : Int)) = ((2 * i : Nat) : Int) := by rw [IntKind.wrap_i64]; omega
          have hw2 : IntKind.i64.wrap (((2 * i : Nat) : Int) + 1) = ((2 * i + 1 : Nat) : Int) := by rw [IntKind.wrap_i64]; omega
          go_upto_region 47 with fail
          have hA : ∀ t : Tw (fun w' => Below u3.heap.size u3 w'), t.w.cell? ⟨g2, 2 * i, none⟩ = some (.int .u64 (Wd.mk t0 t1 t2 t3).num) := fun t => by
            have := ((fa.bel' t.h).own.at_ fa.pa.rel.ll (j := 2 * i) (by omega)).1
            rw [this, ← h1]; unfold celAt; rw [if_pos (by rw [fa.pa.rel.ll]; omega)]; rfl
          have hB : ∀ t : Tw (fun w' => Below u3.heap.size u3 w'), t.w.cell? ⟨g2, 2 * i + 1, none⟩ = some (.int .u64 (Ky.mk r0 r1 r2).num) := fun t => by
            have := ((fa.bel' t.h).own.at_ fa.pa.rel.ll (j := 2 * i + 1) (by omega)).1
            rw [this, ← h2]; unfold celAt; rw [if_pos (by rw [fa.pa.rel.ll]; omega)]; rfl
          have m0 : ∀ t : Tw (fun w' => Below u3.heap.size u3 w'), t.w.cell? ⟨kb, i * 3, none⟩ = some (.int .i64 r0) := fun t => ((fa.pa.bel' t.h).kel hy).1
          have m1 : ∀ t : Tw (fun w' => Below u3.heap.size u3 w'), t.w.cell? ⟨kb, i * 3 + 1, none⟩ = some (.int .u32 r1) := fun t => ((fa.pa.bel' t.h).kel hy).2.1
          have m2 : ∀ t : Tw (fun w' => Below u3.heap.size u3 w'), t.w.cell? ⟨kb, i * 3 + 2, none⟩ = some (.int .u16 r2) := fun t => ((fa.pa.bel' t.h).kel hy).2.2
          have hi0 : (0 : Int) ≤ i := by omega
          have hin0 : (i : Int) < n := by omega
          have hi1 : (0 : Int) ≤ ((2 * i : Nat) : Int) := by omega
          have hi2 : ((2 * i : Nat) : Int) < ((2 * n : Nat) : Int) := by omega
          have hi3 : (0 : Int) ≤ ((2 * i + 1 : Nat) : Int) := by omega
          have hi4 : ((2 * i + 1 : Nat) : Int) < ((2 * n : Nat) : Int) := by omega
          have : Nonempty (Tw (fun w' => Below u3.heap.size u3 w')) := ⟨⟨u3, Below.refl _ _⟩⟩
          clear h1 h2
          replace hx := Lib.hid hx
          replace hy := Lib.hid hy
          generalize (Wd.mk t0 t1 t2 t3).num = N1 at *
          generalize (Ky.mk r0 r1 r2).num = N2 at *
          refine region_tw (fun w' => Below (u3).heap.size (u3) w') (by kernel_rfl) (by kernel_rfl) (Below.refl _ _).drew ?_
          unfold clsS
          repeat (first
            | go_big_quiet_skip
            | (go_big_quiet_want; go_big_quiet_op; first | go_big_quiet_on | go_big_quiet_call (
              (first 
                      | (go_at_call 30; exact q_tw (Nat.le_refl _) (hN.out _))))))
          refine wpQuiet_nil ?_
          intro tq
          replace fa := fa.bel' tq.h
          clear hA hB m0 m1 m2 hi1 hi2 hi3 hi4 hN hP this
          obtain ⟨l0, -, -, -⟩ := fa.pa.cel hx.out
          have h4 : t0 = 0 ∨ t0 = 1 ∨ t0 = 2 ∨ t0 = 3 := by have := hxo.1; simp only at this; omega
          clear hxo hyo
          simp only at l0
          rcases h4 with rfl | rfl | rfl | rfl
          · have fa2 := fa.inc hx.out hlt 0 rfl (by omega)
            have b0 := fa.bc.cell 0
            have f0 := fa.bc.frozen 0
            have hle := cntL_le L 0 i
            have hwc : IntKind.i64.wrap (((cntL L 0 i : Nat) : Int) + 1) = ((cntL L 0 i + 1 : Nat) : Int) := by rw [IntKind.wrap_i64]; omega
            simp only [List.getElem?_toArray, List.getElem?_cons_zero, List.getElem?_cons_succ] at b0
            change World.setCell tq.w ⟨cb, 0, none⟩ (.int .i64 ((cntL L 0 i + 1 : Nat) : Int)) |> Fin4 w p g h lb kb n L ws ks cb g2 c2 W8.heap.size (i + 1) at fa2
            generalize cntL L 0 i = C at *
            clear fa hle
            go_wp2_with fail
            go_roundg (n - (i + 1))
            case measure => have := hgk.out; omega
            case rel => exact ⟨i + 1, rfl, by omega, rfl, fa2⟩
          · have fa2 := fa.inc hx.out hlt 1 rfl (by omega)
            have b0 := fa.bc.cell 1
            have f0 := fa.bc.frozen 1
            have hle := cntL_le L 1 i
            have hwc : IntKind.i64.wrap (((cntL L 1 i : Nat) : Int) + 1) = ((cntL L 1 i + 1 : Nat) : Int) := by rw [IntKind.wrap_i64]; omega
            simp only [List.getElem?_toArray, List.getElem?_cons_zero, List.getElem?_cons_succ] at b0
            change World.setCell tq.w ⟨cb, 1, none⟩ (.int .i64 ((cntL L 1 i + 1 : Nat) : Int)) |> Fin4 w p g h lb kb n L ws ks cb g2 c2 W8.heap.size (i + 1) at fa2
            generalize cntL L 1 i = C at *
            clear fa hle
            go_wp2_with fail
            go_roundg (n - (i + 1))
            case measure => have := hgk.out; omega
            case rel => exact ⟨i + 1, rfl, by omega, rfl, fa2⟩
          · have fa2 := fa.inc hx.out hlt 2 rfl (by omega)
            have b0 := fa.bc.cell 2
            have f0 := fa.bc.frozen 2
            have hle := cntL_le L 2 i
            have hwc : IntKind.i64.wrap (((cntL L 2 i : Nat) : Int) + 1) = ((cntL L 2 i + 1 : Nat) : Int) := by rw [IntKind.wrap_i64]; omega
            simp only [List.getElem?_toArray, List.getElem?_cons_zero, List.getElem?_cons_succ] at b0
            change World.setCell tq.w ⟨cb, 2, none⟩ (.int .i64 ((cntL L 2 i + 1 : Nat) : Int)) |> Fin4 w p g h lb kb n L ws ks cb g2 c2 W8.heap.size (i + 1) at fa2
            generalize cntL L 2 i = C at *
            clear fa hle
            go_wp2_with fail
            go_roundg (n - (i + 1))
            case measure => have := hgk.out; omega
            case rel => exact ⟨i + 1, rfl, by omega, rfl, fa2⟩
          · have fa2 := fa.inc hx.out hlt 3 rfl (by omega)
            have b0 := fa.bc.cell 3
            have f0 := fa.bc.frozen 3
            have hle := cntL_le L 3 i
            have hwc : IntKind.i64.wrap (((cntL L 3 i : Nat) : Int) + 1) = ((cntL L 3 i + 1 : Nat) : Int) := by rw [IntKind.wrap_i64]; omega
            simp only [List.getElem?_toArray, List.getElem?_cons_zero, List.getElem?_cons_succ] at b0
            change World.setCell tq.w ⟨cb, 3, none⟩ (.int .i64 ((cntL L 3 i + 1 : Nat) : Int)) |> Fin4 w p g h lb kb n L ws ks cb g2 c2 W8.heap.size (i + 1) at fa2
            generalize cntL L 3 i = C at *
            clear fa hle
            go_wp2_with fail
            go_roundg (n - (i + 1))
            case measure => have := hgk.out; omega
            case rel => exact ⟨i + 1, rfl, by omega, rfl, fa2⟩
        · obtain rfl : i = n := by omega
          have hd : decide ((i : Int) < (i : Int)) = false := by simp
          clear hgk
          go_wp2_with fail
          go_loopg [22] 4 (fun gk s22 wr => ∃ s : Nat, gk = 4 - s ∧ s ≤ 4 ∧ s22 = .int .i64 s ∧ Fin4 w p g h lb kb i L ws ks cb g2 c2 W8.heap.size i wr)
          case atStart => exact ⟨0, rfl, by omega, rfl, fa⟩
          case round =>
            clear fa
            obtain ⟨s, hgk, hs4, rfl, fa⟩ := hrel
            replace hgk := Lib.hid hgk
            have h4 : s = 0 ∨ s = 1 ∨ s = 2 ∨ s = 3 ∨ s = 4 := by omega
            rcases h4 with rfl | rfl | rfl | rfl | rfl
            · have hC := fun W (hW : Below wr.heap.size wr W) => PlCount_any 0 p g h i L W (fa.pa.pl.bel hW) hn2
              have b0 : ∀ t : Tw (fun w' => Below wr.heap.size wr w'), t.w.cell? ⟨cb, 0, none⟩ = some (.int .i64 (cntL L 0 i : Nat)) := fun t => fa.bc.tw fa.bc.lt t 0
              have : Nonempty (Tw (fun w' => Below wr.heap.size wr w')) := ⟨⟨wr, Below.refl _ _⟩⟩
              generalize cntL L 0 i = C at hC b0
              replace hC := Lib.hid hC
              go_upto_region 53 with fail
              refine region_tw (fun w' => Below (wr).heap.size (wr) w') (by kernel_rfl) (by kernel_rfl) (Below.refl _ _).drew ?_
              unfold clsS
              repeat (first
                | go_big_quiet_skip
                | (go_big_quiet_want; go_big_quiet_op; first | go_big_quiet_on | go_big_quiet_call (
                  (first 
                              | (go_at_call 26; exact q_tw (Nat.le_refl _) (hC.out _ (Tw.h _)))))))
              refine wpQuiet_nil ?_
              intro tq
              replace fa := fa.bel' tq.h
              clear hC b0
              go_wp2_with fail
              go_roundg (4 - 1)
              case measure => have := hgk.out; omega
              case rel => exact ⟨1, rfl, by omega, rfl, fa⟩
            · have hC := fun W (hW : Below wr.heap.size wr W) => PlCount_any 1 p g h i L W (fa.pa.pl.bel hW) hn2
              have b0 : ∀ t : Tw (fun w' => Below wr.heap.size wr w'), t.w.cell? ⟨cb, 1, none⟩ = some (.int .i64 (cntL L 1 i : Nat)) := fun t => fa.bc.tw fa.bc.lt t 1
              have : Nonempty (Tw (fun w' => Below wr.heap.size wr w')) := ⟨⟨wr, Below.refl _ _⟩⟩
              generalize cntL L 1 i = C at hC b0
              replace hC := Lib.hid hC
              go_upto_region 53 with fail
              refine region_tw (fun w' => Below (wr).heap.size (wr) w') (by kernel_rfl) (by kernel_rfl) (Below.refl _ _).drew ?_
              unfold clsS
              repeat (first
                | go_big_quiet_skip
                | (go_big_quiet_want; go_big_quiet_op; first | go_big_quiet_on | go_big_quiet_call (
                  (first 
                              | (go_at_call 26; exact q_tw (Nat.le_refl _) (hC.out _ (Tw.h _)))))))
              refine wpQuiet_nil ?_
              intro tq
              replace fa := fa.bel' tq.h
              clear hC b0
              go_wp2_with fail
              go_roundg (4 - 2)
              case measure => have := hgk.out; omega
              case rel => exact ⟨2, rfl, by omega, rfl, fa⟩
            · have hC := fun W (hW : Below wr.heap.size wr W) => PlCount_any 2 p g h i L W (fa.pa.pl.bel hW) hn2
              have b0 : ∀ t : Tw (fun w' => Below wr.heap.size wr w'), t.w.cell? ⟨cb, 2, none⟩ = some (.int .i64 (cntL L 2 i : Nat)) := fun t => fa.bc.tw fa.bc.lt t 2
              have : Nonempty (Tw (fun w' => Below wr.heap.size wr w')) := ⟨⟨wr, Below.refl _ _⟩⟩
              generalize cntL L 2 i = C at hC b0
              replace hC := Lib.hid hC
              go_upto_region 53 with fail
              refine region_tw (fun w' => Below (wr).heap.size (wr) w') (by kernel_rfl) (by kernel_rfl) (Below.refl _ _).drew ?_
              unfold clsS
              repeat (first
                | go_big_quiet_skip
                | (go_big_quiet_want; go_big_quiet_op; first | go_big_quiet_on | go_big_quiet_call (
                  (first 
                              | (go_at_call 26; exact q_tw (Nat.le_refl _) (hC.out _ (Tw.h _)))))))
              refine wpQuiet_nil ?_
              intro tq
              replace fa := fa.bel' tq.h
              clear hC b0
              go_wp2_with fail
              go_roundg (4 - 3)
              case measure => have := hgk.out; omega
              case rel => exact ⟨3, rfl, by omega, rfl, fa⟩
            · have hC := fun W (hW : Below wr.heap.size wr W) => PlCount_any 3 p g h i L W (fa.pa.pl.bel hW) hn2
              have b0 : ∀ t : Tw (fun w' => Below wr.heap.size wr w'), t.w.cell? ⟨cb, 3, none⟩ = some (.int .i64 (cntL L 3 i : Nat)) := fun t => fa.bc.tw fa.bc.lt t 3
              have : Nonempty (Tw (fun w' => Below wr.heap.size wr w')) := ⟨⟨wr, Below.refl _ _⟩⟩
              generalize cntL L 3 i = C at hC b0
              replace hC := Lib.hid hC
              go_upto_region 53 with fail
              refine region_tw (fun w' => Below (wr).heap.size (wr) w') (by kernel_rfl) (by kernel_rfl) (Below.refl _ _).drew ?_
              unfold clsS
              repeat (first
                | go_big_quiet_skip
                | (go_big_quiet_want; go_big_quiet_op; first | go_big_quiet_on | go_big_quiet_call (
                  (first 
                              | (go_at_call 26; exact q_tw (Nat.le_refl _) (hC.out _ (Tw.h _)))))))
              refine wpQuiet_nil ?_
              intro tq
              replace fa := fa.bel' tq.h
              clear hC b0
              go_wp2_with fail
              go_roundg (4 - 4)
              case measure => have := hgk.out; omega
              case rel => exact ⟨4, rfl, by omega, rfl, fa⟩
            · have hbl := fa.pa.bel
              clear fa
              go_wp2
              go_ret
              exact ⟨rfl, hbl⟩
theorem PlaceActs_args (W : World) (args : Array Value) (hs : args.size = Try.f8.params.size) (hA : ∀ (j : Nat) t v, Try.f8.params[j]? = some t → args[j]? = some v → Arg Try.prog W t v) :
    Calls Try.prog 8 args W fun e W' => e = .returned (.bool true) ∧ Below W.heap.size W W' := by
  obtain ⟨v0, v1, rfl⟩ := args2 hs
  obtain ⟨n, rfl, hnr⟩ := arg_int Try.underlying3 (hA 0 3 v0 rfl rfl)
  obtain ⟨A, len, cap, m, rfl, h1, h2, h3⟩ := arg_slice Try.underlying40 (hA 1 40 v1 rfl rfl)
  have hC : Try.prog.cellsOf 49 = 13 := by kernel_rfl
  have hCi : Try.prog.cellsOf 3 = 1 := by kernel_rfl
  have hCw : Try.prog.cellsOf 23 = 4 := by kernel_rfl
  have hCf : Try.prog.cellsOf 47 = 3 := by kernel_rfl
  have hC3 : Try.prog.cellsOf 44 = 1 := by kernel_rfl
  have hC1 : Try.prog.cellsOf 45 = 1 := by kernel_rfl
  rw [hC] at h3
  have h4 := slice_rows (by omega) h3
  unfold maxLen at h2
  have hrd : AcRd W A len := by
    intro hp
    obtain ⟨b, o, rfl, hb, hi⟩ := h4 hp
    refine ⟨b, o, rfl, hb, fun i hil => ?_⟩
    obtain ⟨ys, hc, hl, hr⟩ := hi i hil
    obtain ⟨m', _, hf⟩ := rdg_struct Try.underlying49 hr
    obtain ⟨x0, e0, r0⟩ := fld_int (i := 0) hf rfl Try.underlying3 hCi
    obtain ⟨x1, e1, r1⟩ := fld_int (i := 1) hf rfl Try.underlying3 hCi
    obtain ⟨m2, _, hf2⟩ := rdg_struct Try.underlying23 (hf 2 _ rfl)
    obtain ⟨m3, _, hf3⟩ := rdg_struct Try.underlying23 (hf 3 _ rfl)
    obtain ⟨m4, _, hf4⟩ := rdg_struct Try.underlying47 (hf 4 _ rfl)
    obtain ⟨o0, u0, s0⟩ := fld_int (i := 0) hf2 rfl Try.underlying3 hCi
    obtain ⟨o1, u1, s1⟩ := fld_int (i := 1) hf2 rfl Try.underlying3 hCi
    obtain ⟨o2, u2, s2⟩ := fld_int (i := 2) hf2 rfl Try.underlying3 hCi
    obtain ⟨o3, u3, s3⟩ := fld_int (i := 3) hf2 rfl Try.underlying3 hCi
    obtain ⟨n0, v0, t0⟩ := fld_int (i := 0) hf3 rfl Try.underlying3 hCi
    obtain ⟨n1, v1, t1⟩ := fld_int (i := 1) hf3 rfl Try.underlying3 hCi
    obtain ⟨n2, v2, t2⟩ := fld_int (i := 2) hf3 rfl Try.underlying3 hCi
    obtain ⟨n3, v3, t3⟩ := fld_int (i := 3) hf3 rfl Try.underlying3 hCi
    obtain ⟨kp, w0, p0⟩ := fld_int (i := 0) hf4 rfl Try.underlying3 hCi
    obtain ⟨ka, w1, p1⟩ := fld_int (i := 1) hf4 rfl Try.underlying44 hC3
    obtain ⟨kr, w2, p2⟩ := fld_int (i := 2) hf4 rfl Try.underlying45 hC1
    clear hf hf2 hf3 hf4 hr h3 h4 hi hA
    simp [List.getElem?_take, List.getElem?_drop, hCw, hCf] at u0 u1 u2 u3 v0 v1 v2 v3 w0 w1 w2
    refine ⟨⟨x0, x1, ⟨o0, o1, o2, o3⟩, ⟨n0, n1, n2, n3⟩, kp, ka, kr⟩, ⟨r0, r1, ⟨s0, s1, s2, s3⟩, ⟨t0, t1, t2, t3⟩, p0, p1, p2⟩, fun j v hj => ?_⟩
    have hj13 : j < 13 := by
      rcases Nat.lt_or_ge j 13 with h | h
      · exact h
      · rw [List.getElem?_eq_none (by simp [Ac.cs]; omega)] at hj; cases hj
    refine (hc j (by omega)).trans ?_
    rw [← hj]
    have h13 : j = 0 ∨ j = 1 ∨ j = 2 ∨ j = 3 ∨ j = 4 ∨ j = 5 ∨ j = 6 ∨ j = 7 ∨ j = 8 ∨ j = 9 ∨ j = 10 ∨ j = 11 ∨ j = 12 := by omega
    rcases h13 with rfl | rfl | rfl | rfl | rfl | rfl | rfl | rfl | rfl | rfl | rfl | rfl | rfl
    · exact e0
    · exact e1
    · exact u0
    · exact u1
    · exact u2
    · exact u3
    · exact v0
    · exact v1
    · exact v2
    · exact v3
    · exact w0
    · exact w1
    · exact w2
  by_cases hn : n < 1 ∨ 3072 < n
  · exact PlaceActs_no n A len cap W hn
  · obtain ⟨k, rfl⟩ := Int.eq_ofNat_of_zero_le (a := n) (by omega)
    exact PlaceActs_yes k A len cap W (by omega) (by omega) hrd (by omega)

set_option maxRecDepth 100000 in
theorem PlaceActs_lifted (os : Os) (started : os.Started) (H : Type) (enc : TypeId × Value → H) :
    ReturnsInHanded {} Try.checked os 8 .any (Rows.placeActsSpec.pre6 enc Try.prog Try.f8 Rows.placeActsRow.domain false) (Rows.placeActsSpec.post enc Try.prog Try.f8 false true false false) :=
  law_lifted os started H enc (by kernel_rfl) Try.func8 rfl rfl (fun H ds h => by match ds, h with | [_, _], _ => exact ⟨rfl, rfl, rfl⟩) (by kernel_rfl)
    (ChangeSpec.witness6 (enc := enc) (C := Try.checked) false ⟨#[], #[.int .i64 0, .slice none 0 0], []⟩ 8 (by kernel_rfl) (by kernel_rfl) (by kernel_rfl) (by kernel_rfl))
    PlaceActs_args

/-- the statement -/
theorem placeActs_holds : Rows.PlaceActsSaid :=
  OpenClaim.holds_of_wide 8 Try.f8 rfl rfl rfl rfl rfl rfl rfl ⟨rfl, rfl, rfl, rfl, rfl⟩ rfl rfl rfl rfl rfl (by kernel_rfl) Try.func8 (by kernel_rfl)
    (of_decide_eq_true (by kernel_rfl)) (by unfold Func.isWrapper; first | (rw [if_pos (by decide +kernel)]; kernel_rfl) | (rw [if_neg (by decide +kernel)]; exact ⟨rfl, rfl⟩))
    (fun os started H enc _ => PlaceActs_lifted os started H enc)

end Go.Proofs.Ytgkimfodbbgdbaa
