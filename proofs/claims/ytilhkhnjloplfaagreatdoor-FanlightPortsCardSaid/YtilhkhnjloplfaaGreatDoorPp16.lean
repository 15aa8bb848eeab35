/- What the laws' proofs lean on: plain facts and contracts of the program's functions, laid together (16). -/
import Derived.Test.YtilhkhnjloplfaaGreatDoorPp15
import Derived.Test.YtilhkhnjloplfaaGreatDoorPp10
namespace Go.Proofs.YtilhkhnjloplfaaGreatDoor
set_option linter.unusedVariables false
set_option linter.unusedSimpArgs false
open Go.RowKit
set_option maxRecDepth 100000 in
set_option maxHeartbeats 16000000 in
theorem FanlightPorts_walk (x0 x1 : Int) (A : Option Addr) (m cap : Nat) (Lp : List Int) (w : World) (rdp : Rd .i64 w w.heap.size A m Lp) (hmx : m ≤ 9223372036854775807) (hT : Tab w ∧ 0 < w.heap.size) :
    Calls Tryz.prog 3 #[.agg #[.int .i64 x0, .int .i64 x1], .slice A m cap] w fun e w' => e = .returned (.bool true) ∧ Below w.heap.size w w' := by
  obtain ⟨i1, hi1, hu0, hu1, hu2⟩ := info_parts info_pcache
  obtain ⟨i2, hi2, hv0, hv1, hv2⟩ := info_parts info_pcstep
  obtain ⟨i3, hi3, hw0, hw1, hw2⟩ := info_parts info_ints
  obtain ⟨i0, hi, hz0, hz1, hz2⟩ := info_parts info_int
  obtain ⟨q, hq, hq6⟩ := modn x0 60 (by omega)
  obtain ⟨q2, hq2, hq4⟩ := modn x1 4 (by omega)
  obtain ⟨n, hn⟩ : ∃ n, n = 1 + q := ⟨_, rfl⟩
  obtain ⟨nk, hnk⟩ : ∃ n, n = 1 + q2 := ⟨_, rfl⟩
  have hn1 : 1 ≤ n ∧ n ≤ 60 := by omega
  have hk4 : 1 ≤ nk ∧ nk ≤ 4 := by omega
  have hnq : 1 + (q : Int) = (n : Int) := by omega
  have hkq : 1 + (q2 : Int) = (nk : Int) := by omega
  have m1 := fun W => make_one (P := Tryz.prog) 32 35 i1 _ Tryz.underlying32 hi1 hu0 hu1 rfl .i64 .i64 nk (by rw [hu2]; omega) (by omega) W
  have m2 := fun W => make_one (P := Tryz.prog) 33 38 i2 _ Tryz.underlying33 hi2 hv0 hv1 rfl .i64 .i64 nk (by rw [hv2]; omega) (by omega) W
  have m3 := fun W => make_one (P := Tryz.prog) 34 23 i3 _ Tryz.underlying34 hi3 hw0 hw1 rfl .i64 .i64 nk (by rw [hw2]; omega) (by omega) W
  replace hn := Lib.hid hn
  replace hnk := Lib.hid hnk
  go_enter Tryz.func3, Tryz.ntmps3
  go_upto_region 1 with fail
  have hb0 := (bel_alloc w (.cells #[.int .i64 x0, .int .i64 x1] 22)).drew
  go_region
  go_upto_region 2 with fail
  generalize (w.alloc (.cells #[.int .i64 x0, .int .i64 x1] 22)).drew = W0 at *
  have hw0s := hb0.size
  go_wp2_with fail
  refine (pNew_any n _ hn1.1 hn1.2).mono ?_
  rintro e W1 ⟨gp, gc, h, rfl, pm, l1, l2, l3, hb1⟩
  go_wp2_with fail
  refine (PlNew_lo n _ hn1.1 (by omega)).mono ?_
  rintro e W2 ⟨px, pg, ph, rfl, hb2, l4, l5, l6, pl⟩
  have ls : ∃ base, LS w (((W2.alloc (.cells (Array.replicate nk (.pointer none)) 35)).alloc (.cells (Array.replicate nk (.pointer none)) 38)).alloc (.cells (Array.replicate nk (.slice none 0 0)) 23)) (fun _ => 0) base gp gc h n nk px pg ph W2.heap.size (W2.heap.size + 1) (W2.heap.size + 1 + 1) 0 [] := by
    obtain ⟨o4, o5, o6, hob2⟩ := pm.cel.obj
    have b5 := hob2.lt
    have b6 : h < W1.heap.size := pm.cel.row.lt
    have b7 := pm.obj.lt
    exact ⟨_, LS.start hn1 hT (by omega) (pm.bel hb2) pl (s1 := W1.heap.size) (by omega) (by omega) (bel_after (bel_after hb0 hb1) hb2)⟩
  obtain ⟨base, ls⟩ := ls
  clear pm pl hb0 hb1 hb2 l1 l2 l3 l4 l5 l6 hw0s
  go_upto_block 0 with fail
  generalize (((W2.alloc (.cells (Array.replicate nk (.pointer none)) 35)).alloc (.cells (Array.replicate nk (.pointer none)) 38)).alloc (.cells (Array.replicate nk (.slice none 0 0)) 23)) = W3 at *
  generalize W2.heap.size + 1 + 1 = gmn at *
  generalize W2.heap.size + 1 = gst at *
  generalize W2.heap.size = gcs at *
  clear m1 m2 m3 hn hnk hq hq2 hnq hkq
  go_wp2_with fail
  refine wp_loop_ghost_k (fun gk a' wr => ∃ v : Nat → Value, a' = ⟨(frm v).toArray, []⟩ ∧ ∃ i : Nat, gk = nk - i ∧ i ≤ nk ∧ PCm A m cap n nk gp px gcs gst gmn v ∧ v 14 = .int .i64 i ∧ ∃ (o : Nat → Nat) (cs : List Nat), LS w wr o base gp gc h n nk px pg ph gcs gst gmn i cs) nk ?_ ?_
  · refine frm_meet (by kernel_rfl) ?_
    exact ⟨0, rfl, Nat.zero_le _, ⟨rfl, rfl, rfl, rfl, rfl, rfl, rfl, rfl⟩, rfl, _, _, ls⟩
  · clear ls
    intro gk a' wr hrel _ _ _ _
    obtain ⟨v, rfl, i, hgk, hin, cm, h14, o, cs, ls⟩ := hrel
    by_cases hlt : i < nk
    · have hdm : decide (i < nk) = true := by simpa using hlt
      have hi0 : (0 : Int) ≤ i := by omega
      have hi1 : (i : Int) < nk := by omega
      replace hgk := Lib.hid hgk
      have hfr := frm_lit v
      rw [cm.v1, cm.v5, cm.v6, cm.v7, cm.v9, cm.v11, cm.v12, cm.v13, h14] at hfr
      rw [hfr]
      clear hfr cm
      clear h14
      go_wp2_with fail
      refine (cNew_any _ base gp (iniW n).length _).mono ?_
      rintro e W4 ⟨cb, rfl, hb4, wm⟩
      have ls2 := ls.more hlt hb4 wm
      have hbc4 : W4.cell? ⟨gcs, i, none⟩ = some (.pointer none) := by
        have hl : (ptrL cs).length = i := by unfold ptrL; rw [List.length_map]; exact ls.il.1
        rw [(ls.bc.bel hb4).cell i, List.getElem?_toArray, List.getElem?_append_right (by omega), hl, Nat.sub_self, List.getElem?_replicate, if_pos (by omega)]
      have hbf4 := (ls.bc.bel hb4).frozen i
      clear ls hb4 wm
      go_wp2_with fail
      refine Handed.intro (nk - (i + 1)) (by have := hgk.out; omega) ?_
      go_step
      refine frm_meet (by kernel_rfl) ?_
      exact ⟨i + 1, rfl, hlt, ⟨rfl, rfl, rfl, rfl, rfl, rfl, rfl, rfl⟩, rfl, _, _, ls2⟩
    · obtain rfl : i = nk := by omega
      have hdm : decide (i < i) = false := by simp
      have pr := ls.done
      obtain ⟨c, hc⟩ : ∃ c : Cx, c = ⟨w, base, gp, gc, h, n, i, px, pg, ph, gcs, gst, gmn, cs⟩ := ⟨_, rfl⟩
      rw [← hc] at pr
      clear ls
      have hfr := frm_lit v
      rw [cm.v1, cm.v5, cm.v6, cm.v7, cm.v9, cm.v11, cm.v12, cm.v13, h14] at hfr
      rw [hfr]
      clear hfr cm
      have e1 : c.w0 = w := by rw [hc]
      have e2 : c.gp = gp := by rw [hc]
      have e3 : c.n = n := by rw [hc]
      have e4 : c.nk = i := by rw [hc]
      have e5 : c.px = px := by rw [hc]
      have e6 : c.gcs = gcs := by rw [hc]
      have e7 : c.gst = gst := by rw [hc]
      have e8 : c.gmn = gmn := by rw [hc]
      clear hc h14
      subst e1 e2 e3 e4 e5 e6 e7 e8
      clear hgk hin
      go_upto_block 2 with fail
      refine wp_cut (fun a' wx => ∃ v : Nat → Value, a' = ⟨(frm v).toArray, []⟩ ∧ PCm A m cap c.n c.nk c.gp c.px c.gcs c.gst c.gmn v ∧ PRz c wx 0) ?_ ?_
      rotate_left
      · intro _ _ _ _
        go_wp2_with fail
        refine wp_loop_ghost_k (fun gk a' wr => ∃ v : Nat → Value, a' = ⟨(frm v).toArray, []⟩ ∧ ∃ i : Nat, gk = m - i ∧ i ≤ m ∧ i ≤ 400 ∧ PCm A m cap c.n c.nk c.gp c.px c.gcs c.gst c.gmn v ∧ v 15 = .int .i64 i ∧ PRz c wr 0) m ?_ ?_
        · refine frm_meet (by kernel_rfl) ?_
          exact ⟨0, rfl, Nat.zero_le _, Nat.zero_le _, ⟨rfl, rfl, rfl, rfl, rfl, rfl, rfl, rfl⟩, rfl, pr⟩
        · clear pr
          intro gk a' wr hrel _ _ _ _
          obtain ⟨v, rfl, i, hgk, him, hi4, cm, h15, pr⟩ := hrel
          by_cases hlt : i < m ∧ i < 400
          · obtain ⟨hlt, hlt4⟩ := hlt
            obtain ⟨pb, po, rfl, hpb, c0, cr⟩ := rdp.at_ hlt
            have cx := pr.below.cell (p := ⟨pb, po + i, none⟩) hpb |>.trans c0
            clear c0
            generalize Lp.getD i 0 = x at *
            have hdm : decide (i < m) = true := by simpa using hlt
            have hdm2 : decide ((i : Int) < 400) = true := by simp; omega
            have hnu : IntKind.u64.wrap (c.nk : Int) = c.nk := by rw [IntKind.wrap_u64]; omega
            obtain ⟨k, hk, hkn⟩ := modn x c.nk (by omega)
            replace hkn : k < c.nk := by omega
            have hk0 : (0 : Int) ≤ k := by omega
            have hkn3 : (k : Int) < c.nk := by omega
            obtain ⟨wk, s, sp, mv, pf⟩ := pr.at_ (Nat.zero_le _) hkn
            obtain ⟨y1, y2, ⟨cb, hcb, y3⟩, l1, l2, l3, f1, f2⟩ := pf.cells
            clear pr
            replace hgk := Lib.hid hgk
            have hfr := frm_lit v
            rw [cm.v1, cm.v5, cm.v6, cm.v7, cm.v9, cm.v11, cm.v12, cm.v13, h15] at hfr
            rw [hfr]
            clear hfr cm
            clear h15
            go_upto_block 4 with fail
            clear hk
            refine wp_cut (fun a' wx => ∃ v : Nat → Value, a' = ⟨(frm v).toArray, []⟩ ∧ PCm (some ⟨pb, po, none⟩) m cap c.n c.nk c.gp c.px c.gcs c.gst c.gmn v ∧ v 15 = .int .i64 i ∧ PRz c wx 0) ?_ ?_
            rotate_left
            · intro _ _ _ _
              by_cases hs : s = .none
              · subst hs
                obtain rfl := pf.nil_iff.1 rfl
                obtain ⟨own, hbs⟩ := pf.own
                obtain ⟨m3, hm3⟩ : ∃ m3, (iN wk.mine).length = m3 := ⟨_, rfl⟩
                obtain ⟨A3, c3, rfl, hmc3, hc3, rd3⟩ := own.form hm3
                have hm60 := pf.mine_len
                rw [hm3] at hm60
                go_upto_region 31 with fail
                refine wp_cut (fun a' wx => ∃ v : Nat → Value, a' = ⟨(frm v).toArray, []⟩ ∧ PCm (some ⟨pb, po, none⟩) m cap c.n c.nk c.gp c.px c.gcs c.gst c.gmn v ∧ v 15 = .int .i64 i ∧ v 16 = .int .i64 k ∧ v 17 = .pointer (some ⟨cb, 0, none⟩) ∧ ∃ b : Bool, v 167 = .bool b ∧ (b = true → 0 < m3) ∧ wx = wr) ?_ ?_
                rotate_left
                · intro _ _ _ _
                  clear pf own rd3 hm3
                  by_cases ht : (IntKind.u64.wrap ((IntKind.u64.wrap x).tdiv 8)).tmod 3 = 0
                  · rcases Nat.eq_zero_or_pos m3 with h0 | h0
                    · have hd : decide (0 < m3) = false := by simp; omega
                      go_wp2_with fail
                      refine Met.intro ?_
                      go_step
                      refine frm_meet (by kernel_rfl) ?_
                      exact ⟨⟨rfl, rfl, rfl, rfl, rfl, rfl, rfl, rfl⟩, rfl, rfl, rfl, false, rfl, by simp, rfl⟩
                    · have hd : decide (0 < m3) = true := by simpa using h0
                      go_wp2_with fail
                      refine Met.intro ?_
                      go_step
                      refine frm_meet (by kernel_rfl) ?_
                      exact ⟨⟨rfl, rfl, rfl, rfl, rfl, rfl, rfl, rfl⟩, rfl, rfl, rfl, true, rfl, fun _ => h0, rfl⟩
                  · go_wp2_with fail
                    refine Met.intro ?_
                    go_step
                    refine frm_meet (by kernel_rfl) ?_
                    exact ⟨⟨rfl, rfl, rfl, rfl, rfl, rfl, rfl, rfl⟩, rfl, rfl, rfl, false, rfl, by simp, rfl⟩
                intro a' wx hcut
                obtain ⟨v, rfl, cm, h15, h16, h17, b, h167, hbm, rfl⟩ := hcut
                have hfr := frm_lit v
                rw [cm.v1, cm.v5, cm.v6, cm.v7, cm.v9, cm.v11, cm.v12, cm.v13, h15, h16, h17, h167] at hfr
                rw [hfr]
                clear hfr cm
                clear h15 h16 h17 h167 cx
                cases b with
                | true =>
                  replace hbm := hbm rfl
                  obtain ⟨id, r, hmi⟩ : ∃ id r, wk.mine = id :: r := by
                    cases hmm : wk.mine with
                    | nil => rw [hmm] at hm3; simp [iN] at hm3; omega
                    | cons id r => exact ⟨id, r, rfl⟩
                  obtain ⟨g3, c3', e3, _, _, _, _⟩ := own.formG hm3 hbm
                  simp only [Value.slice.injEq] at e3
                  obtain ⟨rfl, _, rfl⟩ := e3
                  obtain ⟨x1, _, _⟩ := own.at_ hm3 hbm
                  have x2 : (iN wk.mine).getD 0 0 = (id : Int) := by rw [hmi]; rfl
                  rw [x2] at x1
                  obtain ⟨gen, hg, kl, kc⟩ := pf.free_ (id := id) (by rw [hmi]; simp)
                  clear x2
                  replace kl := Lib.hid kl
                  replace kc := Lib.hid kc
                  replace pf := Lib.hid pf
                  replace own := Lib.hid own
                  replace rd3 := Lib.hid rd3
                  replace hmi := Lib.hid hmi
                  go_wp2_with fail
                  refine kl.out.mono ?_
                  rintro e W5 ⟨rfl, hb5⟩
                  go_upto_region 36 with fail
                  have b6 : Below wx.heap.size wx ((W5.alloc (.cells #[.int .i64 1, .int .i64 gen, .int .i64 0, .int .i64 0] 41)).alloc (.cells #[.int .i64 0, .int .i64 gen, .int .i64 0, .int .i64 0] 41)) := (hb5.alloc hb5.size _).alloc (by have := hb5.size; simp; omega) _
                  go_wp2_with fail
                  refine (kc.out _ b6).mono ?_
                  clear kl kc b6 hb5 own rd3 x1 y1 y2 y3 f1 f2 pf l1 l2 l3
                  rintro e W7 ⟨rfl, pf7, _⟩
                  obtain ⟨_, y27, _, _, l27, _, _, _⟩ := pf7.cells
                  have own7 := pf7.own.1
                  have hbs7 := pf7.own.2
                  obtain ⟨A4, hA4, rd4⟩ := (own7.rd hm3).cut (m := 1) (cap := c3) (by omega) (by omega)
                  replace hA4 : (if c3 = 1 then some ⟨g3, 0, none⟩ else some ⟨g3, 1, none⟩) = A4 := by rw [← hA4]; simp [Addr.add]
                  rw [hmi.out] at rd4
                  replace rd4 : Rd .i64 W7 W7.heap.size A4 (m3 - 1) (iN r) := rd4
                  have own0 := Own.new .i64 W7 3 W7.heap.size (Nat.le_refl _) [] (by simp) #[] rfl 0 rfl (by simp)
                  have rd5 := rd4.alloc (Nat.le_refl _) (.cells #[] 3)
                  have bel0 := bel_alloc W7 (.cells #[] 3)
                  have hlr : (iN r).length = m3 - 1 := by have := rd5.len; exact this
                  have y28 := bel0.cell (p := ⟨c.gmn, k, none⟩) l27 |>.trans y27
                  replace pf7 := Lib.hid pf7
                  have m31 : (1 : Int) ≤ (m3 : Int) := by omega
                  have m32 : (m3 : Int) ≤ (c3 : Int) := by omega
                  go_wp2_with (at_builtin; refine wpList_app _ rfl (.tmp 203) (.tmp 208) 23 rfl .i64 W7.heap.size 3 i0 (.int .i64 0) 8 Tryz.underlying23 hi hz0 hz1 hz2 rfl (.slice (some ⟨W7.heap.size, 0, none⟩) 0 0) rfl [] own0 _ _ _ _ rfl (iN r) rd5 (by simp; omega) (by decide) (by simp) ?_; intro v1 W8 own1 hg1 hv1; rw [List.nil_append] at own1; have bel1 : Below W7.heap.size W7 W8 := bel0.grown hg1 (by simp) (fun k h => by simp [Value.ownBlock] at h; omega); obtain ⟨A5, c5, rfl, _, _, _⟩ := own1.form hlr; have cel8 := (pf7.out.bel bel1).cells)
                  have pf9 := pf7.out.mine (S := fun _ => False) (v := .slice A5 (m3 - 1) c5) (ms' := r) (Upd.of_below bel1 _) (fun _ e => e.elim) (own1.monoB hbs7) (fun b hb => Or.inr (own1.lt b hb).1)
                  refine (pf9.put_ (Nat.zero_le _) hcb hmi.out (Or.inr rfl)).mono ?_
                  rintro e W9 ⟨sp', k', s', rfl, pf10, hm10, hs10⟩
                  rw [if_neg (by simp)] at pf10
                  obtain ⟨sb, rfl⟩ := pf10.nil_iff.2 hs10
                  obtain ⟨z1, _, _, l1, _, _, f3, _⟩ := pf10.cells
                  have pf11 := pf10.step (.pointer (some ⟨sb, 0, none⟩))
                  rw [← hm10] at pf11
                  have pr := pf11.back
                  clear pf7 pf9 pf10 pf11 own1 hg1 own0 rd4 rd5 cel8 y27 y28 bel0 bel1 hv1 hA4
                  go_wp2_with fail
                  refine Met.intro ?_
                  go_step
                  refine frm_meet (by kernel_rfl) ?_
                  exact ⟨⟨rfl, rfl, rfl, rfl, rfl, rfl, rfl, rfl⟩, rfl, pr⟩
                | false =>
                  clear hbm
                  rcases List.eq_nil_or_concat wk.list with hnil | ⟨r, id, hli⟩
                  · have kt := pf.top0 hcb hnil
                    replace kt := Lib.hid kt
                    replace hnil := Lib.hid hnil
                    go_wp2_with fail
                    refine kt.out.mono ?_
                    rintro e W5 ⟨rfl, hb5⟩
                    go_wp2_with fail
                    refine ((pf.bel hb5).fill_ (Nat.zero_le _) hcb hnil.out).mono ?_
                    rintro e W6 ⟨sp', s', rfl, pf6, hs6⟩
                    obtain ⟨sb, rfl⟩ := pf6.nil_iff.2 hs6
                    obtain ⟨z1, _, _, l1', _, _, f3, _⟩ := pf6.cells
                    have pr := (pf6.step (.pointer (some ⟨sb, 0, none⟩))).back
                    clear pf pf6 own rd3 kt hb5 y1 y2 y3
                    go_wp2_with fail
                    refine Met.intro ?_
                    go_step
                    refine frm_meet (by kernel_rfl) ?_
                    exact ⟨⟨rfl, rfl, rfl, rfl, rfl, rfl, rfl, rfl⟩, rfl, pr⟩
                  · rw [List.concat_eq_append] at hli
                    have kt := pf.top1 hcb hli
                    replace kt := Lib.hid kt
                    replace hli := Lib.hid hli
                    clear own rd3 hm3 y2 f2
                    go_wp2_with fail
                    refine kt.out.mono ?_
                    rintro e W5 ⟨rfl, hb5⟩
                    have pf5 := pf.bel hb5
                    obtain ⟨gen, hg, kl, kc⟩ := pf5.made_ (id := id) (by rw [hli.out]; simp)
                    have hidn : id < c.n := by obtain ⟨g, p⟩ := pf; exact (p.list_free (by rw [hli.out]; simp)).2
                    clear pf kt hb5 y1 y3 f1
                    replace kl := Lib.hid kl
                    replace kc := Lib.hid kc
                    replace pf5 := Lib.hid pf5
                    go_wp2_with fail
                    refine kl.out.mono ?_
                    rintro e W6 ⟨rfl, hb6⟩
                    go_upto_region 22 with fail
                    have b7 := bel_after hb6 (bel_alloc W6 (.cells #[.int .i64 0, .int .i64 gen, .int .i64 0, .int .i64 0] 41))
                    have hgm : (gen + 1).tmod 65536 = (gen + 1) % 65536 := by rw [Int.tmod_eq_emod_of_nonneg (by omega)]
                    go_wp2_with fail
                    refine (kc.out _ b7).mono ?_
                    clear kl kc b7 hb6 pf5 hgm
                    rintro e W7 ⟨rfl, pf7, _⟩
                    have hne : ((id : Int) != (id : Int)) = false := by simp
                    replace pf7 := Lib.hid pf7
                    go_wp2_with fail
                    refine (pf7.out.pop_ (Nat.zero_le _) hcb hli.out).mono ?_
                    clear pf7
                    rintro e W8 ⟨rfl, pf8⟩
                    obtain ⟨_, y28, _, _, l28, _, _, f28⟩ := pf8.cells
                    have own8 := pf8.own.1
                    have hbs8 := pf8.own.2
                    have hl8 := pf8.mine_len
                    have hl9 : (iN wk.mine).length ≤ 60 := by rw [iN_len] at hl8 ⊢; simp at hl8; omega
                    have hrg : inr .i64 (id : Int) := i64_inr (by omega)
                    have hrd := Rd.new .i64 W8 3 [(id : Int)] (by intro y hy; simp at hy; subst hy; exact hrg) #[.int .i64 (id : Int)] rfl 1 rfl
                    replace pf8 := Lib.hid pf8
                    obtain ⟨n9, hn9⟩ : ∃ n9, (iN wk.mine ++ [(id : Int)]).length = n9 := ⟨_, rfl⟩
                    clear hl8
                    go_wp2_with (at_builtin; refine wpList_app _ rfl (.tmp 147) (.tmp 149) 23 rfl .i64 c.base 3 i0 (.int .i64 0) 8 Tryz.underlying23 hi hz0 hz1 hz2 rfl _ rfl (iN wk.mine) (own8.alloc _) (W8.heap.size + 1) _ 1 1 rfl [(id : Int)] hrd (by omega) (by decide) (by simp; omega) ?_; intro v9 W9 own9 hg9 hv9; have hu9 : Upd (fun b => (Value.slice A3 m3 c3).ownBlock = some b) W8 W9 := (Upd.of_below (bel_alloc W8 _) _).trans (Upd.of_grown hg9 (fun g e => e)); obtain ⟨cel9, fr9⟩ := pf8.out.keepM hu9 (fun _ e => e); obtain ⟨A9, c9, rfl, _, _, _⟩ := own9.form hn9)
                    have pf9 := pf8.out.mine (v := .slice A9 n9 c9) (ms' := wk.mine ++ [id]) hu9 (fun _ e => e) (by rw [iN_app]; exact own9) (fun b hb => by
                      rcases hv9 with e | e
                      · exact Or.inl (e ▸ hb)
                      · rw [hb] at e; simp at e; exact Or.inr (by omega))
                    have pr := pf9.back
                    clear pf8 pf9 own8 own9 hg9 hv9 hu9 hrd cel9 fr9 y28 f28 l28
                    refine Met.intro ?_
                    go_step
                    refine frm_meet (by kernel_rfl) ?_
                    exact ⟨⟨rfl, rfl, rfl, rfl, rfl, rfl, rfl, rfl⟩, rfl, pr⟩
              · obtain ⟨sb, rfl⟩ := pf.nil_iff.2 hs
                go_wp2_with fail
                refine (pf.toB.do_ (Nat.zero_le _) hcb hs).mono ?_
                rintro e W5 ⟨wk', s', rfl, pfb, hmn, _, _⟩
                have pf5 := pfb.toF
                obtain ⟨z1, _, _, _, _, _, f3, _⟩ := pf5.cells
                clear pf pfb
                cases hsn : s'.isN with
                | true =>
                  have hpo : spOf s' (.pointer (some ⟨sb, 0, none⟩)) = .pointer none := by unfold spOf; rw [if_pos hsn]
                  rw [hpo] at pf5
                  have pf6 := pf5.step (.pointer none)
                  rw [← hmn] at pf6
                  have pr6 := pf6.back
                  clear pf5 pf6 hsn hpo hmn
                  go_wp2_with fail
                  refine Met.intro ?_
                  go_step
                  refine frm_meet (by kernel_rfl) ?_
                  exact ⟨⟨rfl, rfl, rfl, rfl, rfl, rfl, rfl, rfl⟩, rfl, pr6⟩
                | false =>
                  have hpo : spOf s' (.pointer (some ⟨sb, 0, none⟩)) = .pointer (some ⟨sb, 0, none⟩) := by unfold spOf; rw [if_neg (by rw [hsn]; simp)]
                  rw [hpo, ← hmn] at pf5
                  have pr6 := pf5.back
                  clear pf5 hsn hpo hmn
                  go_wp2_with fail
                  refine Met.intro ?_
                  go_step
                  refine frm_meet (by kernel_rfl) ?_
                  exact ⟨⟨rfl, rfl, rfl, rfl, rfl, rfl, rfl, rfl⟩, rfl, pr6⟩
            · intro a' wx hcut
              obtain ⟨v, rfl, cm, h15, pr⟩ := hcut
              have hfr := frm_lit v
              rw [cm.v1, cm.v5, cm.v6, cm.v7, cm.v9, cm.v11, cm.v12, cm.v13, h15] at hfr
              rw [hfr]
              clear hfr cm
              clear h15
              have ko := pr.once
              clear pr cx y1 y2 y3 l1 l2 l3 f1 f2 pf
              replace ko := Lib.hid ko
              go_wp2_with fail
              refine ko.out.mono ?_
              rintro e W5 ⟨rfl, pr⟩
              go_wp2_with fail
              refine Handed.intro (m - (i + 1)) (by have := hgk.out; omega) ?_
              go_step
              refine frm_meet (by kernel_rfl) ?_
              exact ⟨i + 1, rfl, by omega, by omega, ⟨rfl, rfl, rfl, rfl, rfl, rfl, rfl, rfl⟩, rfl, pr⟩
          · clear rdp
            rcases (by omega : i = m ∨ (i < m ∧ i = 400)) with rfl | ⟨hlt2, rfl⟩
            · have hdm : decide (i < i) = false := by simp
              have hfr := frm_lit v
              rw [cm.v1, cm.v5, cm.v6, cm.v7, cm.v9, cm.v11, cm.v12, cm.v13, h15] at hfr
              rw [hfr]
              clear hfr cm
              go_wp2_with fail
              refine Met.intro ?_
              go_step
              refine frm_meet (by kernel_rfl) ?_
              exact ⟨⟨rfl, rfl, rfl, rfl, rfl, rfl, rfl, rfl⟩, pr⟩
            · have hdm : decide (400 < m) = true := by simpa using hlt2
              have hdm2 : decide ((400 : Int) < m) = true := by simp; omega
              have hfr := frm_lit v
              rw [cm.v1, cm.v5, cm.v6, cm.v7, cm.v9, cm.v11, cm.v12, cm.v13, h15] at hfr
              rw [hfr]
              clear hfr cm
              go_wp2_with fail
              refine Met.intro ?_
              go_step
              refine frm_meet (by kernel_rfl) ?_
              exact ⟨⟨rfl, rfl, rfl, rfl, rfl, rfl, rfl, rfl⟩, pr⟩
      intro a' wx hcut
      obtain ⟨v, rfl, cm, pr⟩ := hcut
      clear rdp
      have hfr := frm_lit v
      rw [cm.v1, cm.v5, cm.v6, cm.v7, cm.v9, cm.v11, cm.v12, cm.v13] at hfr
      rw [hfr]
      clear hfr cm
      go_upto_block 5 with fail
      refine wp_cut (fun a' wx => ∃ v : Nat → Value, a' = ⟨(frm v).toArray, []⟩ ∧ PCm A m cap c.n c.nk c.gp c.px c.gcs c.gst c.gmn v ∧ PRz c wx c.nk) ?_ ?_
      rotate_left
      · intro _ _ _ _
        go_wp2_with fail
        refine wp_loop_ghost_k (fun gk a' wr => ∃ v : Nat → Value, a' = ⟨(frm v).toArray, []⟩ ∧ ∃ w : Nat, gk = c.nk - w ∧ w ≤ c.nk ∧ PCm A m cap c.n c.nk c.gp c.px c.gcs c.gst c.gmn v ∧ v 26 = .int .i64 w ∧ PRz c wr w) c.nk ?_ ?_
        · refine frm_meet (by kernel_rfl) ?_
          exact ⟨0, rfl, Nat.zero_le _, ⟨rfl, rfl, rfl, rfl, rfl, rfl, rfl, rfl⟩, rfl, pr⟩
        · clear pr
          intro gk a' wr hrel _ _ _ _
          obtain ⟨v, rfl, w, hgk, hwn, cm, h26, pr⟩ := hrel
          by_cases hlt : w < c.nk
          · have hdm : decide (w < c.nk) = true := by simpa using hlt
            have hw0 : (0 : Int) ≤ w := by omega
            have hw1 : (w : Int) < c.nk := by omega
            replace hgk := Lib.hid hgk
            have hfr := frm_lit v
            rw [cm.v1, cm.v5, cm.v6, cm.v7, cm.v9, cm.v11, cm.v12, cm.v13, h26] at hfr
            rw [hfr]
            clear hfr cm
            clear h26
            go_upto_block 7 with fail
            refine wp_cut (fun a' wx => ∃ v : Nat → Value, a' = ⟨(frm v).toArray, []⟩ ∧ PCm A m cap c.n c.nk c.gp c.px c.gcs c.gst c.gmn v ∧ v 26 = .int .i64 w ∧ ∃ k sp pv mv, PF c wx w w k .none sp pv mv mv k.mine none) ?_ ?_
            rotate_left
            · intro _ _ _ _
              obtain ⟨k, s, sp, mv, pf⟩ := pr.at_ (Nat.le_refl _) hlt
              clear pr
              go_wp2_with fail
              refine wp_loop_ghost_k (fun gk a' wr => ∃ v : Nat → Value, a' = ⟨(frm v).toArray, []⟩ ∧ ∃ t : Nat, gk = 6 - t ∧ PCm A m cap c.n c.nk c.gp c.px c.gcs c.gst c.gmn v ∧ v 26 = .int .i64 w ∧ v 27 = .int .i64 t ∧ ∃ k s sp mv B, PFB c wr w w k s sp sp mv mv k.mine none B ∧ t + B ≤ 6) 6 ?_ ?_
              · refine frm_meet (by kernel_rfl) ?_
                exact ⟨0, rfl, ⟨rfl, rfl, rfl, rfl, rfl, rfl, rfl, rfl⟩, rfl, rfl, k, s, sp, mv, 6, pf.toB, by omega⟩
              · clear pf k s sp mv
                intro gk2 a' wr hrel _ _ _ _
                obtain ⟨v, rfl, t, hgk2, cm, h26, h27, k, s, sp, mv, B, pf, hB⟩ := hrel
                have hd : decide ((t : Int) < 100) = true := by simp; omega
                have hd2 : decide (t < 100) = true := by simp; omega
                replace hgk2 := Lib.hid hgk2
                have hfr := frm_lit v
                rw [cm.v1, cm.v5, cm.v6, cm.v7, cm.v9, cm.v11, cm.v12, cm.v13, h26, h27] at hfr
                rw [hfr]
                clear hfr cm
                clear h26 h27
                by_cases hs : s = .none
                · subst hs
                  obtain rfl := pf.toF.nil_iff.1 rfl
                  obtain ⟨y1, y2, ⟨cb, hcb, y3⟩, l1, l2, l3, f1, f2⟩ := pf.toF.cells
                  go_upto_region 46 with fail
                  go_region
                  have pf2 := pf.toF.bel ((Below.refl wr.heap.size wr).drew)
                  clear pf y1 y2 y3 l1 l2 l3 f1 f2
                  generalize wr.drew = w3 at *
                  go_wp2_with fail
                  refine Met.intro ?_
                  go_step
                  refine frm_meet (by kernel_rfl) ?_
                  exact ⟨⟨rfl, rfl, rfl, rfl, rfl, rfl, rfl, rfl⟩, rfl, k, _, _, mv, pf2⟩
                · obtain ⟨sb, rfl⟩ := pf.toF.nil_iff.2 hs
                  go_upto_region 46 with fail
                  have pf2 := pf.bel ((Below.refl wr.heap.size wr).drew)
                  clear pf
                  obtain ⟨y1, y2, ⟨cb, hcb, y3⟩, l1, l2, l3, f1, f2⟩ := pf2.toF.cells
                  have zz : Nonempty (Tw (fun w' => w'.cell? ⟨c.gst, w, none⟩ = some (.pointer (some ⟨sb, 0, none⟩)) ∧ w'.cell? ⟨c.gcs, w, none⟩ = some (.pointer (some ⟨cb, 0, none⟩)))) := ⟨⟨wr.drew, y1, y3⟩⟩
                  have z1 : ∀ t : Tw (fun w' => w'.cell? ⟨c.gst, w, none⟩ = some (.pointer (some ⟨sb, 0, none⟩)) ∧ w'.cell? ⟨c.gcs, w, none⟩ = some (.pointer (some ⟨cb, 0, none⟩))), t.w.cell? ⟨c.gst, w, none⟩ = some (.pointer (some ⟨sb, 0, none⟩)) := fun t => t.h.1
                  have z2 : ∀ t : Tw (fun w' => w'.cell? ⟨c.gst, w, none⟩ = some (.pointer (some ⟨sb, 0, none⟩)) ∧ w'.cell? ⟨c.gcs, w, none⟩ = some (.pointer (some ⟨cb, 0, none⟩))), t.w.cell? ⟨c.gcs, w, none⟩ = some (.pointer (some ⟨cb, 0, none⟩)) := fun t => t.h.2
                  refine wp_region_plan (fun w' => w'.cell? ⟨c.gst, w, none⟩ = some (.pointer (some ⟨sb, 0, none⟩)) ∧ w'.cell? ⟨c.gcs, w, none⟩ = some (.pointer (some ⟨cb, 0, none⟩))) [(0, true), (1, true), (2, true), (3, true), (4, true), (5, true), (6, true), (7, true), (8, true), (9, true), (10, true), (11, true), (12, true), (13, true), (14, true), (15, true), (16, true), (17, true), (18, false), (19, true), (20, true)] (by kernel_rfl) (by kernel_rfl) (by kernel_rfl) (by kernel_rfl) ⟨y1, y3⟩ ?_
                  clear y1 y2 y3 l1 l2 l3 f1 f2
                  generalize wr.drew = w3 at *
                  refine wpPl_qs 18 _ _ _ (by kernel_rfl) (by kernel_rfl) (by simp) ?_
                  unfold clsS
                  simp only [List.take_succ_cons, List.take_zero, List.drop_succ_cons, List.drop_zero, List.filterMap_cons, List.filterMap_nil, List.getElem?_toArray, List.getElem?_cons_zero, List.getElem?_cons_succ]
                  repeat (first
                    | go_big_quiet_skip
                    | (go_big_quiet_want; go_big_quiet_op; go_big_quiet_on)
                    | (refine id (?_ : wpQuiet _ _ _ _ (_ :: _) _); first | go_big_quiet_skip | (go_big_quiet_want; go_big_quiet_op; go_big_quiet_on)))
                  refine wpQuiet_nil ?_
                  refine wpPl_e _ (by rfl) (by kernel_rfl) (fun K hK => ?_)
                  go_simp
                  refine (pf2.do_ (Nat.le_refl _) hcb hs).mono ?_
                  rintro e w4 ⟨k', s', rfl, pf4, hm4, hB1, _⟩
                  obtain ⟨y1, _, ⟨cb2, hcb2, y3⟩, _⟩ := pf4.toF.cells
                  rw [hcb] at hcb2
                  cases hcb2
                  refine hK _ _ ⟨y1, y3⟩ ?_
                  clear hK K pf2
                  refine wpPl_qs 2 _ _ _ (by kernel_rfl) (by kernel_rfl) (by simp) ?_
                  unfold clsS
                  simp only [List.take_succ_cons, List.take_zero, List.drop_succ_cons, List.drop_zero, List.filterMap_cons, List.filterMap_nil, List.getElem?_toArray, List.getElem?_cons_zero, List.getElem?_cons_succ]
                  repeat (first
                    | go_big_quiet_skip
                    | (go_big_quiet_want; go_big_quiet_op; go_big_quiet_on)
                    | (refine id (?_ : wpQuiet _ _ _ _ (_ :: _) _); first | go_big_quiet_skip | (go_big_quiet_want; go_big_quiet_op; go_big_quiet_on)))
                  refine wpQuiet_nil ?_
                  unfold wpPl
                  refine NoPanic.normal ?_
                  cases hsn : s'.isN with
                  | true =>
                    obtain rfl := St.isN_iff.1 hsn
                    have pf5 := pf4.toF
                    rw [← hm4] at pf5
                    clear pf4 z1 z2 zz y1 y3
                    go_wp2_with fail
                    refine Met.intro ?_
                    go_step
                    refine frm_meet (by kernel_rfl) ?_
                    exact ⟨⟨rfl, rfl, rfl, rfl, rfl, rfl, rfl, rfl⟩, rfl, k', _, _, mv, pf5⟩
                  | false =>
                    have hpo : spOf s' (.pointer (some ⟨sb, 0, none⟩)) = .pointer (some ⟨sb, 0, none⟩) := by unfold spOf; rw [if_neg (by rw [hsn]; simp)]
                    rw [hpo, ← hm4] at pf4
                    clear z1 z2 zz y1 y3
                    replace pf4 := Lib.hid pf4
                    go_wp2_with fail
                    refine Handed.intro (6 - (t + 1)) (by have := hgk2.out; omega) ?_
                    go_step
                    refine frm_meet (by kernel_rfl) ?_
                    exact ⟨t + 1, rfl, ⟨rfl, rfl, rfl, rfl, rfl, rfl, rfl, rfl⟩, rfl, rfl, k', s', _, mv, B - 1, pf4.out, by omega⟩
            · intro a' wx hcut
              obtain ⟨v, rfl, cm, h26, k, sp, pv, mv, pf⟩ := hcut
              have hfr := frm_lit v
              rw [cm.v1, cm.v5, cm.v6, cm.v7, cm.v9, cm.v11, cm.v12, cm.v13, h26] at hfr
              rw [hfr]
              clear hfr cm
              clear h26
              go_upto_block 9 with fail
              refine wp_cut (fun a' wx => ∃ v : Nat → Value, a' = ⟨(frm v).toArray, []⟩ ∧ PCm A m cap c.n c.nk c.gp c.px c.gcs c.gst c.gmn v ∧ v 26 = .int .i64 w ∧ ∃ k sp pv mvv mv ms, PF c wx w w k .none sp pv mvv mv ms none ∧ k.mine = []) ?_ ?_
              rotate_left
              · intro _ _ _ _
                go_wp2_with fail
                refine wp_loop_ghost_k (fun gk a' wr => ∃ v : Nat → Value, a' = ⟨(frm v).toArray, []⟩ ∧ ∃ m3 : Nat, gk = m3 ∧ PCm A m cap c.n c.nk c.gp c.px c.gcs c.gst c.gmn v ∧ v 26 = .int .i64 w ∧ ∃ k sp pv mvv mv ms, PF c wr w w k .none sp pv mvv mv ms none ∧ HdM mv mvv ms k.mine m3) k.mine.length ?_ ?_
                · refine frm_meet (by kernel_rfl) ?_
                  exact ⟨_, rfl, ⟨rfl, rfl, rfl, rfl, rfl, rfl, rfl, rfl⟩, rfl, k, sp, pv, mv, mv, _, pf, pf.hdm0⟩
                · clear pf k sp pv mv
                  intro gk2 a' wr hrel _ _ _ _
                  obtain ⟨v, rfl, m3, hgk2, cm, h26, k, sp, pv, mvv, mv, ms, pf, j, A3, c3, rfl, hmc, hcm, hlj, hlm, hA⟩ := hrel
                  have hm60 := pf.mine_len
                  rw [iN_len, hlm] at hm60
                  obtain ⟨y1, y2, ⟨cb, hcb, y3⟩, l1, l2, l3, f1, f2⟩ := pf.cells
                  replace hgk2 := Lib.hid hgk2
                  have hfr := frm_lit v
                  rw [cm.v1, cm.v5, cm.v6, cm.v7, cm.v9, cm.v11, cm.v12, cm.v13, h26] at hfr
                  rw [hfr]
                  clear hfr cm
                  clear h26
                  rcases Nat.eq_zero_or_pos m3 with rfl | h0
                  · have hk0 : k.mine = [] := List.length_eq_zero_iff.1 hlm
                    clear hA hlj hlm
                    go_wp2_with fail
                    refine Met.intro ?_
                    go_step
                    refine frm_meet (by kernel_rfl) ?_
                    exact ⟨⟨rfl, rfl, rfl, rfl, rfl, rfl, rfl, rfl⟩, rfl, k, sp, pv, _, mv, ms, pf, hk0⟩
                  · have hd : decide (0 < m3) = true := by simpa using h0
                    obtain ⟨pid, r, hmi⟩ : ∃ pid r, k.mine = pid :: r := by
                      cases hmm : k.mine with
                      | nil => rw [hmm] at hlm; simp at hlm; omega
                      | cons pid r => exact ⟨pid, r, rfl⟩
                    obtain ⟨g3, cc, hmv, rfl⟩ := hA h0
                    clear hA
                    have hdr : ms.drop j = pid :: r := by rw [← hlj, hmi]
                    have hidn : pid < c.n := by obtain ⟨g, p⟩ := pf; exact (p.mine_made (by rw [hmi]; simp)).2
                    replace hmv := Lib.hid hmv
                    go_upto_region 49 with fail
                    have pf2 := pf.bel ((Below.refl wr.heap.size wr).drew)
                    have bd := (Below.refl wr.heap.size wr).drew
                    replace y2 := (bd.cell (p := ⟨c.gmn, w, none⟩) l2).trans y2
                    replace y3 := (bd.cell (p := ⟨c.gcs, w, none⟩) l3).trans y3
                    clear pf y1 l1 l2 l3 f1 f2 bd
                    have y4 := (pf2.hd hdr hmv.out).1
                    have zz : Nonempty (Tw (ClP c cb w g3 j m3 c3 pid)) := ⟨⟨wr.drew, y3, y2, y4⟩⟩
                    have z1 : ∀ t : Tw (ClP c cb w g3 j m3 c3 pid), t.w.cell? ⟨c.gcs, w, none⟩ = some (.pointer (some ⟨cb, 0, none⟩)) := fun t => t.h.a
                    have z2 : ∀ t : Tw (ClP c cb w g3 j m3 c3 pid), t.w.cell? ⟨c.gmn, w, none⟩ = some (.slice (some ⟨g3, j, none⟩) m3 c3) := fun t => t.h.b
                    have z3 : ∀ t : Tw (ClP c cb w g3 j m3 c3 pid), t.w.cell? ⟨g3, j, none⟩ = some (.int .i64 (pid : Int)) := fun t => t.h.d
                    refine wp_region_plan (ClP c cb w g3 j m3 c3 pid) [(0, true), (1, true), (2, true), (3, true), (4, true), (5, true), (6, true), (7, true), (8, true), (9, true), (10, false), (11, true)] (by kernel_rfl) (by kernel_rfl) (by kernel_rfl) (by kernel_rfl) ⟨y3, y2, y4⟩ ?_
                    clear y2 y3 y4
                    generalize wr.drew = w3 at *
                    refine wpPl_qs 10 _ _ _ (by kernel_rfl) (by kernel_rfl) (by simp) ?_
                    unfold clsS
                    simp only [List.take_succ_cons, List.take_zero, List.drop_succ_cons, List.drop_zero, List.filterMap_cons, List.filterMap_nil, List.getElem?_toArray, List.getElem?_cons_zero, List.getElem?_cons_succ]
                    repeat (first
                      | go_big_quiet_skip
                      | (go_big_quiet_want; go_big_quiet_op; go_big_quiet_on)
                      | (refine id (?_ : wpQuiet _ _ _ _ (_ :: _) _); first | go_big_quiet_skip | (go_big_quiet_want; go_big_quiet_op; go_big_quiet_on)))
                    refine wpQuiet_nil ?_
                    refine wpPl_e _ (by rfl) (by kernel_rfl) (fun K hK => ?_)
                    go_simp
                    refine (pf2.put_ (Nat.le_refl _) hcb hmi (Or.inl rfl)).mono ?_
                    rintro e w4 ⟨sp4, k4, s4, rfl, pf4, hm4, hs4⟩
                    obtain ⟨y1, y2, ⟨cb2, hcb2, y3⟩, l1, l2, l3, f1, f2⟩ := pf4.cells
                    rw [hcb] at hcb2
                    cases hcb2
                    refine hK _ _ ⟨y3, y2, (pf4.hd hdr hmv.out).1⟩ ?_
                    obtain ⟨y4, l4⟩ := pf4.hd hdr hmv.out
                    rw [if_pos rfl] at pf4
                    clear hK K pf2
                    refine wpPl_qs 1 _ _ _ (by kernel_rfl) (by kernel_rfl) (by simp) ?_
                    unfold clsS
                    simp only [List.take_succ_cons, List.take_zero, List.drop_succ_cons, List.drop_zero, List.filterMap_cons, List.filterMap_nil, List.getElem?_toArray, List.getElem?_cons_zero, List.getElem?_cons_succ]
                    repeat (first
                      | go_big_quiet_skip
                      | (go_big_quiet_want; go_big_quiet_op; go_big_quiet_on)
                      | (refine id (?_ : wpQuiet _ _ _ _ (_ :: _) _); first | go_big_quiet_skip | (go_big_quiet_want; go_big_quiet_op; go_big_quiet_on)))
                    refine wpQuiet_nil ?_
                    unfold wpPl
                    refine NoPanic.normal ?_
                    clear z1 z2 z3 zz
                    obtain ⟨sb, rfl⟩ := pf4.nil_iff.2 hs4
                    obtain ⟨gen, hg, kl, kc⟩ := pf4.undo_ hidn
                    replace pf4 := Lib.hid pf4
                    replace kl := Lib.hid kl
                    replace kc := Lib.hid kc
                    go_wp2_with fail
                    refine kl.out.mono ?_
                    rintro e w5 ⟨rfl, hb5⟩
                    go_upto_region 53 with fail
                    have k1 := ((Blk.new w5 41 #[.int .i64 1, .int .i64 gen, .int .i64 0, .int .i64 0]).alloc (.cells #[.int .i64 0, .int .i64 gen, .int .i64 0, .int .i64 0] 41)).drew
                    have k2 := (Blk.new (w5.alloc (.cells #[.int .i64 1, .int .i64 gen, .int .i64 0, .int .i64 0] 41)) 41 #[.int .i64 0, .int .i64 gen, .int .i64 0, .int .i64 0]).drew
                    have b7 : Below w4.heap.size w4 ((w5.alloc (.cells #[.int .i64 1, .int .i64 gen, .int .i64 0, .int .i64 0] 41)).alloc (.cells #[.int .i64 0, .int .i64 gen, .int .i64 0, .int .i64 0] 41)).drew := ((hb5.alloc hb5.size _).alloc (by have := hb5.size; simp; omega) _).drew
                    replace k2 : Blk ((w5.alloc (.cells #[.int .i64 1, .int .i64 gen, .int .i64 0, .int .i64 0] 41)).alloc (.cells #[.int .i64 0, .int .i64 gen, .int .i64 0, .int .i64 0] 41)).drew (w5.heap.size + 1) 41 #[.int .i64 0, .int .i64 gen, .int .i64 0, .int .i64 0] := by simpa using k2
                    have hs5 := hb5.size
                    clear hb5 kl y1 y3 l1 l3 f1 f2
                    obtain ⟨b1, hb1⟩ : ∃ b1, w5.heap.size = b1 := ⟨_, rfl⟩
                    obtain ⟨b2, hb2⟩ : ∃ b2, b1 + 1 = b2 := ⟨_, rfl⟩
                    rw [hb1, hb2] at k2 ⊢
                    rw [hb1] at k1 hs5
                    have hs6 : w4.heap.size ≤ b2 := by omega
                    clear hb1 hb2
                    have cq : ClQ c w g3 j m3 c3 pid b1 b2 gen ((w5.alloc (.cells #[.int .i64 1, .int .i64 gen, .int .i64 0, .int .i64 0] 41)).alloc (.cells #[.int .i64 0, .int .i64 gen, .int .i64 0, .int .i64 0] 41)).drew :=
                      ⟨(b7.cell (p := ⟨c.gmn, w, none⟩) l2).trans y2, (b7.cell (p := ⟨g3, j, none⟩) l4).trans y4, k1.cell 0, k1.cell 1, k1.cell 2, k1.cell 3, k2.cell 0, k2.cell 1, k2.cell 2, k2.cell 3⟩
                    have zz : Nonempty (Tw (ClQ c w g3 j m3 c3 pid b1 b2 gen)) := ⟨⟨_, cq⟩⟩
                    have z1 : ∀ t : Tw (ClQ c w g3 j m3 c3 pid b1 b2 gen), t.w.cell? ⟨c.gmn, w, none⟩ = some (.slice (some ⟨g3, j, none⟩) m3 c3) := fun t => t.h.b
                    have z2 : ∀ t : Tw (ClQ c w g3 j m3 c3 pid b1 b2 gen), t.w.cell? ⟨g3, j, none⟩ = some (.int .i64 (pid : Int)) := fun t => t.h.d
                    have u0 : ∀ t : Tw (ClQ c w g3 j m3 c3 pid b1 b2 gen), t.w.cell? ⟨b1, 0, none⟩ = some (.int .i64 1) := fun t => t.h.e0
                    have u1 : ∀ t : Tw (ClQ c w g3 j m3 c3 pid b1 b2 gen), t.w.cell? ⟨b1, 1, none⟩ = some (.int .i64 gen) := fun t => t.h.e1
                    have u2 : ∀ t : Tw (ClQ c w g3 j m3 c3 pid b1 b2 gen), t.w.cell? ⟨b1, 2, none⟩ = some (.int .i64 0) := fun t => t.h.e2
                    have u3 : ∀ t : Tw (ClQ c w g3 j m3 c3 pid b1 b2 gen), t.w.cell? ⟨b1, 3, none⟩ = some (.int .i64 0) := fun t => t.h.e3
                    have u4 : ∀ t : Tw (ClQ c w g3 j m3 c3 pid b1 b2 gen), t.w.cell? ⟨b2, 0, none⟩ = some (.int .i64 0) := fun t => t.h.f0
                    have u5 : ∀ t : Tw (ClQ c w g3 j m3 c3 pid b1 b2 gen), t.w.cell? ⟨b2, 1, none⟩ = some (.int .i64 gen) := fun t => t.h.f1
                    have u6 : ∀ t : Tw (ClQ c w g3 j m3 c3 pid b1 b2 gen), t.w.cell? ⟨b2, 2, none⟩ = some (.int .i64 0) := fun t => t.h.f2
                    have u7 : ∀ t : Tw (ClQ c w g3 j m3 c3 pid b1 b2 gen), t.w.cell? ⟨b2, 3, none⟩ = some (.int .i64 0) := fun t => t.h.f3
                    refine wp_region_plan (ClQ c w g3 j m3 c3 pid b1 b2 gen) [(0, true), (1, true), (2, true), (3, true), (4, true), (5, true), (6, true), (7, true), (8, true), (9, false), (10, true)] (by kernel_rfl) (by kernel_rfl) (by kernel_rfl) (by kernel_rfl) cq ?_
                    have hb1 := k1.lt
                    have hb2 := k2.lt
                    clear y2 y4 k1 k2
                    generalize ((w5.alloc (.cells #[.int .i64 1, .int .i64 gen, .int .i64 0, .int .i64 0] 41)).alloc (.cells #[.int .i64 0, .int .i64 gen, .int .i64 0, .int .i64 0] 41)).drew = w6 at *
                    refine wpPl_qs 9 _ _ _ (by kernel_rfl) (by kernel_rfl) (by simp) ?_
                    unfold clsS
                    simp only [List.take_succ_cons, List.take_zero, List.drop_succ_cons, List.drop_zero, List.filterMap_cons, List.filterMap_nil, List.getElem?_toArray, List.getElem?_cons_zero, List.getElem?_cons_succ]
                    repeat (first
                      | go_big_quiet_skip
                      | (go_big_quiet_want; go_big_quiet_op; go_big_quiet_on)
                      | (refine id (?_ : wpQuiet _ _ _ _ (_ :: _) _); first | go_big_quiet_skip | (go_big_quiet_want; go_big_quiet_op; go_big_quiet_on)))
                    refine wpQuiet_nil ?_
                    refine wpPl_e _ (by rfl) (by kernel_rfl) (fun K hK => ?_)
                    go_simp
                    refine (kc.out _ b7).mono ?_
                    rintro e w7 ⟨rfl, pf7, hcc⟩
                    obtain ⟨y1, y2, ⟨cb2, hcb2, y3⟩, l1, l2, l3, f1, f2⟩ := pf7.cells
                    refine hK _ _ ⟨y2, (pf7.hd hdr hmv.out).1, (hcc b1 0 hs5 hb1).trans cq.e0, (hcc b1 1 hs5 hb1).trans cq.e1, (hcc b1 2 hs5 hb1).trans cq.e2, (hcc b1 3 hs5 hb1).trans cq.e3, (hcc b2 0 hs6 hb2).trans cq.f0, (hcc b2 1 hs6 hb2).trans cq.f1, (hcc b2 2 hs6 hb2).trans cq.f2, (hcc b2 3 hs6 hb2).trans cq.f3⟩ ?_
                    clear hK K cq hcc kc b7 pf4
                    refine wpPl_qs 1 _ _ _ (by kernel_rfl) (by kernel_rfl) (by simp) ?_
                    unfold clsS
                    simp only [List.take_succ_cons, List.take_zero, List.drop_succ_cons, List.drop_zero, List.filterMap_cons, List.filterMap_nil, List.getElem?_toArray, List.getElem?_cons_zero, List.getElem?_cons_succ]
                    repeat (first
                      | go_big_quiet_skip
                      | (go_big_quiet_want; go_big_quiet_op; go_big_quiet_on)
                      | (refine id (?_ : wpQuiet _ _ _ _ (_ :: _) _); first | go_big_quiet_skip | (go_big_quiet_want; go_big_quiet_op; go_big_quiet_on)))
                    refine wpQuiet_nil ?_
                    unfold wpPl
                    refine NoPanic.normal ?_
                    clear z1 z2 zz u0 u1 u2 u3 u4 u5 u6 u7
                    obtain ⟨A4, hA4⟩ : ∃ A4, (if c3 = 1 then some (⟨g3, j, none⟩ : Addr) else some ⟨g3, j + 1, none⟩) = A4 := ⟨_, rfl⟩
                    have m31 : (1 : Int) ≤ (m3 : Int) := by omega
                    have m32 : (m3 : Int) ≤ (c3 : Int) := by omega
                    have pf8 := pf7.mineM (.slice A4 (m3 - 1) (c3 - 1))
                    have hd9 : HdM mv (.slice A4 (m3 - 1) (c3 - 1)) ms r (m3 - 1) := by
                      refine ⟨j + 1, A4, c3 - 1, rfl, by omega, by omega, ?_, ?_, fun h1 => ⟨g3, cc, hmv.out, ?_⟩⟩
                      · have := congrArg (List.drop 1) hdr
                        rw [List.drop_drop] at this
                        simpa using this.symm
                      · rw [hmi] at hlm; simp at hlm; omega
                      · rw [← hA4, if_neg (by omega)]
                    clear pf7 hlj hdr hmv hmi hlm hidn hcb2 y1 y3 l1 l2 l3 f1
                    replace pf8 := Lib.hid pf8
                    replace hd9 := Lib.hid hd9
                    go_upto_block 11 with fail
                    generalize Value.slice A4 (m3 - 1) (c3 - 1) = mvv at *
                    generalize w7.setCell ⟨c.gmn, w, none⟩ mvv = w8 at *
                    clear hA4 m31 m32 f2
                    have hsl := hs4
                    have pfl := pf8
                    clear pf8 hs4
                    go_wp2_with fail
                    refine wp_loop_ghost_k (fun gk a' wr => ∃ v : Nat → Value, a' = ⟨(frm v).toArray, []⟩ ∧ ∃ t : Nat, gk = 6 - t ∧ PCm A m cap c.n c.nk c.gp c.px c.gcs c.gst c.gmn v ∧ v 26 = .int .i64 w ∧ v 28 = .pointer (some ⟨sb, 0, none⟩) ∧ v 31 = .int .i64 t ∧ ∃ k s B, PFB c wr w w k s (.pointer (some ⟨sb, 0, none⟩)) pv mvv mv ms none B ∧ t + B ≤ 6 ∧ s ≠ .none ∧ k.mine = r) 6 ?_ ?_
                    · refine frm_meet (by kernel_rfl) ?_
                      exact ⟨0, rfl, ⟨rfl, rfl, rfl, rfl, rfl, rfl, rfl, rfl⟩, rfl, rfl, rfl, _, _, 6, pfl.out.toB, by omega, hsl, hm4⟩
                    · clear pfl hsl
                      intro gk3 a' wr hrel _ _ _ _
                      obtain ⟨v, rfl, t, hgk3, cm, h26, hsp, ht, k, s, B, pf, hB, hs, hX⟩ := hrel
                      have hd : decide ((t : Int) < 100) = true := by simp; omega
                      have hd2 : decide (t < 100) = true := by simp; omega
                      replace hgk3 := Lib.hid hgk3
                      have hfr := frm_lit v
                      rw [cm.v1, cm.v5, cm.v6, cm.v7, cm.v9, cm.v11, cm.v12, cm.v13, h26, hsp, ht] at hfr
                      rw [hfr]
                      clear hfr cm
                      clear h26 hsp ht
                      obtain ⟨y1, y2, ⟨cb, hcb, y3⟩, l1, l2, l3, f1, f2⟩ := pf.toF.cells
                      have hdo := pf.do_ (Nat.le_refl _) hcb hs
                      replace hdo := Lib.hid hdo
                      clear pf y1 y2 l1 l2 l3 f1 f2
                      go_wp2_with fail
                      refine hdo.out.mono ?_
                      rintro e w4 ⟨k', s', rfl, pf4, hm4, hB1, hbk⟩
                      clear hdo y3
                      cases hsn : s'.isN with
                      | true =>
                        obtain rfl := St.isN_iff.1 hsn
                        have pf5 := pf4.toF
                        clear pf4
                        go_wp2_with fail
                        (refine Handed.intro (m3 - 1) (by have := hgk2.out; omega) ?_; go_step; refine frm_meet (by kernel_rfl) ?_; exact ⟨_, rfl, ⟨rfl, rfl, rfl, rfl, rfl, rfl, rfl, rfl⟩, rfl, k', _, pv, mvv, mv, ms, pf5, by rw [hm4, hX]; exact hd9.out⟩)
                      | false =>
                        have hpo : spOf s' (.pointer (some ⟨sb, 0, none⟩)) = .pointer (some ⟨sb, 0, none⟩) := by unfold spOf; rw [if_neg (by rw [hsn]; simp)]
                        have hs4 : s' ≠ .none := fun e => by rw [e] at hsn; cases hsn
                        rw [hpo] at pf4
                        replace pf4 := Lib.hid pf4
                        clear hpo
                        go_wp2_with fail
                        refine Handed.intro (6 - (t + 1)) (by have := hgk3.out; omega) ?_
                        go_step
                        refine frm_meet (by kernel_rfl) ?_
                        exact ⟨t + 1, rfl, ⟨rfl, rfl, rfl, rfl, rfl, rfl, rfl, rfl⟩, rfl, rfl, rfl, k', s', B - 1, pf4.out, by omega, hs4, by rw [hm4]; exact hX⟩
              · intro a' wx hcut
                obtain ⟨v, rfl, cm, h26, k, sp, pv, mvv, mv, ms, pf, hk0⟩ := hcut
                have hfr := frm_lit v
                rw [cm.v1, cm.v5, cm.v6, cm.v7, cm.v9, cm.v11, cm.v12, cm.v13, h26] at hfr
                rw [hfr]
                clear hfr cm
                clear h26
                obtain ⟨y1, y2, ⟨cb, hcb, y3⟩, l1, l2, l3, f1, f2⟩ := pf.cells
                have kfl := pf.flush_ (Nat.le_refl _) hcb
                clear y1 y2 l1 l2 l3 f1 f2 pf
                replace kfl := Lib.hid kfl
                go_wp2_with fail
                refine kfl.out.mono ?_
                rintro e w4 ⟨sp4, k4, rfl, pf4, hm4, hl4⟩
                clear kfl y3
                obtain ⟨sb, rfl⟩ := pf4.nil_iff.2 (by simp)
                go_upto_block 13 with fail
                have hsl : St.back false 0 ≠ .none := by simp
                have pfl := Lib.hid pf4
                have hmz := hm4.trans hk0
                clear pf4 hm4 hk0 hcb
                go_wp2_with fail
                refine wp_loop_ghost_k (fun gk a' wr => ∃ v : Nat → Value, a' = ⟨(frm v).toArray, []⟩ ∧ ∃ t : Nat, gk = 6 - t ∧ PCm A m cap c.n c.nk c.gp c.px c.gcs c.gst c.gmn v ∧ v 26 = .int .i64 w ∧ v 32 = .pointer (some ⟨sb, 0, none⟩) ∧ v 33 = .int .i64 t ∧ ∃ k s B, PFB c wr w w k s (.pointer (some ⟨sb, 0, none⟩)) pv mvv mv ms none B ∧ t + B ≤ 6 ∧ s ≠ .none ∧ (k.list = [] ∧ k.mine = [] ∧ ∃ rd seen, s = .back rd seen)) 6 ?_ ?_
                · refine frm_meet (by kernel_rfl) ?_
                  exact ⟨0, rfl, ⟨rfl, rfl, rfl, rfl, rfl, rfl, rfl, rfl⟩, rfl, rfl, rfl, _, _, 6, pfl.out.toB, by omega, hsl, ⟨hl4, hmz, false, 0, rfl⟩⟩
                · clear pfl hsl
                  intro gk3 a' wr hrel _ _ _ _
                  obtain ⟨v, rfl, t, hgk3, cm, h26, hsp, ht, k, s, B, pf, hB, hs, hX⟩ := hrel
                  have hd : decide ((t : Int) < 200) = true := by simp; omega
                  have hd2 : decide (t < 200) = true := by simp; omega
                  replace hgk3 := Lib.hid hgk3
                  have hfr := frm_lit v
                  rw [cm.v1, cm.v5, cm.v6, cm.v7, cm.v9, cm.v11, cm.v12, cm.v13, h26, hsp, ht] at hfr
                  rw [hfr]
                  clear hfr cm
                  clear h26 hsp ht
                  obtain ⟨y1, y2, ⟨cb, hcb, y3⟩, l1, l2, l3, f1, f2⟩ := pf.toF.cells
                  have hdo := pf.do_ (Nat.le_refl _) hcb hs
                  replace hdo := Lib.hid hdo
                  clear pf y1 y2 l1 l2 l3 f1 f2
                  go_wp2_with fail
                  refine hdo.out.mono ?_
                  rintro e w4 ⟨k', s', rfl, pf4, hm4, hB1, hbk⟩
                  clear hdo y3
                  cases hsn : s'.isN with
                  | true =>
                    obtain rfl := St.isN_iff.1 hsn
                    have pf5 := pf4.toF
                    clear pf4
                    go_wp2_with fail
                    (refine Handed.intro (c.nk - (w + 1)) (by have := hgk.out; omega) ?_; go_step; refine frm_meet (by kernel_rfl) ?_; exact ⟨w + 1, rfl, hlt, ⟨rfl, rfl, rfl, rfl, rfl, rfl, rfl, rfl⟩, rfl, pf5.next (pf5.kz (by rw [(hbk hX.2.2).1]; exact hX.1) (by rw [hm4]; exact hX.2.1))⟩)
                  | false =>
                    have hpo : spOf s' (.pointer (some ⟨sb, 0, none⟩)) = .pointer (some ⟨sb, 0, none⟩) := by unfold spOf; rw [if_neg (by rw [hsn]; simp)]
                    have hs4 : s' ≠ .none := fun e => by rw [e] at hsn; cases hsn
                    rw [hpo] at pf4
                    replace pf4 := Lib.hid pf4
                    clear hpo
                    go_wp2_with fail
                    refine Handed.intro (6 - (t + 1)) (by have := hgk3.out; omega) ?_
                    go_step
                    refine frm_meet (by kernel_rfl) ?_
                    exact ⟨t + 1, rfl, ⟨rfl, rfl, rfl, rfl, rfl, rfl, rfl, rfl⟩, rfl, rfl, rfl, k', s', B - 1, pf4.out, by omega, hs4, ⟨by rw [(hbk hX.2.2).1]; exact hX.1, by rw [hm4]; exact hX.2.1, (hbk hX.2.2).2 hs4⟩⟩
          · obtain rfl : w = c.nk := by omega
            have hdm : decide (c.nk < c.nk) = false := by simp
            have hfr := frm_lit v
            rw [cm.v1, cm.v5, cm.v6, cm.v7, cm.v9, cm.v11, cm.v12, cm.v13, h26] at hfr
            rw [hfr]
            clear hfr cm
            go_wp2_with fail
            refine Met.intro ?_
            go_step
            refine frm_meet (by kernel_rfl) ?_
            exact ⟨⟨rfl, rfl, rfl, rfl, rfl, rfl, rfl, rfl⟩, pr⟩
      · intro a' wx hcut
        obtain ⟨v, rfl, cm, pr⟩ := hcut
        have hfr := frm_lit v
        rw [cm.v1, cm.v5, cm.v6, cm.v7, cm.v9, cm.v11, cm.v12, cm.v13] at hfr
        rw [hfr]
        clear hfr cm
        go_wp2_with fail
        refine (stands_any _).mono ?_
        rintro e w2 ⟨rfl, hb⟩
        have pr2 := pr.bel hb
        obtain ⟨kf, kc⟩ := pr2.free
        replace kf := Lib.hid kf
        replace kc := Lib.hid kc
        go_wp2_with fail
        refine kf.out.mono ?_
        rintro e w3 ⟨A3, c3, rfl, hb3⟩
        go_wp2_with fail
        refine (kc.out _ hb3).mono ?_
        rintro e w4 ⟨rfl, hb4⟩
        go_wp2_with fail
        go_ret
        exact ⟨rfl, bel_after (bel_after pr2.below hb3) hb4⟩
end Go.Proofs.YtilhkhnjloplfaaGreatDoor
