/- Every input of FanlightEpochs answers true, and reads behind the call as it read before. No condition. -/
import Derived.Test.YtlhfbmoodehoiaaFep3
import Derived.Test.YtlhfbmoodehoiaaStands
namespace Go.Proofs.Ytlhfbmoodehoiaa
set_option linter.unusedVariables false
set_option linter.unusedSimpArgs false
open Go.RowKit
attribute [local irreducible] Es.does
set_option maxRecDepth 100000 in
set_option maxHeartbeats 16000000 in
theorem FanlightEpochs_any (wk : Int) (A : Option Addr) (m cap : Nat) (L : List Int) (w : World) (rdp : Rd .i64 w w.heap.size A m L) (hmx : m ≤ 9223372036854775807) :
    Calls Try.prog 3 #[.int .i64 wk, .slice A m cap] w fun e w' => e = .returned (.bool true) ∧ Below w.heap.size w w' := by
  obtain ⟨i1, hi1, hu0, hu1, hu2⟩ := info_parts info_int
  obtain ⟨i2, hi2, hv0, hv1, hv2⟩ := info_parts info_pstep
  obtain ⟨i3, hi3, hw0, hw1, hw2⟩ := info_parts info_u64e
  obtain ⟨q, hq, hq4⟩ := modn wk 4 (by omega)
  obtain ⟨n, hn⟩ : ∃ n, n = 2 + q := ⟨_, rfl⟩
  have hn1 : 2 ≤ n := by omega
  have hn2 : n ≤ 5 := by omega
  have hnq : 2 + (q : Int) = (n : Int) := by omega
  have m1 := fun W => make_one (P := Try.prog) 22 3 i1 _ Try.underlying22 hi1 hu0 hu1 rfl .i64 .i64 n (by rw [hu2]; omega) (by omega) W
  have m2 := fun W => make_one (P := Try.prog) 31 34 i2 _ Try.underlying31 hi2 hv0 hv1 rfl .i64 .i64 n (by rw [hv2]; omega) (by omega) W
  have m3 := fun W => make_one (P := Try.prog) 32 23 i3 _ Try.underlying32 hi3 hw0 hw1 rfl .i64 .i64 n (by rw [hw2]; omega) (by omega) W
  have hmm := @run_makeMap Try.prog
  replace hn := Lib.hid hn
  go_enter Try.func3, Try.ntmps3
  go_wp2_with fail
  refine (CellsNew_yes 1 _ (by omega) (by omega)).mono ?_
  rintro e w1 ⟨cb, ch, rfl, bel1, h1, h2, ce, h3, h4⟩
  clear hq hq4
  go_wp2_with fail
  refine (EpNew_yes n _ (by omega) (by omega)).mono ?_
  rintro e w2 ⟨b, g, h, gr, rfl, bel2, hb, hh, hgr, ep, gv⟩
  rw [cells_new] at ep
  have el1 : EL w b g h gr n (cellsL 0 (List.replicate n 0)) (List.replicate n (.slice none 0 0)) (List.replicate n []) w2 := ⟨⟨ep, gv.low bel1.size, List.length_replicate⟩, by have := bel1.size; omega, by have := bel1.size; omega, bel_after bel1 bel2⟩
  have mm := fm_new el1 (ce.bel bel2) (show ch ≠ h by omega) (by omega)
  have pp := FI.new (n := n) (by omega)
  have hps0 : psm (List.replicate n none) = List.replicate n none := by unfold psm; rw [List.map_replicate]; rfl
  rw [← hps0] at pp
  clear ep gv bel1 bel2 hb hh hgr ce el1 h1 h2 h3 h4 hps0
  generalize List.replicate n (Value.slice none 0 0) = hs at *
  go_upto_block 0 with fail
  clear m1 m2 m3 hmm
  generalize (((((w2.alloc (.cells (Array.replicate n (.int .i64 0)) 3)).alloc (.cells (Array.replicate n (.pointer none)) 34)).alloc (.cells (Array.replicate n (.int .u64 0)) 23)).alloc (.map #[] 0)).alloc (.map #[] 0)) = W0 at *
  generalize w2.heap.size + 1 + 1 + 1 + 1 = vb at *
  generalize w2.heap.size + 1 + 1 + 1 = tb at *
  generalize w2.heap.size + 1 + 1 = rb at *
  generalize w2.heap.size + 1 = lb at *
  generalize w2.heap.size = ab at *
  go_wp2_with fail
  refine wp_loop_ghost_k (fun gk a' wr => ∃ v : Nat → Value, a' = ⟨(frm v).toArray, []⟩ ∧ ∃ i nx : Nat, gk = m - i ∧ i ≤ m ∧ i ≤ 500 ∧ Com n A m cap cb b ab lb rb tb vb nx i v ∧ ∃ (E : Nat) (pin : List Nat) (G : List (List Th)) (hs vs : List Value) (ps : List (Option (Nat × Es))) (at_ rd : List Nat) (tk gv : Int → Int), FI n E i pin (psm ps) G at_ rd nx tk gv ∧ FM w b g h gr n cb ch ab lb rb tb vb E pin G hs vs ps at_ rd (nx - 1) tk gv (600 * i) wr) m ?_ ?_
  · refine frm_meet (by kernel_rfl) ?_
    exact ⟨0, 1, rfl, Nat.zero_le _, Nat.zero_le _, ⟨rfl, rfl, rfl, rfl, rfl, rfl, rfl, rfl, rfl, rfl, rfl⟩, _, _, _, _, _, _, _, _, _, _, pp, mm⟩
  · clear mm pp
    intro gk a' wr hrel _ _ _ _
    obtain ⟨v, rfl, i, nx, hgk, him, hi5, cm, E, pin, G, hs, vs, ps, at_, rd, tk, gv, pp, mm⟩ := hrel
    have hni := pp.ni
    by_cases hlt : i < m ∧ i < 500
    · obtain ⟨hlt, hlt5⟩ := hlt
      obtain ⟨pb, po, rfl, hpb, c0, cr⟩ := rdp.at_ hlt
      have cx := mm.el.bel.cell (p := ⟨pb, po + i, none⟩) hpb |>.trans c0
      clear c0
      generalize L.getD i 0 = x at *
      have hdm : decide (i < m) = true := by simpa using hlt
      have hdm2 : decide ((i : Int) < 500) = true := by simp; omega
      have hnu : IntKind.u64.wrap (n : Int) = n := by rw [IntKind.wrap_u64]; omega
      obtain ⟨k, hk, hkn⟩ := modn x n (by omega)
      replace hkn : k < n := by omega
      have hk0 : (0 : Int) ≤ k := by omega
      have hkn3 : (k : Int) < n := by omega
      obtain ⟨a, hka⟩ : ∃ a, at_[k]? = some a := ⟨_, List.getElem?_eq_getElem (by rw [pp.la]; exact hkn)⟩
      have ha7 := (pp.st k a hka).1
      obtain ⟨ac, af⟩ := mm.atc hka
      have hw0 := mm.el.bel.size
      have hM : 600 * i ≤ 600 * (i + 1) := by omega
      replace hgk := Lib.hid hgk
      have hfr := frm_lit v
      rw [cm.v1, cm.v5, cm.v6, cm.v8, cm.v10, cm.v11, cm.v12, cm.v13, cm.v14, cm.v15, cm.v16] at hfr
      rw [hfr]
      clear hfr cm
      go_upto_block 2 with fail
      clear hk
      refine wp_cut (fun a' wx => ∃ v : Nat → Value, a' = ⟨(frm v).toArray, []⟩ ∧ ∃ nx : Nat, Com n (some ⟨pb, po, none⟩) m cap cb b ab lb rb tb vb nx i v ∧ ∃ (E : Nat) (pin : List Nat) (G : List (List Th)) (hs vs : List Value) (ps : List (Option (Nat × Es))) (at_ rd : List Nat) (tk gv : Int → Int), FI n E (i + 1) pin (psm ps) G at_ rd nx tk gv ∧ FM w b g h gr n cb ch ab lb rb tb vb E pin G hs vs ps at_ rd (nx - 1) tk gv (600 * (i + 1)) wx) ?_ ?_
      rotate_left
      · intro _ _ _ _
        obtain ⟨cu, hcu⟩ : ∃ cu, cu = nx - 1 := ⟨_, rfl⟩
        replace hcu := Lib.hid hcu
        rw [← hcu.out] at mm
        have h8 : a = 0 ∨ a = 1 ∨ a = 2 ∨ a = 3 ∨ a = 4 ∨ a = 5 ∨ a = 6 ∨ a = 7 := by omega
        rcases h8 with rfl | rfl | rfl | rfl | rfl | rfl | rfl | rfl
        · go_wp2_with fail
          refine (EpPin_any k b g h gr n _ wr mm.el.eg.ep ⟨hk0, by omega⟩).mono ?_
          rintro e u2 ⟨nb, rfl, hnb, st2, bel2⟩
          have mm2 := mm.bel' bel2
          have hw0 := mm.el.bel.size
          have mm3 := mm2.slot (mm.fresh hnb) (by omega) st2 hkn
          obtain ⟨⟨u0, s0⟩, s1⟩ := mm2.stc hkn
          obtain ⟨a0, a1⟩ := mm3.atc hka
          have mm5 := (mm3.place k 1 1 rfl).more hM
          rw [hcu.out] at mm5
          have pp5 := pp.beg hka nb
          clear pp mm mm2 mm3 st2 bel2 hnb hw0
          go_wp2_with fail
          refine Met.intro ?_
          go_step
          refine frm_meet (by kernel_rfl) ?_
          exact ⟨nx, ⟨rfl, rfl, rfl, rfl, rfl, rfl, rfl, rfl, rfl, rfl, rfl⟩, _, _, _, _, _, _, _, _, _, _, pp5, mm5⟩
        · obtain ⟨x, s, hps, hav⟩ := pp.fly hka (by omega)
          have hss := psm_at hps
          obtain ⟨s', E', pin', dd⟩ := does_any pp.tv hss (by have := pp.eE; omega) ⟨by omega, by omega⟩
          obtain ⟨t1, t2, t3, t4, t5⟩ := pp.tv.sn k s hss
          obtain ⟨pc, st1⟩ := mm.stp hps
          have hP := EpDo_any b g h gr n x s (cellsL E pin) wr mm.el.eg.ep st1 (by
            cases ha : s.adv with
            | true => have := t3 ha; omega
            | false => have := t4 ha; omega) (fun ha => by have := t4 ha; omega) t1
          rw [dd.does] at hP
          clear t1 t2 t3 t4 t5 hss st1
          cases hdn : s'.done with
          | false =>
            rw [hdn] at hP
            have pp5 := pp.doGo hka (by omega) hps hav dd hdn
            replace hP := Lib.hid hP
            clear hdn dd hav pp
            go_wp2_with fail
            refine hP.out.mono ?_
            rintro e u2 ⟨rfl, es⟩
            have mm5 := (mm.step hps es).more hM
            rw [hcu.out] at mm5
            clear mm es hP hps pc
            go_wp2_with fail
            refine Met.intro ?_
            go_step
            refine frm_meet (by kernel_rfl) ?_
            exact ⟨nx, ⟨rfl, rfl, rfl, rfl, rfl, rfl, rfl, rfl, rfl, rfl, rfl⟩, _, _, _, _, _, _, _, _, _, _, pp5, mm5⟩
          | true =>
            rw [hdn] at hP
            have pp5 := pp.doEnd hka (by omega) hps hav dd hdn
            replace hP := Lib.hid hP
            clear hdn dd hav pp
            go_wp2_with fail
            refine hP.out.mono ?_
            rintro e u2 ⟨rfl, es⟩
            have mm2 := (mm.step hps es).drop k
            rw [List.set_set] at mm2
            obtain ⟨a0, a1⟩ := mm2.atc hka
            have mm5 := (mm2.place k 2 2 rfl).more hM
            rw [hcu.out] at mm5
            clear mm mm2 es hP hps pc
            go_wp2_with fail
            refine Met.intro ?_
            go_step
            refine frm_meet (by kernel_rfl) ?_
            exact ⟨nx, ⟨rfl, rfl, rfl, rfl, rfl, rfl, rfl, rfl, rfl, rfl, rfl⟩, _, _, _, _, _, _, _, _, _, _, pp5, mm5⟩
        · have hr0 := pp.r00 hka (by omega)
          have hL := Load1 cb ch (cu : Int) wr mm.ce
          have mm2 := mm.look k cu (cu : Int) rfl
          obtain ⟨r1, r2⟩ := mm.rdc hr0
          obtain ⟨a0, a1⟩ := mm2.atc hka
          have mm5 := (mm2.place k 3 3 rfl).more hM
          have pp5 := (pp.read hka).next
          rw [← hcu.out] at pp5
          clear pp mm mm2 hr0
          replace hL := Lib.hid hL
          go_wp2_with fail
          refine hL.out.mono ?_
          rintro e u1 ⟨rfl, rfl⟩
          clear hL
          go_wp2_with fail
          have e := hcu.out
          clear hcu
          subst e
          refine Met.intro ?_
          go_step
          refine frm_meet (by kernel_rfl) ?_
          exact ⟨nx, ⟨rfl, rfl, rfl, rfl, rfl, rfl, rfl, rfl, rfl, rfl, rfl⟩, _, _, _, _, _, _, _, _, _, _, pp5, mm5⟩
        · obtain ⟨r, hr⟩ := pp.rk hka
          have hrb := pp.rb k r hr
          obtain ⟨r1, r2⟩ := mm.rdc hr
          have mm2 := mm.place k 5 5 rfl
          have hka2 : (at_.set k 5)[k]? = some 5 := List.getElem?_set_self (List.getElem?_eq_some_iff.1 hka).1
          by_cases hrn : cu = r
          · subst hrn
            have hrx : cu + 1 = nx := by have := hcu.out; have := pp.n1; omega
            have hC := Cas1_hit cb ch (cu : Int) (nx : Int) _ mm2.ce (u64_inr (by omega))
            replace hC := Lib.hid hC
            have hw1 : IntKind.u64.wrap ((nx : Int) + 1) = ((nx + 1 : Nat) : Int) := by rw [IntKind.wrap_u64]; omega
            by_cases hr0 : cu = 0
            · have hB : ((cu : Int) == 0) = true := by simp; omega
              have pp5 := pp.cas hka hr hrx 5 (by simp [hr0])
              clear pp hrx hr0
              go_wp2_with fail
              refine hC.out.mono ?_
              rintro e u1 ⟨rfl, ce1, up1⟩
              have mm3 := mm2.cas (cu' := nx) ce1 up1
              obtain ⟨a0, a1⟩ := mm3.atc hka2
              have mm4 := mm3.place k 4 4 rfl
              rw [List.set_set] at mm4
              have hka3 : (at_.set k 4)[k]? = some 4 := List.getElem?_set_self (List.getElem?_eq_some_iff.1 hka).1
              obtain ⟨a2, a3⟩ := mm4.atc hka3
              have mm5 := (mm4.place k 5 5 rfl).more hM
              rw [List.set_set] at mm5
              clear hC mm mm2 mm3 mm4 ce1 up1 hka3
              go_wp2_with fail
              refine Met.intro ?_
              go_step
              refine frm_meet (by kernel_rfl) ?_
              exact ⟨nx + 1, ⟨rfl, rfl, rfl, rfl, rfl, rfl, rfl, rfl, rfl, rfl, rfl⟩, _, _, _, _, _, _, _, _, _, _, pp5, mm5⟩
            · have hB : ((cu : Int) == 0) = false := by simp; omega
              have pp5 := pp.cas hka hr hrx 4 (by simp [hr0])
              clear pp hrx hr0
              go_wp2_with fail
              refine hC.out.mono ?_
              rintro e u1 ⟨rfl, ce1, up1⟩
              have mm3 := mm2.cas (cu' := nx) ce1 up1
              obtain ⟨a0, a1⟩ := mm3.atc hka2
              have mm5 := (mm3.place k 4 4 rfl).more hM
              rw [List.set_set] at mm5
              clear hC mm mm2 mm3 ce1 up1
              go_wp2_with fail
              refine Met.intro ?_
              go_step
              refine frm_meet (by kernel_rfl) ?_
              exact ⟨nx + 1, ⟨rfl, rfl, rfl, rfl, rfl, rfl, rfl, rfl, rfl, rfl, rfl⟩, _, _, _, _, _, _, _, _, _, _, pp5, mm5⟩
          · have hC := Cas1_miss cb ch (cu : Int) (r : Int) (nx : Int) _ mm2.ce (u64_inr (by omega)) (by omega)
            replace hC := Lib.hid hC
            have pp5 := pp.stay hka
            clear pp
            go_wp2_with fail
            refine hC.out.mono ?_
            rintro e u1 ⟨rfl, ce1, up1⟩
            have mm5 := (mm2.cas (cu' := cu) ce1 up1).more hM
            clear hC mm mm2 ce1 up1
            go_wp2_with fail
            rw [hcu.out] at mm5
            refine Met.intro ?_
            go_step
            refine frm_meet (by kernel_rfl) ?_
            exact ⟨nx, ⟨rfl, rfl, rfl, rfl, rfl, rfl, rfl, rfl, rfl, rfl, rfl⟩, _, _, _, _, _, _, _, _, _, _, pp5, mm5⟩
        · obtain ⟨r, hr⟩ := pp.rk hka
          obtain ⟨r1, r2, r3⟩ := pp.pe k r hka hr
          have hni := pp.ni
          obtain ⟨l, hl⟩ : ∃ l, G[k]? = some l := ⟨_, List.getElem?_eq_getElem (by rw [mm.el.eg.len]; exact hkn)⟩
          have hG := EpGive_any w.heap.size b g h gr n k (r : Int) (cellsL E pin) hs G l wr mm.el.eg hkn hl (by have := pp.gl k l hl; omega) mm.el.bel.size
          rw [cells0] at hG
          have pp5 := pp.give hka hr hl
          obtain ⟨rc, -⟩ := mm.rdc hr
          replace hG := Lib.hid hG
          clear pp
          go_wp2_with fail
          refine hG.out.mono ?_
          rintro e u1 ⟨hs1, rfl, eg1, up1⟩
          have mm1 := mm.gave eg1 up1
          have hlook := mm1.mg.look (key := (r : Int)) (u64_inr (by omega))
          rw [r3] at hlook
          obtain ⟨rc1, -⟩ := mm1.rdc hr
          obtain ⟨v0, sq, w1, w2, e1, e2, mg2, up2⟩ := mm1.mg.entry (key := (r : Int)) (val := 1) (by omega) (u64_inr (by omega)) (i64_inr (by omega))
          have mm2 := mm1.putG mg2 up2
          obtain ⟨a0, a1⟩ := mm2.atc hka
          have mm5 := (mm2.place k 5 5 rfl).more (show 600 * i + 1 ≤ 600 * (i + 1) by omega)
          rw [hcu.out] at mm5
          clear hG mm mm1 mm2 eg1 up1 mg2 up2
          go_wp2_with fail
          refine Met.intro ?_
          go_step
          refine frm_meet (by kernel_rfl) ?_
          exact ⟨nx, ⟨rfl, rfl, rfl, rfl, rfl, rfl, rfl, rfl, rfl, rfl, rfl⟩, _, _, _, _, _, _, _, _, _, _, pp5, mm5⟩
        · by_cases hev : x.tmod 2 = 0
          · have hB : (x.tmod 2 == 0) = true := by simpa using hev
            obtain ⟨r, hr⟩ := pp.rk hka
            have hU := EpUnpin_any k b g h gr n _ wr mm.el.eg.ep ⟨hk0, by omega⟩
            replace hU := Lib.hid hU
            go_wp2_with fail
            refine hU.out.mono ?_
            rintro e u1 ⟨rfl, ep1, up1⟩
            have mm1 := mm.unpin (by rw [pp.tv.lp]; exact hkn) ep1 up1
            clear hU mm ep1 up1
            go_wp2_with fail
            refine (EpAdvance_any b u1).mono ?_
            rintro e u2 ⟨nb, rfl, hnb, st2, bel2⟩
            have mm2 := mm1.bel' bel2
            have hw0 := mm1.el.bel.size
            obtain ⟨r1, r2⟩ := mm2.rdc hr
            have mm3 := mm2.look k 0 0 rfl
            obtain ⟨a0, a1⟩ := mm3.atc hka
            have mm4 := mm3.place k 6 6 rfl
            obtain ⟨⟨u0, s0⟩, s1⟩ := mm4.stc hkn
            have st4 : EsAt ((u2.setCell ⟨rb, k, none⟩ (.int .u64 0)).setCell ⟨ab, k, none⟩ (.int .i64 6)) nb _ := (Blk.far (Blk.far st2 (p := ⟨rb, k, none⟩) (Blk.ne_ st2 mm2.brd (by decide)) _) (p := ⟨ab, k, none⟩) (Blk.ne_ st2 mm2.bat (by decide)) _)
            have mm5 := (mm4.slot (mm1.fresh hnb) (by omega) st4 hkn).more hM
            rw [hcu.out] at mm5
            have pp5 := pp.leave hka nb
            clear pp mm1 mm2 mm3 mm4 st2 st4 bel2 hnb hw0
            go_wp2_with fail
            refine Met.intro ?_
            go_step
            refine frm_meet (by kernel_rfl) ?_
            exact ⟨nx, ⟨rfl, rfl, rfl, rfl, rfl, rfl, rfl, rfl, rfl, rfl, rfl⟩, _, _, _, _, _, _, _, _, _, _, pp5, mm5⟩
          · have hB : (x.tmod 2 == 0) = false := by simpa using hev
            have pp5 := pp.next
            have mm5 := mm.more hM
            rw [hcu.out] at mm5
            clear pp mm
            go_wp2_with fail
            refine Met.intro ?_
            go_step
            refine frm_meet (by kernel_rfl) ?_
            exact ⟨nx, ⟨rfl, rfl, rfl, rfl, rfl, rfl, rfl, rfl, rfl, rfl, rfl⟩, _, _, _, _, _, _, _, _, _, _, pp5, mm5⟩
        · obtain ⟨x, s, hps, hav⟩ := pp.fly hka (by omega)
          have hss := psm_at hps
          obtain ⟨s', E', pin', dd⟩ := does_any pp.tv hss (by have := pp.eE; omega) ⟨by omega, by omega⟩
          obtain ⟨t1, t2, t3, t4, t5⟩ := pp.tv.sn k s hss
          obtain ⟨pc, st1⟩ := mm.stp hps
          have hP := EpDo_any b g h gr n x s (cellsL E pin) wr mm.el.eg.ep st1 (by
            cases ha : s.adv with
            | true => have := t3 ha; omega
            | false => have := t4 ha; omega) (fun ha => by have := t4 ha; omega) t1
          rw [dd.does] at hP
          clear t1 t2 t3 t4 t5 hss st1
          cases hdn : s'.done with
          | false =>
            rw [hdn] at hP
            have pp5 := pp.doGo hka (by omega) hps hav dd hdn
            replace hP := Lib.hid hP
            clear hdn dd hav pp
            go_wp2_with fail
            refine hP.out.mono ?_
            rintro e u2 ⟨rfl, es⟩
            have mm5 := (mm.step hps es).more hM
            rw [hcu.out] at mm5
            clear mm es hP hps pc
            go_wp2_with fail
            refine Met.intro ?_
            go_step
            refine frm_meet (by kernel_rfl) ?_
            exact ⟨nx, ⟨rfl, rfl, rfl, rfl, rfl, rfl, rfl, rfl, rfl, rfl, rfl⟩, _, _, _, _, _, _, _, _, _, _, pp5, mm5⟩
          | true =>
            rw [hdn] at hP
            have pp5 := pp.doEnd hka (by omega) hps hav dd hdn
            replace hP := Lib.hid hP
            clear hdn dd hav pp
            go_wp2_with fail
            refine hP.out.mono ?_
            rintro e u2 ⟨rfl, es⟩
            have mm2 := (mm.step hps es).drop k
            rw [List.set_set] at mm2
            obtain ⟨a0, a1⟩ := mm2.atc hka
            have mm5 := (mm2.place k 7 7 rfl).more hM
            rw [hcu.out] at mm5
            clear mm mm2 es hP hps pc
            go_wp2_with fail
            refine Met.intro ?_
            go_step
            refine frm_meet (by kernel_rfl) ?_
            exact ⟨nx, ⟨rfl, rfl, rfl, rfl, rfl, rfl, rfl, rfl, rfl, rfl, rfl⟩, _, _, _, _, _, _, _, _, _, _, pp5, mm5⟩
        · obtain ⟨l, hl⟩ : ∃ l, G[k]? = some l := ⟨_, List.getElem?_eq_getElem (by rw [mm.el.eg.len]; exact hkn)⟩
          have hgl := pp.gl k l hl
          have hni := pp.ni
          have hEi := pp.eE
          have hwr : ∀ x ∈ l, inr .u64 x.what := fun x hx => by
            obtain ⟨a, u, h1, h2, h3, h4, h5, _⟩ := pp.gg k l x hl hx
            rw [h1]; exact u64_inr (by omega)
          have hwn : ∀ x ∈ l, 0 ≤ x.when ∧ x.when ≤ 1000000 := fun x hx => by
            obtain ⟨a, u, h1, h2, h3, h4, h5, _⟩ := pp.gg k l x hl hx
            rw [h2]; omega
          have hT := EpTake_any w.heap.size b g h gr n k (cellsL E pin) hs G l wr mm.el.eg hkn hl (by omega) mm.el.bel.size hwr hwn
          rw [cells0] at hT
          have htook := fun y hy => pp.took hl (y := y) hy
          have hnd := pp.tnd hl
          have pp5 := (pp.take hka hl).next
          have htl := takes_len (E : Int) l
          obtain ⟨T, hTe⟩ : ∃ T, T = takes (E : Int) l := ⟨_, rfl⟩
          rw [← hTe] at hT htook hnd pp5 htl
          obtain ⟨tn, htn⟩ : ∃ tn, T.length = tn := ⟨_, rfl⟩
          have htnb : tn ≤ 500 := by omega
          have htni : tn ≤ i := by omega
          clear hTe hwr hwn pp htl
          replace hT := Lib.hid hT
          replace htook := Lib.hid htook
          replace hnd := Lib.hid hnd
          replace htn := Lib.hid htn
          go_wp2_with fail
          refine hT.out.mono ?_
          rintro e u1 ⟨v1, hs1, rfl, own1, eg1, up1⟩
          have mm1 := mm.gave eg1 up1
          obtain ⟨A1, c1, rfl, _, _⟩ := own1.form htn.out
          clear hT mm eg1 up1
          go_upto_block 3 with fail
          go_wp2_with fail
          refine wp_loop_ghost_k (fun gj a' wr => ∃ v : Nat → Value, a' = ⟨(frm v).toArray, []⟩ ∧ ∃ j : Nat, gj = tn - j ∧ j ≤ tn ∧ Com n (some ⟨pb, po, none⟩) m cap cb b ab lb rb tb vb nx i v ∧ v 17 = .int .i64 k ∧ v 19 = .slice A1 tn c1 ∧ v 20 = .int .i64 j ∧ FM w b g h gr n cb ch ab lb rb tb vb E pin (G.set k (leaves (E : Int) l)) hs1 vs ps at_ rd cu (tkTo T j tk) gv (600 * i + j) wr ∧ Own .u64 23 wr w.heap.size (.slice A1 tn c1) T) tn ?_ ?_
          · refine frm_meet (by kernel_rfl) ?_
            exact ⟨0, rfl, Nat.zero_le _, ⟨rfl, rfl, rfl, rfl, rfl, rfl, rfl, rfl, rfl, rfl, rfl⟩, rfl, rfl, rfl, by rw [tkTo0]; exact mm1, own1.mono_ hw0⟩
          · clear mm1 own1
            intro gj a' wx hrel _ _ _ _
            obtain ⟨v, rfl, j, hgj, hj, cm, w17, w19, w20, mm, own1⟩ := hrel
            have hfr := frm_lit v
            rw [cm.v1, cm.v5, cm.v6, cm.v8, cm.v10, cm.v11, cm.v12, cm.v13, cm.v14, cm.v15, cm.v16, w17, w19, w20] at hfr
            rw [hfr]
            clear hfr cm
            clear w17 w19 w20
            by_cases hjl : j < tn
            · have hdj : decide (j < tn) = true := by simpa using hjl
              have hj0 : (0 : Int) ≤ j := by omega
              have hjn : (j : Int) < tn := by omega
              obtain ⟨y, hy⟩ : ∃ y, T[j]? = some y := ⟨_, List.getElem?_eq_getElem (by have := htn.out; omega)⟩
              obtain ⟨a, rfl, ha1, ha2, hga, hta, -⟩ := htook.out y (List.mem_of_getElem? hy)
              have hyD : T.getD j 0 = (a : Int) := by rw [List.getD_eq_getElem?_getD, hy]; rfl
              obtain ⟨_, _, e1, _, _, rd1⟩ := own1.form htn.out
              simp only [Value.slice.injEq, true_and] at e1
              obtain ⟨rfl, rfl⟩ := e1
              obtain ⟨b4, o4, rfl, hb4, k4, r4⟩ := rd1.at_ hjl
              rw [hyD] at k4 r4
              have hl1 := mm.mg.look (key := (a : Int)) r4
              rw [hga] at hl1
              have hl2 := mm.mt.look (key := (a : Int)) r4
              rw [tkTo_new hnd.out hy, hta] at hl2
              replace hgj := Lib.hid hgj
              clear rd1 hyD hga hta
              replace hy := Lib.hid hy
              go_upto_region 50 with fail
              clear hl1 hl2
              go_wp2_with (at_mapUpdate; refine wpList_mapPut _ rfl _ _ _ (.inl rfl) tb (600 * i + j) _ rfl mm.mt (by omega) (a : Int) 1 rfl rfl r4 (i64_inr (by omega)) ?_; intro w3 mt3 up3; have mm3 := mm.putT mt3 up3; have own3 := own1.updM mm.mt up3; clear mm own1 mt3 up3 k4)
              rw [tkTo_succ hy.out] at mm3
              refine Handed.intro (tn - (j + 1)) (by have := hgj.out; omega) ?_
              go_step
              refine frm_meet (by kernel_rfl) ?_
              exact ⟨j + 1, rfl, by omega, ⟨rfl, rfl, rfl, rfl, rfl, rfl, rfl, rfl, rfl, rfl, rfl⟩, rfl, rfl, rfl, mm3, own3⟩
            · obtain rfl : j = tn := by omega
              have hdj : decide (j < j) = false := by simp
              rw [tkTo_all T tk j htn.out] at mm
              obtain ⟨a0, a1⟩ := mm.atc hka
              have mm5 := (mm.place k 0 0 rfl).more (show 600 * i + j ≤ 600 * (i + 1) by omega)
              rw [hcu.out] at mm5
              clear mm own1
              go_wp2_with fail
              refine Met.intro ?_
              go_step
              refine frm_meet (by kernel_rfl) ?_
              exact ⟨nx, ⟨rfl, rfl, rfl, rfl, rfl, rfl, rfl, rfl, rfl, rfl, rfl⟩, _, _, _, _, _, _, _, _, _, _, pp5, mm5⟩
      · intro a' W2 hcut
        clear mm pp E pin G hs vs ps at_ rd tk gv ha7 ac af hka hni nx
        obtain ⟨v, rfl, nx, cm, E, pin, G, hs, vs, ps, at_, rd, tk, gv, pp, mm⟩ := hcut
        have hfr := frm_lit v
        rw [cm.v1, cm.v5, cm.v6, cm.v8, cm.v10, cm.v11, cm.v12, cm.v13, cm.v14, cm.v15, cm.v16] at hfr
        rw [hfr]
        clear hfr cm
        go_upto_block 5 with fail
        go_wp2_with fail
        refine wp_loop_ghost_k (fun gj a' wx => ∃ v : Nat → Value, a' = ⟨(frm v).toArray, []⟩ ∧ ∃ o : Nat, gj = n - o ∧ o ≤ n ∧ Com n (some ⟨pb, po, none⟩) m cap cb b ab lb rb tb vb nx i v ∧ v 21 = .int .i64 o ∧ W2 = wx) n ?_ ?_
        · refine frm_meet (by kernel_rfl) ?_
          exact ⟨0, rfl, Nat.zero_le _, ⟨rfl, rfl, rfl, rfl, rfl, rfl, rfl, rfl, rfl, rfl, rfl⟩, rfl, rfl⟩
        · intro gj a' wx hrel _ _ _ _
          obtain ⟨v, rfl, o, hgj, ho, cm, w21, rfl⟩ := hrel
          have hfr := frm_lit v
          rw [cm.v1, cm.v5, cm.v6, cm.v8, cm.v10, cm.v11, cm.v12, cm.v13, cm.v14, cm.v15, cm.v16, w21] at hfr
          rw [hfr]
          clear hfr cm
          clear w21
          by_cases hon : o < n
          · have hdo : decide (o < n) = true := by simpa using hon
            have ho0 : (0 : Int) ≤ o := by omega
            have hon2 : (o : Int) < n := by omega
            obtain ⟨r, hr⟩ : ∃ r, rd[o]? = some r := ⟨_, List.getElem?_eq_getElem (by rw [pp.lr]; exact hon)⟩
            obtain ⟨rc, -⟩ := mm.rdc hr
            have hrb := pp.rb o r hr
            have hsf := pp.sf o r hr
            have hni := pp.ni
            replace hgj := Lib.hid hgj
            by_cases hr0 : r = 0
            · have hB : ((r : Int) != 0) = false := by simp; omega
              clear hsf
              go_wp2_with fail
              refine Handed.intro (n - (o + 1)) (by have := hgj.out; omega) ?_
              go_step
              refine frm_meet (by kernel_rfl) ?_
              exact ⟨o + 1, rfl, by omega, ⟨rfl, rfl, rfl, rfl, rfl, rfl, rfl, rfl, rfl, rfl, rfl⟩, rfl, rfl⟩
            · have hB : ((r : Int) != 0) = true := by simp; omega
              have hlook := mm.mt.look (key := (r : Int)) (u64_inr (by omega))
              rw [hsf hr0] at hlook
              clear hsf
              go_wp2_with fail
              refine Handed.intro (n - (o + 1)) (by have := hgj.out; omega) ?_
              go_step
              refine frm_meet (by kernel_rfl) ?_
              exact ⟨o + 1, rfl, by omega, ⟨rfl, rfl, rfl, rfl, rfl, rfl, rfl, rfl, rfl, rfl, rfl⟩, rfl, rfl⟩
          · obtain rfl : o = n := by omega
            have hdo : decide (o < o) = false := by simp
            go_wp2_with fail
            refine Handed.intro (m - (i + 1)) (by have := hgk.out; omega) ?_
            go_step
            refine frm_meet (by kernel_rfl) ?_
            exact ⟨i + 1, nx, rfl, by omega, by omega, ⟨rfl, rfl, rfl, rfl, rfl, rfl, rfl, rfl, rfl, rfl, rfl⟩, _, _, _, _, _, _, _, _, _, _, pp, mm⟩
    · have hcond : decide (i < m) = false ∨ (decide (i < m) = true ∧ decide ((i : Int) < 500) = false) := by
        rcases Nat.lt_or_ge i m with h | h
        · exact .inr ⟨by simpa using h, by simp; omega⟩
        · exact .inl (by simp; omega)
      have n1 := pp.n1
      obtain ⟨cu, hcu⟩ : ∃ cu, cu + 1 = nx := ⟨nx - 1, by omega⟩
      have hL := fun W (hW : Below wr.heap.size wr W) => Load1 cb ch (cu : Int) W (by have := mm.ce.bel hW; rw [show nx - 1 = cu by omega] at this; exact this)
      have hbl := mm.el.bel
      have hw : IntKind.u64.wrap ((nx : Int) - 1) = (cu : Int) := by rw [IntKind.wrap_u64]; omega
      have hfr := frm_lit v
      rw [cm.v1, cm.v5, cm.v6, cm.v8, cm.v10, cm.v11, cm.v12, cm.v13, cm.v14, cm.v15, cm.v16] at hfr
      rw [hfr]
      clear hfr cm
      clear mm pp n1 hcu hni
      replace hL := Lib.hid hL
      have hBB : ((cu : Int) == (cu : Int)) = true := by simp
      have hBB2 : (cu == cu) = true := by simp
      rcases hcond with hd | ⟨hd, hd2⟩
      all_goals
        go_wp2_with fail
        refine (stands_any _).mono ?_
        rintro e u1 ⟨rfl, bl1⟩
        go_wp2_with fail
        refine (hL.out u1 bl1).mono ?_
        rintro e u2 ⟨rfl, rfl⟩
        go_wp2_with fail
        go_ret
        exact ⟨rfl, bel_after hbl bl1⟩
theorem FanlightEpochs_args (W : World) (args : Array Value) (hs : args.size = Try.f3.params.size) (hA : ∀ (j : Nat) t v, Try.f3.params[j]? = some t → args[j]? = some v → Arg Try.prog W t v) :
    Calls Try.prog 3 args W fun e W' => e = .returned (.bool true) ∧ Below W.heap.size W W' := by
  obtain ⟨v0, v1, rfl⟩ := args2 hs
  obtain ⟨n, rfl, _⟩ := arg_int Try.underlying3 (hA 0 3 v0 rfl rfl)
  obtain ⟨A, len, cap, l, rfl, h1, h2, h3⟩ := arg_ints Try.underlying22 Try.underlying3 (by kernel_rfl) (hA 1 22 v1 rfl rfl)
  unfold maxLen at h2
  exact FanlightEpochs_any n A len cap l W h3 (by omega)

set_option maxRecDepth 100000 in
theorem FanlightEpochs_lifted (os : Os) (started : os.Started) (H : Type) (enc : TypeId × Value → H) :
    ReturnsInHanded {} Try.checked os 3 .any (Rows.fanlightEpochsSpec.pre6 enc Try.prog Try.f3 Rows.fanlightEpochsRow.domain false) (Rows.fanlightEpochsSpec.post enc Try.prog Try.f3 false true false false) :=
  law_lifted os started H enc (by kernel_rfl) Try.func3 rfl rfl (fun H ds h => by match ds, h with | [_, _], _ => exact ⟨rfl, rfl, rfl⟩) (by kernel_rfl)
    (ChangeSpec.witness6 (enc := enc) (C := Try.checked) false ⟨#[], #[.int .i64 0, .slice none 0 0], []⟩ 8 (by kernel_rfl) (by kernel_rfl) (by kernel_rfl) (by kernel_rfl))
    FanlightEpochs_args

/-- the statement -/
theorem fanlightEpochs_holds : Rows.FanlightEpochsSaid :=
  OpenClaim.holds_of_wide 3 Try.f3 rfl rfl rfl rfl rfl rfl rfl ⟨rfl, rfl, rfl, rfl, rfl⟩ rfl rfl rfl rfl rfl (by kernel_rfl) Try.func3 (by kernel_rfl)
    (of_decide_eq_true (by kernel_rfl)) (by unfold Func.isWrapper; first | (rw [if_pos (by decide +kernel)]; kernel_rfl) | (rw [if_neg (by decide +kernel)]; exact ⟨rfl, rfl⟩))
    (fun os started H enc _ => FanlightEpochs_lifted os started H enc)

end Go.Proofs.Ytlhfbmoodehoiaa
