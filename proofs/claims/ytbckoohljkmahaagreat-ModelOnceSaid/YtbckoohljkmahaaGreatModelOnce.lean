/- Every input of ModelOnce answers true, and reads behind the call as it read before. No condition. -/
import Derived.Test.YtbckoohljkmahaaGreatPa19
import Derived.Test.YtbckoohljkmahaaGreatPa18
namespace Go.Proofs.YtbckoohljkmahaaGreat
set_option linter.unusedVariables false
set_option linter.unusedSimpArgs false
open Go.RowKit Go.Maps
/-- what the maps hold: of each binding ahead its flow, its protocol's port -/
def fG (L : List Bd) (f : Fl) : Option Value := if L.any (fun b => decide (b.fl = f)) then some (.int .i64 1) else none
def pG (L : List Bd) (x : Int × Int) : Option Value := if L.any (fun b => decide ((b.fl.pr, b.po) = x)) then some (.int .i64 1) else none
theorem fG_snoc (L : List Bd) (b : Bd) (g : Fl) : (if g = b.fl then some (Value.int .i64 1) else fG L g) = fG (L ++ [b]) g := by
  unfold fG
  rw [List.any_append]
  by_cases h : g = b.fl
  · subst h; simp
  · have h' : ¬ b.fl = g := fun e => h e.symm
    simp [h, h']
theorem pG_snoc (L : List Bd) (b : Bd) (g : Int × Int) : (if g = (b.fl.pr, b.po) then some (Value.int .i64 1) else pG L g) = pG (L ++ [b]) g := by
  unfold pG
  rw [List.any_append]
  by_cases h : g = (b.fl.pr, b.po)
  · subst h; simp
  · have h' : ¬ (b.fl.pr, b.po) = g := fun e => h e.symm
    simp [h, h']
theorem fG_take {c : Cf} {L : List Bd} (h : LInv c L) {k : Nat} {b : Bd} (hb : L[k]? = some b) : fG (L.take k) b.fl = none := by
  unfold fG
  rw [if_neg]
  intro hc
  obtain ⟨x, hx, hf⟩ := List.any_eq_true.1 hc
  obtain ⟨i, hi⟩ := List.getElem?_of_mem hx
  rw [List.getElem?_take] at hi
  split at hi
  · rename_i hik
    exact (h.ahead hi hb (by omega)).1 (by simpa using hf)
  · cases hi
theorem pG_take {c : Cf} {L : List Bd} (h : LInv c L) {k : Nat} {b : Bd} (hb : L[k]? = some b) : pG (L.take k) (b.fl.pr, b.po) = none := by
  unfold pG
  rw [if_neg]
  intro hc
  obtain ⟨x, hx, hf⟩ := List.any_eq_true.1 hc
  obtain ⟨i, hi⟩ := List.getElem?_of_mem hx
  rw [List.getElem?_take] at hi
  split at hi
  · rename_i hik
    refine (h.ahead hi hb (by omega)).2 ?_
    simpa using hf
  · cases hi
set_option maxRecDepth 100000 in
set_option maxHeartbeats 4000000 in
theorem ModelOnce_walk (A : Option Addr) (n c : Nat) (w : World) (hr : AcRd w A n) (hnc : n ≤ c) (hcm : c ≤ 9223372036854775807) :
    Calls Tryz.prog 4 #[.slice A n c] w fun e w' => e = .returned (.bool true) ∧ Below w.heap.size w w' := by
  have hc : (cfL 39).ok := cfL_ok (by omega)
  have hou : 0 ≤ (cfL 39).ou ∧ (cfL 39).ou ≤ 4294967295 := by decide
  have kT : ∀ W, Calls Tryz.prog 14 #[.agg #[.int .i64 1, .int .u32 3221225985, .int .i64 1000, .int .i64 1039, .int .i64 2, .int .i64 4]] W fun e w' => e = .returned (.agg #[.int .i64 1, .int .u32 3221225985, .int .i64 1000, .int .i64 1039, .int .i64 2, .int .i64 4]) ∧ Below W.heap.size W w' := fun W => To_any (cfL 39) W
  have kN : ∀ W, Calls Tryz.prog 20 #[.agg #[.int .i64 1, .int .u32 3221225985, .int .i64 1000, .int .i64 1039, .int .i64 2, .int .i64 4]] W (NewR W (cfL 39)) := fun W => New_ok (cfL 39) W hc
  replace hc := Lib.hid hc
  replace hou := Lib.hid hou
  replace kT := Lib.hid kT
  replace kN := Lib.hid kN
  replace hr := Lib.hid hr
  go_enter Tryz.func4, Tryz.ntmps4
  go_wp2_with fail
  refine (Config39 _).mono ?_
  rintro e w1 ⟨rfl, bel⟩
  have bc := (Blk.new w1 27 #[.int .i64 0, .int .u32 0, .int .i64 0, .int .i64 0, .int .i64 0, .int .i64 0]).setRow #[.int .i64 1, .int .u32 3221225985, .int .i64 1000, .int .i64 1039, .int .i64 2, .int .i64 4]
  have hbK : Below w1.heap.size w1 ((w1.alloc (.cells #[.int .i64 0, .int .u32 0, .int .i64 0, .int .i64 0, .int .i64 0, .int .i64 0] 27)).setRow w1.heap.size #[.int .i64 1, .int .u32 3221225985, .int .i64 1000, .int .i64 1039, .int .i64 2, .int .i64 4]) := below_setRow (bel_alloc _ _) (Nat.le_refl _) _
  go_upto_region 2 with (refine wpList_stRow rfl rfl rfl rfl rfl (Blk.new w1 _ _) c14_size rfl (by simp [Value.oneCell']) ?_; generalize (w1.alloc (.cells #[.int .i64 0, .int .u32 0, .int .i64 0, .int .i64 0, .int .i64 0, .int .i64 0] 27)).setRow w1.heap.size #[.int .i64 1, .int .u32 3221225985, .int .i64 1000, .int .i64 1039, .int .i64 2, .int .i64 4] = W1 at *)
  replace bel := bel_after bel hbK
  clear hbK
  go_wp2_with (refine wpList_ldRow rfl rfl rfl bc Tryz.underlying27 c14_size ?_)
  refine (kT.out _).mono ?_
  rintro e w2 ⟨rfl, hb⟩
  replace bel := bel_after bel hb
  clear hb kT bc
  go_wp2_with fail
  refine (kN.out _).mono ?_
  intro e w3 hN
  obtain ⟨gn, pb, fm, rfl, ln⟩ := LN.made bel hN
  clear hN bel kN
  go_wp2_with fail
  refine (binds_any _).mono ?_
  rintro e w4 ⟨rfl, hb⟩
  replace ln := ln.bel_ hb
  clear hb
  go_wp2_with fail
  go_loopw [6] (fun i wr => ∃ (k np nf : Nat) (L : List Bd), k ≤ n ∧ k ≤ 50 ∧ i = .int .i64 k ∧ LN w wr (cfL 39) gn pb fm np nf L ∧ np ≤ k ∧ nf ≤ k) (fun i _ => n - (intOf i).toNat)
  case atStart => exact ⟨0, 0, 0, [], by omega, by omega, rfl, ln, by omega, by omega⟩
  case round =>
    clear ln
    obtain ⟨k, np, nf, L, hk, hk30, rfl, ln, hnp, hnf⟩ := hrel
    by_cases hlt : k < n ∧ k < 50
    · obtain ⟨hlt, hlt30⟩ := hlt
      obtain ⟨b, o, rfl, hbl, hcl⟩ := hr.out (by omega)
      obtain ⟨x, hx, hcl⟩ := hcl k hlt
      have hcx : ∀ j u, ([.int .i64 x.wh, .bool x.out, .int .i64 x.wt, .int .i64 x.wo, .int .i64 x.po, .int .i64 x.f, .slice x.A x.n x.c, .int .i64 x.be, .int .u8 x.by_, .int .i64 x.ti, .int .i64 x.pt, .slice x.RA x.rn x.rc] : List Value)[j]? = some u → wr.cell? ⟨b, o + k * 12 + j, none⟩ = some u := fun j u hu => (ln.bel.cell (p := ⟨b, o + k * 12 + j, none⟩) hbl).trans (hcl j u hu)
      have kc := Call_of (hx.bel ln.bel)
      clear hcl hx
      replace kc := Lib.hid kc
      have d1 : decide (k < n) = true := by simpa using hlt
      have d2 : decide ((k : Int) < 50) = true := by simp; omega
      have d3 : decide ((k : Int) < (n : Int)) = true := by simpa using hlt
      have k0 : (0 : Int) ≤ (k : Int) := by omega
      have k1 : (k : Int) < (n : Int) := by omega
      go_wp2_with (refine wpList_ldAt rfl rfl rfl hcx Tryz.underlying52 act_size ?_)
      refine kc.out.mono ?_
      rintro e w5 ⟨o, cA, cn, cc, F, cp, rfl, hcn, hcc, hcm2, rd, hb⟩
      clear hcx kc
      replace ln := ln.bel_ hb
      clear hb
      have hbC : Below w5.heap.size w5 (w5.alloc (.cells #[.bool o, .slice cA cn cc, .int .i64 x.ti, .int .i64 cp] 50)) := bel_alloc _ _
      have bc := Blk.new w5 50 #[.bool o, .slice cA cn cc, .int .i64 x.ti, .int .i64 cp]
      replace ln := ln.bel_ hbC
      replace rd := (rd.below hbC).more hbC.size
      clear hbC
      go_upto_region 9 with fail
      generalize w5.alloc (.cells #[.bool o, .slice cA cn cc, .int .i64 x.ti, .int .i64 cp] 50) = W6 at *
      generalize w5.heap.size = gc at *
      have kS := ln.stp hc.out hou.out (by omega) (by omega) o cA cn cc x.ti cp F rd hcc hcm2 (by omega)
      generalize stepP (cfL 39) L o F x.ti cp = R at kS
      obtain ⟨L', E, X⟩ := R
      unfold StR at kS
      simp only at kS
      replace kS := Lib.hid kS
      have c0 := bc.cell 0
      have c1 := bc.cell 1
      have c2 := bc.cell 2
      have c3 := bc.cell 3
      go_wp2_with fail
      refine kS.out.mono ?_
      rintro e w7 ⟨v, np', nf', rfl, _, ln', h1, h2, hu⟩
      clear kS c0 c1 c2 c3 bc rd hu
      have kB := ln'.bnd hc.out (by omega)
      replace kB := Lib.hid kB
      go_wp2_with fail
      refine kB.out.mono ?_
      rintro e w8 ⟨v8, rfl, own8, ln8, hb⟩
      clear hb kB ln' ln
      obtain ⟨m, hm⟩ : ∃ m, L'.length = m := ⟨_, rfl⟩
      have hm50 : m ≤ 60 := by have := ln8.nm.pl.len; omega
      obtain ⟨A8, c8, rfl, hc81, hc82⟩ := own8.form hm
      have rd8 := own8.rd BdL_len rfl hm
      clear own8
      have hmm := @run_makeMap Tryz.prog
      have mf := KmG.made Tryz.prog 38 Fl.rng litF w8
      have mp := KmG.made Tryz.prog 64 prOk litP (w8.alloc (.map #[] 0))
      rw [show (w8.alloc (.map #[] 0)).heap.size = w8.heap.size + 1 by simp] at mp
      have hb2 : Below w8.heap.size w8 ((w8.alloc (.map #[] 0)).alloc (.map #[] 0)) := (bel_alloc _ _).alloc (by simp) _
      replace mf := mf.bel (bel_alloc (w8.alloc (.map #[] 0)) (.map #[] 0))
      go_upto_region 12 with fail
      generalize hW9 : (w8.alloc (.map #[] 0)).alloc (.map #[] 0) = W9 at *
      obtain ⟨gf, hgf⟩ : ∃ g, w8.heap.size = g := ⟨_, rfl⟩
      rw [hgf] at mf mp hb2 ⊢
      replace hgf := Lib.hid hgf
      clear hW9 hmm
      have hinv := ln8.nm.inv
      replace ln8 := Lib.hid ln8
      replace hinv := Lib.hid hinv
      go_wp2_with fail
      go_loopw [11] (fun i wj => ∃ (j n1 n2 : Nat), j ≤ m ∧ i = .int .i64 j ∧ Below gf w8 wj ∧ n1 ≤ j ∧ n2 ≤ j ∧ KmG Tryz.prog 38 Fl.rng litF wj gf n1 (fG (L'.take j)) ∧ KmG Tryz.prog 64 prOk litP wj (gf + 1) n2 (pG (L'.take j))) (fun i _ => m - (intOf i).toNat)
      case atStart => exact ⟨0, 0, 0, by omega, rfl, hb2, by omega, by omega, mf.ext (fun _ _ => rfl), mp.ext (fun _ _ => rfl)⟩
      case round =>
        clear mf mp hb2
        obtain ⟨j, n1, n2, hj, rfl, hbj, hn1, hn2, mf, mp⟩ := hrel
        rcases Nat.lt_or_ge j m with hjm | hjm
        · have e1 : decide ((j : Int) < (m : Int)) = true := by simpa using hjm
          have e2 : decide (j < m) = true := by simpa using hjm
          obtain ⟨y, hy⟩ : ∃ y, L'[j]? = some y := ⟨_, List.getElem?_eq_getElem (by omega)⟩
          have hp39 := hinv.out.port39 (List.mem_of_getElem? hy)
          have hyr := (hinv.out.ok y (List.mem_of_getElem? hy)).rng
          have hf0 := fG_take hinv.out hy
          have hp0 := pG_take hinv.out hy
          have hf1 := fG_snoc (L'.take j) y
          have hp1 := pG_snoc (L'.take j) y
          have htk : L'.take (j + 1) = L'.take j ++ [y] := by rw [List.take_add_one, hy]; rfl
          rw [← htk] at hf1 hp1
          obtain ⟨g, o2, hA8, hg, hcc8⟩ := rd8.cel (by omega)
          have hcz : ∀ f u, (BdL y)[f]? = some u → wr.cell? ⟨g, o2 + j * 6 + f, none⟩ = some u := fun f u hu => (hbj.cell (p := ⟨g, o2 + j * 6 + f, none⟩) (by have := hgf.out; show g < gf; omega)).trans (hcc8 j y hy f u hu)
          subst hA8
          obtain ⟨⟨b0, b1, b2⟩, b3, b4, b5⟩ := y
          clear hy htk hcc8
          simp only at hp39 hyr hf0 hp0 hf1 hp1
          have hc3 : ∀ f u, ([.int .i64 b0, .int .u32 b1, .int .u16 b2] : List Value)[f]? = some u → wr.cell? ⟨g, o2 + j * 6 + f, none⟩ = some u := fun f u hu => by
            refine hcz f u ?_
            match f with
            | 0 | 1 | 2 => exact hu
            | f + 3 => simp at hu
          have hq3 := hcz 3 _ rfl
          have hq4 := hcz 4 _ rfl
          have hgl : g < gf := by have := hgf.out; omega
          have hgf2 : gf + 1 < wr.heap.size := mp.lt
          clear hcz
          replace hf0 := Lib.hid hf0
          replace hp0 := Lib.hid hp0
          replace hf1 := Lib.hid hf1
          replace hp1 := Lib.hid hp1
          replace hq3 := Lib.hid hq3
          replace hq4 := Lib.hid hq4
          have j0 : (0 : Int) ≤ (j : Int) := by omega
          have j1 : (j : Int) < (m : Int) := by omega
          have kfk := fun W => FromKey_any ⟨b0, b1, b2⟩ W
          simp only [Fl.cs] at kfk
          replace kfk := Lib.hid kfk
          go_wp2_with (refine wpList_ldAt rfl rfl rfl hc3 Tryz.underlying32 fl_size ?_)
          refine (kfk.out _).mono ?_
          rintro e V1 ⟨rfl, hb⟩
          clear kfk hc3
          have hbV : Below wr.heap.size wr (V1.alloc (.cells #[.int .i64 b0, .int .u32 b1, .int .u16 b2] 38)) := hb.alloc hb.size _
          have bk := Blk.new V1 38 #[.int .i64 b0, .int .u32 b1, .int .u16 b2]
          have hsz1 := hb.size
          clear hb
          go_upto_region 16 with fail
          generalize V1.alloc (.cells #[.int .i64 b0, .int .u32 b1, .int .u16 b2] 38) = V2 at *
          generalize V1.heap.size = gk at *
          replace mf := mf.bel hbV
          replace mp := mp.bel hbV
          have hq3' := (hbV.cell (p := ⟨g, o2 + j * 6 + 3, none⟩) (by show g < _; omega)).trans hq3.out
          have hq4' := (hbV.cell (p := ⟨g, o2 + j * 6 + 4, none⟩) (by show g < _; omega)).trans hq4.out
          clear hq3 hq4
          have hgl2 : g < V2.heap.size := by have := hbV.size; omega
          replace hbj := hbj.trans (hbV.mono (by omega))
          clear hbV
          have z0 : ∀ t : Tw (Up V2), t.w.cell? ⟨gk, 0, none⟩ = some (.int .i64 b0) := fun t => (bk.bel t.h).cell 0
          have z3 : ∀ t : Tw (Up V2), t.w.cell? ⟨g, o2 + j * 6 + 3, none⟩ = some (.int .i64 b3) := fun t => (t.h.cell (p := ⟨g, o2 + j * 6 + 3, none⟩) hgl2).trans hq3'
          have zz := Up.one V2
          refine wp_region_plan (Up V2) [(0, true), (1, true), (2, true), (3, true), (4, true), (5, true), (6, true), (7, true), (8, false), (9, false)] (by kernel_rfl) (by kernel_rfl) (by kernel_rfl) (by kernel_rfl) (Below.refl _ _).drew ?_
          have hbd : Below V2.heap.size V2 V2.drew := (Below.refl _ _).drew
          generalize V2.drew = V3 at *
          refine wpPl_qs 8 _ _ _ (by kernel_rfl) (by kernel_rfl) (by simp) ?_
          unfold clsS
          simp only [List.take_succ_cons, List.take_zero, List.drop_succ_cons, List.drop_zero, List.filterMap_cons, List.filterMap_nil, List.getElem?_toArray, List.getElem?_cons_zero, List.getElem?_cons_succ]
          repeat (first
            | go_big_quiet_skip
            | (go_big_quiet_want; go_big_quiet_op; go_big_quiet_on)
            | (refine id (?_ : wpQuiet _ _ _ _ (_ :: _) _); first | go_big_quiet_skip | (go_big_quiet_want; go_big_quiet_op; go_big_quiet_on)))
          refine wpQuiet_nil ?_
          clear z0 z3 zz
          refine wpPl_e _ (by rfl) (by kernel_rfl) (fun K hK => ?_)
          go_simp
          have hbe := hbd.alloc hbd.size (.cells #[.int .i64 0, .int .i64 0] 64)
          refine hK _ _ hbe ?_
          clear hK K
          refine wpPl_e _ (by rfl) (by kernel_rfl) (fun K hK => ?_)
          refine wp_stRow rfl rfl rfl rfl (Blk.new V3 _ _) pr_size rfl (by simp [Value.oneCell']) ?_
          have bp := (Blk.new V3 64 #[.int .i64 0, .int .i64 0]).setRow #[.int .i64 b0, .int .i64 b3]
          have hbf := below_setRow hbe hbd.size #[.int .i64 b0, .int .i64 b3]
          refine hK _ _ hbf ?_
          clear hK K hbe hbd
          unfold wpPl
          refine NoPanic.normal ?_
          generalize (V3.alloc (.cells #[.int .i64 0, .int .i64 0] 64)).setRow V3.heap.size #[.int .i64 b0, .int .i64 b3] = V4 at *
          generalize V3.heap.size = gp at *
          replace bk := bk.bel hbf
          replace mf := mf.bel hbf
          replace mp := mp.bel hbf
          have hq3 := (hbf.cell (p := ⟨g, o2 + j * 6 + 3, none⟩) hgl2).trans hq3'
          have hq4 := (hbf.cell (p := ⟨g, o2 + j * 6 + 4, none⟩) hgl2).trans hq4'
          have hgfV : gf ≤ V2.heap.size := by have := hbj.size; have := hgf.out; omega
          replace hbj := hbj.trans (hbf.mono hgfV)
          clear hbf hq3' hq4'
          have hpr : prOk (b0, b3) := ⟨hyr.1, i64_inr (by show _ ≤ b3 ∧ b3 ≤ _; omega)⟩
          have hl1 := mf.look0 rflow_int hyr
          rw [hf0.out] at hl1
          simp only [Option.getD_none, Fl.cs] at hl1
          have hl2 := mp.look0 pr_int hpr
          rw [hp0.out] at hl2
          simp only [Option.getD_none, prV] at hl2
          have y1 := wpList_ldX (P := Tryz.prog) bk Tryz.underlying38 rfl_size
          have y2 := wpList_lookX (P := Tryz.prog) hl1
          have y3 := wpList_ldArrX (P := Tryz.prog) bp Tryz.underlying64 pr_size
          have y4 := wpList_lookX (P := Tryz.prog) hl2
          replace y1 := Lib.hid y1
          replace y2 := Lib.hid y2
          replace y3 := Lib.hid y3
          replace y4 := Lib.hid y4
          clear hl1 hl2
          go_upto_region 19 with (first
            | (with_reducible refine y1.out _ _ _ _ _ ?_ ?_; exact ⟨_, rfl, rfl, by kernel_rfl⟩)
            | (with_reducible refine y2.out _ _ _ _ _ ?_ ?_; exact ⟨_, _, rfl, rfl, rfl, by kernel_rfl⟩)
            | (with_reducible refine y3.out _ _ _ _ _ ?_ ?_; exact ⟨_, rfl, rfl, by kernel_rfl⟩)
            | (with_reducible refine y4.out _ _ _ _ _ ?_ ?_; exact ⟨_, _, rfl, rfl, rfl, by kernel_rfl⟩))
          clear y1 y2 y3 y4 hq3 hq4
          have zz : Nonempty (Tw (fun w' => Blk w' gk 38 #[.int .i64 b0, .int .u32 b1, .int .u16 b2] ∧ Blk w' gp 64 #[.int .i64 b0, .int .i64 b3])) := ⟨⟨_, bk, bp⟩⟩
          have z1 : ∀ w', (∃ t : Tw (fun w' => Blk w' gk 38 #[.int .i64 b0, .int .u32 b1, .int .u16 b2] ∧ Blk w' gp 64 #[.int .i64 b0, .int .i64 b3]), w' = t.w) → Blk w' gk 38 #[.int .i64 b0, .int .u32 b1, .int .u16 b2] := fun w' ⟨t, ht⟩ => ht ▸ t.h.1
          have z2 : ∀ w', (∃ t : Tw (fun w' => Blk w' gk 38 #[.int .i64 b0, .int .u32 b1, .int .u16 b2] ∧ Blk w' gp 64 #[.int .i64 b0, .int .i64 b3]), w' = t.w) → Blk w' gp 64 #[.int .i64 b0, .int .i64 b3] := fun w' ⟨t, ht⟩ => ht ▸ t.h.2
          refine wp_region_plan (fun w' => Blk w' gk 38 #[.int .i64 b0, .int .u32 b1, .int .u16 b2] ∧ Blk w' gp 64 #[.int .i64 b0, .int .i64 b3]) [(0, true), (1, true), (2, true), (3, true), (4, false), (5, false)] (by kernel_rfl) (by kernel_rfl) (by kernel_rfl) (by kernel_rfl) ⟨bk.drew, bp.drew⟩ ?_
          replace mf := mf.bel (Below.refl _ _).drew
          replace mp := mp.bel (Below.refl _ _).drew
          replace bk := bk.drew
          replace bp := bp.drew
          replace hbj := hbj.drew
          generalize V4.drew = V5 at *
          refine wpPl_qs 4 _ _ _ (by kernel_rfl) (by kernel_rfl) (by simp) ?_
          unfold clsS
          simp only [List.take_succ_cons, List.take_zero, List.drop_succ_cons, List.drop_zero, List.filterMap_cons, List.filterMap_nil, List.getElem?_toArray, List.getElem?_cons_zero, List.getElem?_cons_succ]
          repeat (first
            | go_big_quiet_skip
            | (go_big_quiet_want; first | (refine quiet_ldRow rfl rfl z1 Tryz.underlying38 rfl_size ?_; go_simp; go_big_quiet_on) | (refine quiet_ldArr rfl rfl z2 Tryz.underlying64 pr_size ?_; go_simp; go_big_quiet_on) | (go_big_quiet_op; go_big_quiet_on))
            | (refine id (?_ : wpQuiet _ _ _ _ (_ :: _) _); first | go_big_quiet_skip | (go_big_quiet_want; first | (refine quiet_ldRow rfl rfl z1 Tryz.underlying38 rfl_size ?_; go_simp; go_big_quiet_on) | (refine quiet_ldArr rfl rfl z2 Tryz.underlying64 pr_size ?_; go_simp; go_big_quiet_on) | (go_big_quiet_op; go_big_quiet_on))))
          refine wpQuiet_nil ?_
          clear z1 z2 zz
          obtain ⟨V6, hrun, mf6, hu6⟩ := mf.put rflow_int (by omega) hyr (.int .i64 1)
          simp only [Fl.cs] at hrun
          refine wpPl_e _ (by rfl) (by kernel_rfl) (fun K hK => ?_)
          refine wp_updN rfl rfl rfl rfl rfl hrun ?_
          have mp6 := mp.upd hu6 (by omega)
          have bk6 := bk.upd hu6 (fun e => mf.notBlk bk e)
          have bp6 := bp.upd hu6 (fun e => mf.notBlk bp e)
          have hb6 := hbj.trans (hu6.below (by have := hbj.size; have := hgf.out; omega) (fun k hk (e : k = gf) => by omega))
          refine hK _ _ ⟨bk6, bp6⟩ ?_
          clear hK K hrun
          obtain ⟨V7, hrun, mp7, hu7⟩ := mp6.put pr_int (by omega) hpr (.int .i64 1)
          simp only [prV] at hrun
          refine wpPl_e _ (by rfl) (by kernel_rfl) (fun K hK => ?_)
          refine wp_updN rfl rfl rfl rfl rfl hrun ?_
          have mf7 := mf6.upd hu7 (by omega)
          have bk7 := bk6.upd hu7 (fun e => mp6.notBlk bk6 e)
          have bp7 := bp6.upd hu7 (fun e => mp6.notBlk bp6 e)
          have hb7 := hb6.trans (hu7.below (by have := hb6.size; have := hgf.out; omega) (fun k hk (e : k = gf + 1) => by omega))
          refine hK _ _ ⟨bk7, bp7⟩ ?_
          clear hK K hrun
          unfold wpPl
          refine NoPanic.normal ?_
          go_wp2_with fail
          go_roundw
          case rel => exact ⟨j + 1, n1 + 1, n2 + 1, by omega, by go_num, hb7, by omega, by omega, mf7.ext (fun f _ => hf1.out f), mp7.ext (fun f _ => hp1.out f)⟩
          case measure => simp [intOf]; omega
        · obtain rfl : j = m := by omega
          have e1 : decide ((j : Int) < (j : Int)) = false := by simp
          have e2 : decide (j < j) = false := by simp
          go_wp2_with fail
          go_roundw
          case rel => exact ⟨k + 1, np', nf', L', by omega, by omega, by go_num, ln8.out.bel_ (by rw [hgf.out]; exact hbj), by omega, by omega⟩
          case measure => simp [intOf]; omega
    · go_upto_region 6 with fail
      go_cut [34] (fun s34 wx => s34 = .bool false ∧ wr = wx)
      case first =>
        rcases Nat.lt_or_ge k n with h1 | h1
        · have d1 : decide (k < n) = true := by simpa using h1
          have d3 : decide ((k : Int) < (n : Int)) = true := by simpa using h1
          have d2 : decide ((k : Int) < 50) = false := by simp; omega
          go_wp2_with fail
          go_meet
          exact ⟨rfl, rfl⟩
        · have d1 : decide (k < n) = false := by simpa using h1
          have d3 : decide ((k : Int) < (n : Int)) = false := by simpa using h1
          go_wp2_with fail
          go_meet
          exact ⟨rfl, rfl⟩
      case rest =>
        obtain ⟨rfl, rfl⟩ := hcut
        clear hlt
        go_wp2_with fail
        go_ret
        exact ⟨rfl, ln.bel⟩
theorem ModelOnce_args (W : World) (args : Array Value) (hs : args.size = Tryz.f4.params.size) (hA : ∀ (j : Nat) t v, Tryz.f4.params[j]? = some t → args[j]? = some v → Arg Tryz.prog W t v) :
    Calls Tryz.prog 4 args W fun e W' => e = .returned (.bool true) ∧ Below W.heap.size W W' := by
  obtain ⟨v0, rfl⟩ := args1 hs
  obtain ⟨A, n, c, rfl, h1, h2, h3⟩ := arg_acts (hA 0 45 v0 rfl rfl)
  exact ModelOnce_walk A n c W h3 h1 h2

set_option maxRecDepth 100000 in
theorem ModelOnce_lifted (os : Os) (started : os.Started) (H : Type) (enc : TypeId × Value → H) :
    ReturnsInHanded {} Tryz.checked os 4 .any (Rows.modelOnceSpec.pre6 enc Tryz.prog Tryz.f4 Rows.modelOnceRow.domain false) (Rows.modelOnceSpec.post enc Tryz.prog Tryz.f4 false true false false) :=
  law_lifted os started H enc (by kernel_rfl) Tryz.func4 rfl rfl (fun H ds h => by match ds, h with | [_], _ => exact ⟨rfl, rfl, rfl⟩) (by kernel_rfl)
    (ChangeSpec.witness6 (enc := enc) (C := Tryz.checked) false ⟨#[], #[.slice none 0 0], []⟩ 8 (by kernel_rfl) (by kernel_rfl) (by kernel_rfl) (by kernel_rfl))
    ModelOnce_args

/-- the statement -/
theorem modelOnce_holds : Rows.ModelOnceSaid :=
  OpenClaim.holds_of_wide 4 Tryz.f4 rfl rfl rfl rfl rfl rfl rfl ⟨rfl, rfl, rfl, rfl, rfl⟩ rfl rfl rfl rfl rfl (by kernel_rfl) Tryz.func4 (by kernel_rfl)
    (of_decide_eq_true (by kernel_rfl)) (by unfold Func.isWrapper; first | (rw [if_pos (by decide +kernel)]; kernel_rfl) | (rw [if_neg (by decide +kernel)]; exact ⟨rfl, rfl⟩))
    (fun os started H enc _ => ModelOnce_lifted os started H enc)

end Go.Proofs.YtbckoohljkmahaaGreat
