/- Every input of ModelDrops answers true, and reads behind the call as it read before. No condition. -/
import Derived.Test.YtbckoohljkmahaaGreatPa19
import Derived.Test.YtbckoohljkmahaaGreatPa18
namespace Go.Proofs.YtbckoohljkmahaaGreat
set_option linter.unusedVariables false
set_option linter.unusedSimpArgs false
open Go.RowKit
set_option maxRecDepth 100000 in
set_option maxHeartbeats 4000000 in
theorem ModelDrops_walk (A : Option Addr) (n c : Nat) (y : Ac) (w : World) (hr : AcRd w A n) (hnc : n ≤ c) (hcm : c ≤ 9223372036854775807) (hy : AcOk w y) :
    Calls Tryz.prog 7 #[.slice A n c, .agg #[.int .i64 y.wh, .bool y.out, .int .i64 y.wt, .int .i64 y.wo, .int .i64 y.po, .int .i64 y.f, .slice y.A y.n y.c, .int .i64 y.be, .int .u8 y.by_, .int .i64 y.ti, .int .i64 y.pt, .slice y.RA y.rn y.rc]] w fun e w' => e = .returned (.bool true) ∧ Below w.heap.size w w' := by
  have hc : (cfL 39).ok := cfL_ok (by omega)
  have hou : 0 ≤ (cfL 39).ou ∧ (cfL 39).ou ≤ 4294967295 := by decide
  have kT : ∀ W, Calls Tryz.prog 14 #[.agg #[.int .i64 1, .int .u32 3221225985, .int .i64 1000, .int .i64 1039, .int .i64 2, .int .i64 4]] W fun e w' => e = .returned (.agg #[.int .i64 1, .int .u32 3221225985, .int .i64 1000, .int .i64 1039, .int .i64 2, .int .i64 4]) ∧ Below W.heap.size W w' := fun W => To_any (cfL 39) W
  have kN : ∀ W, Calls Tryz.prog 20 #[.agg #[.int .i64 1, .int .u32 3221225985, .int .i64 1000, .int .i64 1039, .int .i64 2, .int .i64 4]] W (NewR W (cfL 39)) := fun W => New_ok (cfL 39) W hc
  replace hc := Lib.hid hc
  replace hou := Lib.hid hou
  replace kT := Lib.hid kT
  replace kN := Lib.hid kN
  replace hr := Lib.hid hr
  replace hy := Lib.hid hy
  go_enter Tryz.func7, Tryz.ntmps7
  go_upto_region 1 with fail
  have ba := Blk.new w 52 #[.int .i64 y.wh, .bool y.out, .int .i64 y.wt, .int .i64 y.wo, .int .i64 y.po, .int .i64 y.f, .slice y.A y.n y.c, .int .i64 y.be, .int .u8 y.by_, .int .i64 y.ti, .int .i64 y.pt, .slice y.RA y.rn y.rc]
  have bel := bel_alloc w (.cells #[.int .i64 y.wh, .bool y.out, .int .i64 y.wt, .int .i64 y.wo, .int .i64 y.po, .int .i64 y.f, .slice y.A y.n y.c, .int .i64 y.be, .int .u8 y.by_, .int .i64 y.ti, .int .i64 y.pt, .slice y.RA y.rn y.rc] 52)
  generalize w.alloc (.cells #[.int .i64 y.wh, .bool y.out, .int .i64 y.wt, .int .i64 y.wo, .int .i64 y.po, .int .i64 y.f, .slice y.A y.n y.c, .int .i64 y.be, .int .u8 y.by_, .int .i64 y.ti, .int .i64 y.pt, .slice y.RA y.rn y.rc] 52) = W at *
  go_wp2_with fail
  refine (Config39 _).mono ?_
  rintro e w1 ⟨rfl, hb⟩
  replace ba := ba.bel hb
  replace bel := bel_after bel hb
  clear hb
  go_wp2_with fail
  refine (kT.out _).mono ?_
  rintro e w2 ⟨rfl, hb⟩
  replace ba := ba.bel hb
  replace bel := bel_after bel hb
  clear hb kT
  go_wp2_with fail
  refine (kN.out _).mono ?_
  intro e w3 hN
  have ba3 := ba.bel hN.choose_spec.choose_spec.choose_spec.2.2.1
  obtain ⟨gn, pb, fm, rfl, ln⟩ := LN.made bel hN
  clear hN bel kN ba
  go_wp2_with fail
  refine (binds_any _).mono ?_
  rintro e w4 ⟨rfl, hb⟩
  replace ba3 := ba3.bel hb
  replace ln := ln.bel_ hb
  clear hb
  go_wp2_with fail
  go_loopw [7] (fun i wr => ∃ (k np nf : Nat) (L : List Bd), k ≤ n ∧ k ≤ 30 ∧ i = .int .i64 k ∧ LN w wr (cfL 39) gn pb fm np nf L ∧ np ≤ k ∧ nf ≤ k ∧ Blk wr w.heap.size 52 #[.int .i64 y.wh, .bool y.out, .int .i64 y.wt, .int .i64 y.wo, .int .i64 y.po, .int .i64 y.f, .slice y.A y.n y.c, .int .i64 y.be, .int .u8 y.by_, .int .i64 y.ti, .int .i64 y.pt, .slice y.RA y.rn y.rc]) (fun i _ => n - (intOf i).toNat)
  case atStart => exact ⟨0, 0, 0, [], by omega, by omega, rfl, ln, by omega, by omega, ba3⟩
  case round =>
    clear ln ba3
    obtain ⟨k, np, nf, L, hk, hk30, rfl, ln, hnp, hnf, ba⟩ := hrel
    by_cases hlt : k < n ∧ k < 30
    · obtain ⟨hlt, hlt30⟩ := hlt
      obtain ⟨b, o, rfl, hbl, hcl⟩ := hr.out (by omega)
      obtain ⟨x, hx, hcl⟩ := hcl k hlt
      have hcx : ∀ j u, ([.int .i64 x.wh, .bool x.out, .int .i64 x.wt, .int .i64 x.wo, .int .i64 x.po, .int .i64 x.f, .slice x.A x.n x.c, .int .i64 x.be, .int .u8 x.by_, .int .i64 x.ti, .int .i64 x.pt, .slice x.RA x.rn x.rc] : List Value)[j]? = some u → wr.cell? ⟨b, o + k * 12 + j, none⟩ = some u := fun j u hu => (ln.bel.cell (p := ⟨b, o + k * 12 + j, none⟩) hbl).trans (hcl j u hu)
      have kc := Call_of (hx.bel ln.bel)
      clear hcl hx
      replace kc := Lib.hid kc
      have d1 : decide (k < n) = true := by simpa using hlt
      have d2 : decide ((k : Int) < 30) = true := by simp; omega
      have d3 : decide ((k : Int) < (n : Int)) = true := by simpa using hlt
      have k0 : (0 : Int) ≤ (k : Int) := by omega
      have k1 : (k : Int) < (n : Int) := by omega
      go_wp2_with (refine wpList_ldAt rfl rfl rfl hcx Tryz.underlying52 act_size ?_)
      refine kc.out.mono ?_
      rintro e w5 ⟨o, cA, cn, cc, F, cp, rfl, hcn, hcc, hcm2, rd, hb⟩
      clear hcx kc
      replace ln := ln.bel_ hb
      replace ba := ba.bel hb
      clear hb
      have hbC : Below w5.heap.size w5 (w5.alloc (.cells #[.bool o, .slice cA cn cc, .int .i64 x.ti, .int .i64 cp] 50)) := bel_alloc _ _
      have bc := Blk.new w5 50 #[.bool o, .slice cA cn cc, .int .i64 x.ti, .int .i64 cp]
      replace ln := ln.bel_ hbC
      replace ba := ba.bel hbC
      replace rd := (rd.below hbC).more hbC.size
      clear hbC
      go_upto_region 8 with fail
      generalize w5.alloc (.cells #[.bool o, .slice cA cn cc, .int .i64 x.ti, .int .i64 cp] 50) = W6 at *
      generalize w5.heap.size = gc at *
      have kS := ln.stp hc.out hou.out (by omega) (by omega) o cA cn cc x.ti cp F rd hcc hcm2 (by omega)
      generalize stepP (cfL 39) L o F x.ti cp = R at kS
      obtain ⟨L', E, X⟩ := R
      unfold StR at kS
      simp only at kS
      replace kS := Lib.hid kS
      have c0 := bc.cell 0
      have c1 := bc.cell 1
      have c2 := bc.cell 2
      have c3 := bc.cell 3
      go_wp2_with fail
      refine kS.out.mono ?_
      rintro e w7 ⟨v, np', nf', rfl, _, ln', h1, h2, hu⟩
      have ba' := ln.nm.keepB ba hu
      clear kS c0 c1 c2 c3 bc rd hu
      go_wp2_with fail
      go_roundw
      case rel => exact ⟨k + 1, np', nf', L', by omega, by omega, by go_num, ln', by omega, by omega, ba'⟩
      case measure => simp [intOf]; omega
    · go_upto_region 5 with fail
      go_cut [31] (fun s31 wx => s31 = .bool false ∧ wr = wx)
      case first =>
        rcases Nat.lt_or_ge k n with h1 | h1
        · have d1 : decide (k < n) = true := by simpa using h1
          have d3 : decide ((k : Int) < (n : Int)) = true := by simpa using h1
          have d2 : decide ((k : Int) < 30) = false := by simp; omega
          go_wp2_with fail
          go_meet
          exact ⟨rfl, rfl⟩
        · have d1 : decide (k < n) = false := by simpa using h1
          have d3 : decide ((k : Int) < (n : Int)) = false := by simpa using h1
          go_wp2_with fail
          go_meet
          exact ⟨rfl, rfl⟩
      case rest =>
        obtain ⟨rfl, rfl⟩ := hcut
        have kB := ln.bnd hc.out (by omega)
        replace kB := Lib.hid kB
        clear hlt
        go_wp2_with fail
        refine kB.out.mono ?_
        rintro e w5 ⟨v5, rfl, own5, ln5, hb⟩
        replace ba := ba.bel hb
        clear hb kB ln
        obtain ⟨m, hm⟩ : ∃ m, L.length = m := ⟨_, rfl⟩
        have hm30 : m ≤ 30 := by have := ln5.nm.pl.len; omega
        obtain ⟨A5, c5, rfl, hc51, hc52⟩ := own5.form hm
        have kF := from_any L A5 m c5 w5 (own5.rd BdL_len rfl hm) hc51 (by omega)
        replace kF := Lib.hid kF
        go_wp2_with fail
        refine kF.out.mono ?_
        rintro e w6 ⟨v6, rfl, own6, hb⟩
        replace ba := ba.bel hb
        replace ln5 := ln5.bel_ hb
        clear hb kF own5
        obtain ⟨A6, c6, rfl, hc61, hc62⟩ := own6.form hm
        have kc := Call_of (hy.out.bel ln5.bel)
        replace kc := Lib.hid kc
        go_wp2_with (refine wpList_ldRow rfl rfl rfl ba Tryz.underlying52 act_size ?_)
        refine kc.out.mono ?_
        rintro e w7 ⟨o, cA, cn, cc, F, cp, rfl, hcn, hcc, hcm2, rd, hb⟩
        clear kc ba
        replace ln5 := ln5.bel_ hb
        replace own6 := own6.below hb
        clear hb
        have hbC : Below w7.heap.size w7 (w7.alloc (.cells #[.bool o, .slice cA cn cc, .int .i64 y.ti, .int .i64 cp] 50)) := bel_alloc _ _
        have bc := Blk.new w7 50 #[.bool o, .slice cA cn cc, .int .i64 y.ti, .int .i64 cp]
        replace ln5 := ln5.bel_ hbC
        replace own6 := own6.below hbC
        replace rd := (rd.below hbC).more hbC.size
        clear hbC
        go_upto_region 11 with fail
        generalize w7.alloc (.cells #[.bool o, .slice cA cn cc, .int .i64 y.ti, .int .i64 cp] 50) = W8 at *
        generalize w7.heap.size = gc at *
        have kS := ln5.stp hc.out hou.out (by omega) (by omega) o cA cn cc y.ti cp F rd hcc hcm2 (by omega)
        have h8 : Bytes8 F := fun x hx => inr_u8 (rd.rng x hx)
        have hok := step_ok (ti := y.ti) (po := cp) (ou := o) hc.out hou.out ln5.nm.inv h8
        have herr := step_err (c := cfL 39) (L := L) (ti := y.ti) (po := cp) (ou := o) (l := F)
        generalize stepP (cfL 39) L o F y.ti cp = R at kS hok herr
        obtain ⟨L', E, X⟩ := R
        unfold StR at kS
        simp only at kS hok herr
        replace kS := Lib.hid kS
        have c0 := bc.cell 0
        have c1 := bc.cell 1
        have c2 := bc.cell 2
        have c3 := bc.cell 3
        go_wp2_with fail
        refine kS.out.mono ?_
        rintro e w9 ⟨v, np', nf', rfl, own9, ln9, h1, h2, hu⟩
        replace own6 := ln5.nm.ownTU own6 hu
        clear kS c0 c1 c2 c3 bc rd hu ln5
        obtain ⟨nx, hnx⟩ : ∃ nx, X.length = nx := ⟨_, rfl⟩
        obtain ⟨A9, c9, rfl, hc91, hc92, _⟩ := own9.form hnx
        clear own9
        have bz := (Blk.new w9 55 #[.slice none 0 0, .int .i64 0]).setRow #[.slice A9 nx c9, .int .i64 E]
        have hbA : Below w9.heap.size w9 ((w9.alloc (.cells #[.slice none 0 0, .int .i64 0] 55)).setRow w9.heap.size #[.slice A9 nx c9, .int .i64 E]) := below_setRow (bel_alloc _ _) (Nat.le_refl _) _
        go_upto_region 12 with (refine wpList_stRow rfl rfl rfl rfl rfl (Blk.new w9 _ _) an_size rfl (by simp [Value.oneCell']) ?_; generalize (w9.alloc (.cells #[.slice none 0 0, .int .i64 0] 55)).setRow w9.heap.size #[.slice A9 nx c9, .int .i64 E] = W10 at *)
        replace ln9 := ln9.bel_ hbA
        replace own6 := own6.below hbA
        clear hbA
        generalize w9.heap.size = gz at *
        have z0 := bz.cell 0
        have z1 := bz.cell 1
        by_cases hE : E = 0
        · have h0 := hok hE
          rw [hnx] at h0
          subst hE
          have d1 : decide (0 < nx) = true := by simpa using h0
          have d2 : decide ((0 : Int) < (nx : Int)) = true := by simpa using h0
          clear hok herr
          go_wp2_with fail
          go_ret
          exact ⟨rfl, ln9.bel⟩
        · obtain ⟨rfl, rfl⟩ := herr hE
          have hnx0 : nx = 0 := hnx.symm
          subst hnx0
          have d1 : (E == 0) = false := by simpa using hE
          have d2 : (E != 0) = true := by simpa using hE
          clear hok herr hE
          have kB := ln9.bnd hc.out (by omega)
          replace kB := Lib.hid kB
          go_wp2_with fail
          refine kB.out.mono ?_
          rintro e w11 ⟨v11, rfl, own11, ln11, hb⟩
          replace own6 := own6.below hb
          clear hb kB ln9 z0 z1 bz
          obtain ⟨A11, c11, rfl, hc111, hc112⟩ := own11.form hm
          have kF := from_any L' A11 m c11 w11 (own11.rd BdL_len rfl hm) hc111 (by omega)
          replace kF := Lib.hid kF
          go_wp2_with fail
          refine kF.out.mono ?_
          rintro e w12 ⟨v12, rfl, own12, hb⟩
          replace own6 := own6.below hb
          replace ln11 := ln11.bel_ hb
          clear hb kF own11
          obtain ⟨A12, c12, rfl, hc121, hc122⟩ := own12.form hm
          have kY := Same_yes L' A12 A6 m c12 c6 w12 (own12.rd BdL_len rfl hm) (own6.rd BdL_len rfl hm) (by omega)
          replace kY := Lib.hid kY
          go_wp2_with fail
          refine kY.out.mono ?_
          rintro e w13 ⟨rfl, hb⟩
          replace ln11 := ln11.bel_ hb
          go_wp2_with fail
          go_ret
          exact ⟨rfl, ln11.bel⟩
theorem ModelDrops_args (W : World) (args : Array Value) (hs : args.size = Tryz.f7.params.size) (hA : ∀ (j : Nat) t v, Tryz.f7.params[j]? = some t → args[j]? = some v → Arg Tryz.prog W t v) :
    Calls Tryz.prog 7 args W fun e W' => e = .returned (.bool true) ∧ Below W.heap.size W W' := by
  obtain ⟨v0, v1, rfl⟩ := args2 hs
  obtain ⟨A, n, c, rfl, h1, h2, h3⟩ := arg_acts (hA 0 45 v0 rfl rfl)
  obtain ⟨y, rfl, hy⟩ := arg_act (hA 1 52 v1 rfl rfl)
  exact ModelDrops_walk A n c y W h3 h1 h2 hy

set_option maxRecDepth 100000 in
theorem ModelDrops_lifted (os : Os) (started : os.Started) (H : Type) (enc : TypeId × Value → H) :
    ReturnsInHanded {} Tryz.checked os 7 .any (Rows.modelDropsSpec.pre6 enc Tryz.prog Tryz.f7 Rows.modelDropsRow.domain false) (Rows.modelDropsSpec.post enc Tryz.prog Tryz.f7 false true false false) :=
  law_lifted os started H enc (by kernel_rfl) Tryz.func7 rfl rfl (fun H ds h => by match ds, h with | [_, _], _ => exact ⟨rfl, rfl, rfl⟩) (by kernel_rfl)
    (ChangeSpec.witness6 (enc := enc) (C := Tryz.checked) false ⟨#[], #[.slice none 0 0, .agg #[.int .i64 0, .bool false, .int .i64 0, .int .i64 0, .int .i64 0, .int .i64 0, .slice none 0 0, .int .i64 0, .int .u8 0, .int .i64 0, .int .i64 0, .slice none 0 0]], []⟩ 8 (by kernel_rfl) (by kernel_rfl) (by kernel_rfl) (by kernel_rfl))
    ModelDrops_args

/-- the statement -/
theorem modelDrops_holds : Rows.ModelDropsSaid :=
  OpenClaim.holds_of_wide 7 Tryz.f7 rfl rfl rfl rfl rfl rfl rfl ⟨rfl, rfl, rfl, rfl, rfl⟩ rfl rfl rfl rfl rfl (by kernel_rfl) Tryz.func7 (by kernel_rfl)
    (of_decide_eq_true (by kernel_rfl)) (by unfold Func.isWrapper; first | (rw [if_pos (by decide +kernel)]; kernel_rfl) | (rw [if_neg (by decide +kernel)]; exact ⟨rfl, rfl⟩))
    (fun os started H enc _ => ModelDrops_lifted os started H enc)

end Go.Proofs.YtbckoohljkmahaaGreat
