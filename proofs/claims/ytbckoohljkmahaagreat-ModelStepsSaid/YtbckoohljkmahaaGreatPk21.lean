/- Contracts and plain facts. -/
import Derived.Test.YtbckoohljkmahaaGreatPk19
import Derived.Test.YtbckoohljkmahaaGreatPk20
namespace Go.Proofs.YtbckoohljkmahaaGreat
set_option linter.unusedVariables false
set_option linter.unusedSimpArgs false
set_option maxRecDepth 100000
set_option maxHeartbeats 16000000
open Go.RowKit
section
open Go.RowKit Go.Maps
structure LN (w W : World) (c : Cf) (gn pb fm np nf : Nat) (L : List Bd) : Prop where
 nm : NatM W c gn pb fm np nf L
 hg : w.heap.size ≤ gn
 hp : w.heap.size ≤ pb
 hf : w.heap.size ≤ fm
 bel : Below w.heap.size w W
section
variable {w W W' : World} {c : Cf} {gn pb fm np nf np' nf' : Nat} {L L' : List Bd}
theorem NatM.notU (h : NatM W c gn pb fm np nf L) {g : Nat} {cur : Array Value} {t : TypeId} {q : Nat × Nat} (hb : W.heap[g]? = some (.cells cur t q)) : ¬ (g = pb ∨ g = fm) := by
 rintro (e | e)
 ·obtain ⟨es, clock, h1, _⟩ := h.pl.own
  rw [e, h1] at hb; cases hb
 ·obtain ⟨D, ⟨es, clock, h1, _⟩, _⟩ := h.fl.ex
  rw [e, h1] at hb; cases hb
theorem LN.bel_ (h : LN w W c gn pb fm np nf L) (hb : Below W.heap.size W W') : LN w W' c gn pb fm np nf L := ⟨h.nm.bel_ hb, h.hg, h.hp, h.hf, bel_after h.bel hb⟩
theorem LN.drew (h : LN w W c gn pb fm np nf L) : LN w W.drew c gn pb fm np nf L := h.bel_ (Below.refl _ _).drew
theorem LN.step (h : LN w W c gn pb fm np nf L) (hm : NatM W' c gn pb fm np' nf' L') (hu : Upd (fun k => k = pb ∨ k = fm) W W') : LN w W' c gn pb fm np' nf' L' :=
 ⟨hm, h.hg, h.hp, h.hf, h.bel.trans (hu.below h.bel.size (fun k hk hS => by
  have h1 := h.hp
  have h2 := h.hf
  rcases hS with e | e <;> omega))⟩
end
def StR (w W : World) (c : Cf) (gn pb fm np nf : Nat) (R : List Bd × Int × List Int) (e : Ending) (W' : World) : Prop :=
 ∃ v np' nf', e = .returned (.agg #[v, .int .i64 R.2.1]) ∧ Own .u8 5 W' W.heap.size v R.2.2 ∧ LN w W' c gn pb fm np' nf' R.1 ∧ np' ≤ np + 1 ∧ nf' ≤ nf + 1 ∧ Upd (fun k => k = pb ∨ k = fm) W W'
theorem LN.stp {w W : World} {c : Cf} {gn pb fm np nf : Nat} {L : List Bd} (h : LN w W c gn pb fm np nf L) (hc : c.ok) (hou : 0 ≤ c.ou ∧ c.ou ≤ 4294967295) (hn1 : np < 900000) (hn2 : nf < 900000) (ou : Bool) (xA : Option Addr) (xn xc : Nat) (ti po : Int) (l : List Int)
  (hr : Rd .u8 W W.heap.size xA xn l) (hlc : xn ≤ xc) (hcm : xc ≤ 9223372036854775807) (hl : xn ≤ 60000) :
  Calls Tryz.prog 22 #[.pointer (some ⟨gn, 0, none⟩), .agg (A13 ou xA xn xc ti po)] W (StR w W c gn pb fm np nf (stepP c L ou l ti po)) := by
 refine (Step_any c gn pb fm np nf L ou xA xn xc ti po l W h.nm hc hou hn1 hn2 hr hlc hcm hl).mono ?_
 rintro e W' ⟨v, np', nf', rfl, hO, hM, h1, h2, hu⟩
 exact ⟨v, np', nf', rfl, hO, h.step hM hu, h1, h2, hu⟩
theorem LN.made {w W W' : World} {c : Cf} {e : Ending} (hb : Below w.heap.size w W) (h : NewR W c e W') : ∃ gn pb fm, e = .returned (.tuple #[.pointer (some ⟨gn, 0, none⟩), .int .i64 0]) ∧ LN w W' c gn pb fm 0 0 [] := by
 obtain ⟨gn, pb, fm, rfl, hm, hb2, h1, h2, h3⟩ := h
 have := hb.size
 exact ⟨gn, pb, fm, rfl, hm, by omega, by omega, by omega, bel_after hb hb2⟩
theorem LN.bnd {w W : World} {c : Cf} {gn pb fm np nf : Nat} {L : List Bd} (h : LN w W c gn pb fm np nf L) (hc : c.ok) (hnp : np ≤ 1000000) : Calls Tryz.prog 23 #[.pointer (some ⟨gn, 0, none⟩)] W fun e W' => ∃ v, e = .returned v ∧ OwnT BdL 6 63 W' W.heap.size v L ∧ LN w W' c gn pb fm np nf L ∧ Below W.heap.size W W' := by
 refine (Bindings_any c gn pb fm np nf L W h.nm hc hnp).mono ?_
 rintro e W' ⟨v, rfl, hO, hM, hb⟩
 exact ⟨v, rfl, hO, h.bel_ hb, hb⟩
theorem LN.exp {w W : World} {c : Cf} {gn pb fm np nf : Nat} {L : List Bd} (h : LN w W c gn pb fm np nf L) (hc : c.ok) (pr po ti : Int) : Calls Tryz.prog 27 (A22 (some ⟨gn, 0, none⟩) pr po ti) W fun e W' => e = .returned (.bool (expP c L pr po ti).2) ∧ LN w W' c gn pb fm np nf (expP c L pr po ti).1 ∧ Upd (fun k => k = pb ∨ k = fm) W W' := by
 refine (Expire_any c gn pb fm np nf L pr po ti W h.nm hc).mono ?_
 rintro e W' ⟨rfl, hM, hu⟩
 exact ⟨rfl, h.step hM hu, hu⟩
end
section
open Go.RowKit Go.Maps
def bindB : Bd := ⟨⟨17, 167772161, 5⟩, 1000, 0, 3⟩
theorem bind_step : stepP (cfL 9) [] true (frameL 0 167772161 134744065 5 53 0 []) 3 1000 = ([bindB], 0, rwL (frameL 0 167772161 134744065 5 53 0 []) true 3221225985 1000) :=
 step_new (k := 0) (s := 167772161) (d := 134744065) (a := 5) (b := 53) (f := 0) (l := []) (by omega) (by omega) (by omega) (by omega) (fun x hx => by simp at hx) (by simp) (by omega) (cfL 9) [] 3 1000 (by omega) (by omega) (by omega) rfl (by decide) rfl
theorem bind_stay : expP (cfL 9) [bindB] 17 1000 122 = ([bindB], false) := by kernel_rfl
theorem bind_go : expP (cfL 9) [bindB] 17 1000 123 = ([], true) := by kernel_rfl
theorem Frame15_bind (W : World) : Calls Tryz.prog 12 #[.agg (A17 true 0 0 0 0 none 0 0 0 0 0)] W (Gives W (frameL 0 167772161 134744065 5 53 0 [])) :=
 Frame15_k 0 0 0 0 0 0 none 0 0 [] 0 0 0 0 0 W (Rd.nil _ _ _ _) (Nat.le_refl _) (by omega) rfl (Nat.le_refl _) rfl (by omega) rfl (by omega) rfl (by omega) rfl (by omega)
theorem binds_any (w : World) : Calls Tryz.prog 19 #[] w fun e w' => e = .returned (.bool true) ∧ Below w.heap.size w w' := by
 have hc : (cfL 9).ok := cfL_ok (by omega)
 have kT : ∀ W, Calls Tryz.prog 14 #[.agg Z11] W fun e w' => e = .returned (.agg Z11) ∧ Below W.heap.size W w' := fun W => To_any (cfL 9) W
 have kN : ∀ W, Calls Tryz.prog 20 #[.agg Z11] W (NewR W (cfL 9)) := fun W => New_ok (cfL 9) W hc
 obtain ⟨F, hF⟩ : ∃ F, frameL 0 167772161 134744065 5 53 0 [] = F := ⟨_, rfl⟩
 have hFl : 28 ≤ F.length ∧ F.length ≤ 130 := by rw [← hF]; exact frame_bd (by simp)
 have kF := Frame15_bind
 have hS := bind_step
 have hag0 := fun h8 => frame_again (k := 0) (s := 167772161) (d := 134744065) (a := 5) (b := 53) (f := 0) (l := []) (by omega) (by omega) (by omega) (by omega) (fun x hx => by simp at hx) (by simp) (by omega) true (ou := 3221225985) (po := 1000) h8 (by omega) (by omega)
 have hag := fun h8 => part_src (hag0 h8) gotP_err
 have hlen := fun h8 => (hag0 h8).len
 clear hag0
 rw [hF] at kF hS hag hlen
 obtain ⟨X, hX⟩ : ∃ X, rwL F true 3221225985 1000 = X := ⟨_, rfl⟩
 rw [hX] at hS hag hlen
 clear hF hX
 have hst := fun W gn pb fm xA xc (h : LN w W (cfL 9) gn pb fm 0 0 []) (hr : Rd .u8 W W.heap.size xA F.length F) (h1 : F.length ≤ xc) (h2 : xc ≤ maxLen) => h.stp hc (by decide) (by omega) (by omega) true xA F.length xc 3 1000 F hr h1 (by unfold maxLen at h2; omega) (by omega)
 rw [hS] at hst
 obtain ⟨n, hn⟩ : ∃ n, F.length = n := ⟨_, rfl⟩
 rw [hn] at hst hFl
 simp only [hn] at hlen
 unfold Gives at kF
 unfold StR at hst
 simp only at hst
 replace hc := Lib.hid hc
 replace kT := Lib.hid kT
 replace kN := Lib.hid kN
 replace kF := Lib.hid kF
 replace hst := Lib.hid hst
 replace hag := Lib.hid hag
 replace hlen := Lib.hid hlen
 replace hn := Lib.hid hn
 clear hS
 go_enter Tryz.func19, Tryz.ntmps19
 go_wp2_with fail
 refine (Config9 _).mono ?_
 rintro e W1 ⟨rfl, bel⟩
 go_wp2_with fail
 refine (kT.out _).mono ?_
 rintro e W2 ⟨rfl, hb⟩
 replace bel := bel_after bel hb
 clear hb kT
 go_wp2_with fail
 refine (kN.out _).mono ?_
 intro e W3 hN
 obtain ⟨gn, pb, fm, rfl, ln⟩ := LN.made bel hN
 clear hN bel kN
 go_wp2_with fail
 refine (kF.out _).mono ?_
 rintro e W4 ⟨v, rfl, own, hb⟩
 replace ln := ln.bel_ hb
 clear hb kF
 have h8 : Bytes8 F := fun x hx => inr_u8 (own.rng x hx)
 replace hag := hag.out h8
 replace hlen := hlen.out h8
 obtain ⟨A, cp, rfl, hc1, hc2, rd⟩ := own.form hn.out
 clear own
 go_wp2_with fail
 refine (hst.out _ _ _ _ _ _ ln rd hc1 hc2).mono ?_
 rintro e W5 ⟨v5, np, nf, rfl, own5, ln5, h1, h2, hu⟩
 clear hst ln rd hu
 have hXl : X.length = n := by have : (X.length : Int) = (n : Int) := hlen; omega
 clear hlen
 obtain ⟨A5, c5, rfl, hc51, hc52, rd5⟩ := own5.form hXl
 unfold maxLen at hc52
 clear own5
 have ba := (Blk.new W5 55 Z4).setRow (A19 A5 n c5 0)
 have hbA : Below W5.heap.size W5 ((W5.alloc (.cells Z4 55)).setRow W5.heap.size (A19 A5 n c5 0)) := below_setRow (bel_alloc _ _) (Nat.le_refl _) _
 go_upto_region 4 with (refine wpList_stRow rfl rfl rfl rfl rfl (Blk.new W5 _ _) an_size rfl (by simp [Value.oneCell']) ?_; generalize (W5.alloc (.cells Z4 55)).setRow W5.heap.size (A19 A5 n c5 0) = W6 at *)
 replace ln5 := ln5.bel_ hbA
 replace rd5 := (rd5.below hbA).more hbA.size
 clear hbA
 generalize W5.heap.size = ga at *
 obtain ⟨⟨pr, sr, ds, fl, ki, co, er, ⟨i0, i1, i2, i3, i4, i5⟩, pat, bb⟩, hq, hqs, hqe⟩ := hag
 subst hqs hqe
 have kP := rPart_any X A5 n c5 W6 rd5 hc51 hc52 (by omega)
 rw [hq] at kP
 unfold PartT at kP
 simp only [Pt.val] at kP
 clear hq
 replace kP := Lib.hid kP
 have a0 := ba.cell 0
 go_wp2_with fail
 refine kP.out.mono ?_
 rintro e W7 ⟨rfl, hb⟩
 replace ba := ba.bel hb
 replace ln5 := ln5.bel_ hb
 clear hb kP a0 rd5
 have hlt := ba.lt
 have bp := (Blk.new W7 69 Z0).setRow (A0 pr 1000 ds fl ki co false i0 i1 i2 i3 i4 i5 pat bb)
 have hbP : Below W7.heap.size W7 ((W7.alloc (.cells Z0 69)).setRow W7.heap.size (A0 pr 1000 ds fl ki co false i0 i1 i2 i3 i4 i5 pat bb)) := below_setRow (bel_alloc _ _) (Nat.le_refl _) _
 go_upto_region 5 with (refine wpList_stRow rfl rfl rfl rfl rfl (Blk.new W7 _ _) rpt_size rfl (by simp [Value.oneCell']) ?_; generalize (W7.alloc (.cells Z0 69)).setRow W7.heap.size (A0 pr 1000 ds fl ki co false i0 i1 i2 i3 i4 i5 pat bb) = W8 at *)
 replace ln5 := ln5.bel_ hbP
 replace ba := ba.bel hbP
 clear hbP hlt
 generalize W7.heap.size = gp at *
 have kB := ln5.bnd hc.out (by omega)
 replace kB := Lib.hid kB
 go_wp2_with fail
 refine kB.out.mono ?_
 rintro e W9 ⟨v9, rfl, own9, ln9, hb⟩
 replace ba := ba.bel hb
 replace bp := bp.bel hb
 clear hb kB ln5
 obtain ⟨g, c9, rfl, hc91, hc92, hg1, hg2, cur, hcur⟩ := own9.formG (n := 1) rfl (by omega)
 have q5 : W9.cell? ⟨g, 5, none⟩ = some (.int .i64 3) := own9.at_ BdL_len (j := 0) (x := bindB) rfl (f := 5) rfl
 have a1 := ba.cell 1
 have p1 := bp.cell 1
 have kE := ln9.exp hc.out 17 1000 122
 rw [bind_stay] at kE
 simp only at kE
 replace kE := Lib.hid kE
 go_wp2_with fail
 refine kE.out.mono ?_
 rintro e W10 ⟨rfl, ln10, hu⟩
 clear kE hu a1 p1 q5 ln9 own9 ba bp hcur
 have kE := ln10.exp hc.out 17 1000 123
 rw [bind_go] at kE
 simp only at kE
 replace kE := Lib.hid kE
 go_wp2_with fail
 refine kE.out.mono ?_
 rintro e W11 ⟨rfl, ln11, hu⟩
 clear kE hu ln10
 have kB := ln11.bnd hc.out (by omega)
 replace kB := Lib.hid kB
 go_wp2_with fail
 refine kB.out.mono ?_
 rintro e W12 ⟨v12, rfl, own12, ln12, hb⟩
 obtain ⟨A12, c12, rfl, _, _⟩ := own12.form (n := 0) rfl
 go_wp2_with fail
 go_ret
 exact ⟨rfl, ln12.bel⟩
end
section
open Go.RowKit Go.Maps
theorem rbd_info : (Tryz.prog.info? 92).map (fun i => (i.zero, i.size, i.bytes)) = some (some (.agg Z3), 6, 40) := by kernel_rfl
theorem rbd_size : (Tryz.prog.info? 92).map (·.size) = some 6 := by kernel_rfl
theorem from_any (L : List Bd) (A : Option Addr) (n cap : Nat) (w : World) (hr : RdT BdL 6 w w.heap.size A n L) (hnc : n ≤ cap) (hn1 : n ≤ 1000000) :
  Calls Tryz.prog 28 #[.slice A n cap] w fun e w' => ∃ v, e = .returned v ∧ OwnT BdL 6 92 w' w.heap.size v L ∧ Below w.heap.size w w' := by
 obtain ⟨i0, hi, hz0, hz1, hz2⟩ := info_parts rbd_info
 go_enter Tryz.func28, Tryz.ntmps28
 go_wp2_with fail
 go_loopw [3, 4] (fun o i wr => ∃ k : Nat, k ≤ n ∧ i = .int .i64 k ∧ OwnT BdL 6 92 wr w.heap.size o (L.take k) ∧ Below w.heap.size w wr) (fun _ i _ => n - (intOf i).toNat)
 case atStart => exact ⟨0, by omega, rfl, ⟨World.ownsRow_nil _ _ _ _⟩, Below.refl _ _⟩
 case round =>
  obtain ⟨k, hk, rfl, own, bel⟩ := hrel
  rcases Nat.lt_or_ge k n with hkn | hkn
  ·have d1 : decide ((k : Int) < (n : Int)) = true := by simpa using hkn
   have d2 : decide (k < n) = true := by simpa using hkn
   obtain ⟨b, hb⟩ : ∃ b, L[k]? = some b := ⟨_, List.getElem?_eq_getElem (by rw [hr.len]; omega)⟩
   have htk : L.take (k + 1) = L.take k ++ [b] := by rw [List.take_add_one, hb]; rfl
   have hlt : (L.take k).length = k := by rw [List.length_take, hr.len]; omega
   obtain ⟨g, o, hA, hg, hc⟩ := hr.cel (by omega)
   have hcx := fun (t : Tw (Up w)) f u hu => (t.h.cell (p := ⟨g, o + k * 6 + f, none⟩) hg).trans (hc k b hb f u hu)
   subst hA
   replace htk := Lib.hid htk
   replace hlt := Lib.hid hlt
   obtain ⟨⟨b0, b1, b2⟩, b3, b4, b5⟩ := b
   clear hb hc
   have z0 : ∀ w', (∃ t : Tw (Up w), w' = t.w) → ∀ j u, ([.int .i64 b0, .int .u32 b1, .int .u16 b2] : List Value)[j]? = some u → w'.cell? ⟨g, o + k * 6 + j, none⟩ = some u := fun w' ⟨t, ht⟩ j u hu => by
    rw [ht]
    refine hcx t j u ?_
    match j with
    | 0 | 1 | 2 => exact hu
    | j + 3 => simp at hu
   have z3 : ∀ t : Tw (Up w), t.w.cell? ⟨g, o + k * 6 + 3, none⟩ = some (.int .i64 b3) := fun t => hcx t 3 _ rfl
   have z4 : ∀ t : Tw (Up w), t.w.cell? ⟨g, o + k * 6 + 4, none⟩ = some (.int .i64 b4) := fun t => hcx t 4 _ rfl
   have z5 : ∀ t : Tw (Up w), t.w.cell? ⟨g, o + k * 6 + 5, none⟩ = some (.int .i64 b5) := fun t => hcx t 5 _ rfl
   have zz := Up.one w
   have k0 : (0 : Int) ≤ (k : Int) := by omega
   have k1 : (k : Int) < (n : Int) := by omega
   clear hcx
   go_upto_region 5 with fail
   refine wp_region_plan (Up w) [(0, true), (1, true), (2, true), (3, true), (4, true), (5, true), (7, true), (8, true), (9, true), (10, true), (11, true), (12, true), (13, true), (14, true), (15, true), (16, true), (17, true), (18, true), (19, true), (20, true), (21, true), (6, false), (22, true), (23, false), (24, false), (25, true)] (by kernel_rfl) (by kernel_rfl) (by kernel_rfl) (by kernel_rfl) bel.drew ?_
   replace own := own.drew
   replace bel := bel.drew
   generalize wr.drew = W1 at *
   refine wpPl_qs 21 _ _ _ (by kernel_rfl) (by kernel_rfl) (by simp) ?_
   unfold clsS
   simp only [qq1, qq2, qq3, qq4, List.filterMap_cons, qq6, qq7, qq8, qq9]
   repeat (first
    | go_big_quiet_skip
    | (go_big_quiet_want; first | (refine quiet_ldAt rfl rfl z0 Tryz.underlying32 fl_size ?_; go_simp; go_big_quiet_on) | (go_big_quiet_op; go_big_quiet_on))
    | (refine id (?_ : wpQuiet _ _ _ _ (_ :: _) _); first | go_big_quiet_skip | (go_big_quiet_want; first | (refine quiet_ldAt rfl rfl z0 Tryz.underlying32 fl_size ?_; go_simp; go_big_quiet_on) | (go_big_quiet_op; go_big_quiet_on))))
   refine wpQuiet_nil ?_
   clear z0 z3 z4 z5
   refine wpPl_e _ (by rfl) (by kernel_rfl) (fun K hK => ?_)
   go_simp
   refine (FromKey_any ⟨b0, b1, b2⟩ W1).mono ?_
   rintro e W2 ⟨rfl, hb2⟩
   replace own := own.below hb2
   replace bel := bel_after bel hb2
   refine hK _ _ bel ?_
   clear hK K hb2
   simp only [Fl.cs]
   refine wpPl_qs 1 _ _ _ (by kernel_rfl) (by kernel_rfl) (by simp) ?_
   unfold clsS
   simp only [qq1, qq2, qq3, qq4, List.filterMap_cons, qq6, qq7, qq8, qq9]
   repeat (first | go_big_quiet_skip | (go_big_quiet_want; go_big_quiet_op; go_big_quiet_on) | refine id (?_ : wpQuiet _ _ _ _ (_ :: _) _))
   refine wpQuiet_nil ?_
   have hy := RdT.new (cs := BdL) (sz := 6) BdL_len W2 92 [(⟨⟨b0, b1, b2⟩, b3, b4, b5⟩ : Bd)] (A10 b0 b1 b2 b3 b4 b5) rfl 1 rfl
   have hsz := bel.size
   have hal := bel_alloc W2 (.cells (A10 b0 b1 b2 b3 b4 b5) 92)
   refine wpPl_e _ (by rfl) (by kernel_rfl) (fun K hK => ?_)
   go_simp
   replace own := own.below hal
   replace bel := bel_after bel hal
   refine hK _ _ bel ?_
   clear hK K
   have hsz3 := hal.size
   clear hal
   generalize W2.alloc (.cells (A10 b0 b1 b2 b3 b4 b5) 92) = W3 at *
   refine wpPl_e _ (by rfl) (by kernel_rfl) (fun K hK => ?_)
   refine wp_appT BdL_len BdL_one (by decide) W3 (.tmp 11) (.tmp 34) 81 rfl w.heap.size 92 i0 (.agg Z3) 40 Tryz.underlying81 hi hz0 hz1 hz2 rfl _ rfl (L.take k) own _ _ 1 1 rfl [(⟨⟨b0, b1, b2⟩, b3, b4, b5⟩ : Bd)] hy (by rw [hlt.out]; omega) (by decide) bel.size ?_
   intro v4 W4 own4 hg4 hv4
   have hb4 : Below w.heap.size W3 W4 := (Upd.of_grown (S := fun k => w.heap.size ≤ k) hg4 (fun g e => (own.lt g e).1)).below bel.size (fun k hk h => by omega)
   rw [← htk.out] at own4
   replace bel := bel.trans hb4
   go_simp
   refine hK _ _ bel ?_
   clear hK K
   refine wpPl_qs 1 _ _ _ (by kernel_rfl) (by kernel_rfl) (by simp) ?_
   unfold clsS
   simp only [qq1, qq2, qq3, qq4, List.filterMap_cons, qq6, qq7, qq8, qq9]
   repeat (first | go_big_quiet_skip | (go_big_quiet_want; go_big_quiet_op; go_big_quiet_on) | refine id (?_ : wpQuiet _ _ _ _ (_ :: _) _))
   refine wpQuiet_nil ?_
   unfold wpPl
   refine NoPanic.normal ?_
   go_wp2_with fail
   go_roundw
   case rel => exact ⟨k + 1, by omega, by go_num, own4, bel⟩
   case measure => simp [intOf]; omega
  ·obtain rfl : k = n := by omega
   have d1 : decide ((k : Int) < (k : Int)) = false := by simp
   have ht : L.take k = L := by rw [← hr.len, List.take_length]
   rw [ht] at own
   have d2 : decide (k < k) = false := by simp
   go_wp2
   go_ret
   exact ⟨_, rfl, own, bel⟩
theorem Same_yes (L : List Bd) (A A2 : Option Addr) (n cap cap2 : Nat) (w : World) (hr : RdT BdL 6 w w.heap.size A n L) (hr2 : RdT BdL 6 w w.heap.size A2 n L) (hn1 : n ≤ 1000000) :
  Calls Tryz.prog 29 #[.slice A n cap, .slice A2 n cap2] w fun e w' => e = .returned (.bool true) ∧ Below w.heap.size w w' := by
 go_enter Tryz.func29, Tryz.ntmps29
 go_wp2_with fail
 go_loopw [5] (fun i wr => ∃ k : Nat, k ≤ n ∧ i = .int .i64 k ∧ Below w.heap.size w wr) (fun i _ => n - (intOf i).toNat)
 case atStart => exact ⟨0, by omega, rfl, Below.refl _ _⟩
 case round =>
  obtain ⟨k, hk, rfl, bel⟩ := hrel
  rcases Nat.lt_or_ge k n with hkn | hkn
  ·have d1 : decide ((k : Int) < (n : Int)) = true := by simpa using hkn
   have d2 : decide (k < n) = true := by simpa using hkn
   obtain ⟨b, hb⟩ : ∃ b, L[k]? = some b := ⟨_, List.getElem?_eq_getElem (by rw [hr.len]; omega)⟩
   obtain ⟨g, o, hA, hg, hc⟩ := hr.cel (by omega)
   obtain ⟨g2, o2, hA2, hg2, hc2⟩ := hr2.cel (by omega)
   have z0 : ∀ w', (∃ t : Tw (Up w), w' = t.w) → ∀ j u, (BdL b)[j]? = some u → w'.cell? ⟨g, o + k * 6 + j, none⟩ = some u := fun w' ⟨t, ht⟩ j u hu => by rw [ht]; exact (t.h.cell (p := ⟨g, o + k * 6 + j, none⟩) hg).trans (hc k b hb j u hu)
   have z1 : ∀ w', (∃ t : Tw (Up w), w' = t.w) → ∀ j u, (BdL b)[j]? = some u → w'.cell? ⟨g2, o2 + k * 6 + j, none⟩ = some u := fun w' ⟨t, ht⟩ j u hu => by rw [ht]; exact (t.h.cell (p := ⟨g2, o2 + k * 6 + j, none⟩) hg2).trans (hc2 k b hb j u hu)
   subst hA hA2
   obtain ⟨⟨b0, b1, b2⟩, b3, b4, b5⟩ := b
   simp only [BdL] at z0 z1
   clear hb hc hc2
   have zz := Up.one w
   have k0 : (0 : Int) ≤ (k : Int) := by omega
   have k1 : (k : Int) < (n : Int) := by omega
   go_upto_region 6 with fail
   refine region_tw (Up w) (by kernel_rfl) (by kernel_rfl) bel.drew ?_
   unfold clsS
   repeat (first
    | go_big_quiet_skip
    | (go_big_quiet_want; go_big_quiet_op; first | go_big_quiet_on | go_big_quiet_call (fail)))
   go_big_quiet_want
   refine quiet_ldAt rfl rfl z0 Tryz.underlying92 rbd_size ?_
   go_simp
   go_big_quiet_on
   repeat (first
    | go_big_quiet_skip
    | (go_big_quiet_want; go_big_quiet_op; first | go_big_quiet_on | go_big_quiet_call (fail)))
   go_big_quiet_want
   refine quiet_ldAt rfl rfl z1 Tryz.underlying92 rbd_size ?_
   go_simp
   go_big_quiet_on
   repeat (first
    | go_big_quiet_skip
    | (go_big_quiet_want; go_big_quiet_op; first | go_big_quiet_on | go_big_quiet_call (fail)))
   refine wpQuiet_nil ?_
   intro tq
   have belq := tq.h
   clear z0 z1 zz
   go_wp2_with fail
   go_roundw
   case rel => exact ⟨k + 1, by omega, by go_num, belq⟩
   case measure => simp [intOf]; omega
  ·obtain rfl : k = n := by omega
   have d1 : decide ((k : Int) < (k : Int)) = false := by simp
   have d2 : decide (k < k) = false := by simp
   go_wp2
   go_ret
   exact ⟨rfl, bel⟩
end
def setL (xs : List Value) (o : Nat) : List Value → List Value
 | [] => xs
 | v :: vs => setL (xs.set o v) (o + 1) vs
theorem setL_mid : ∀ (b a p r : List Value), a.length = b.length → setL (p ++ (a ++ r)) p.length b = p ++ (b ++ r)
 | [], [], p, r, _ => rfl
 | v :: vs, y :: ys, p, r, h => by
  rw [setL, List.set_append_right _ _ (Nat.le_refl _), Nat.sub_self]
  have h1 := setL_mid vs ys (p ++ [v]) r (by simpa using h)
  rw [List.length_append, List.length_singleton, List.append_assoc] at h1
  simpa using h1
 | [], y :: ys, _, _, h => by simp at h
 | v :: vs, [], _, _, h => by simp at h
theorem setCells_upd (g : Nat) : ∀ (vs : List Value) (o : Nat) (w : World), Upd (fun k => k = g) w (w.setCells g o vs)
 | [], _, _ => Upd.refl _ _
 | v :: vs, o, w => (Upd.one w g o v).trans (setCells_upd g vs (o + 1) (w.setCell ⟨g, o, none⟩ v))
theorem ownsRow_setCells {e : TypeId} {sz base g m c : Nat} : ∀ (vs : List Value) (o n : Nat) (xs : List Value) (w : World), w.ownsRow base e sz (.slice (some ⟨g, 0, none⟩) m c) n xs → (w.setCells g o vs).ownsRow base e sz (.slice (some ⟨g, 0, none⟩) m c) n (setL xs o vs)
 | [], _, _, _, _, h => h
 | v :: vs, o, n, xs, w, h => ownsRow_setCells vs (o + 1) n (xs.set o v) _ (by
   have hm : m = n := by
    rcases h.2 with ⟨h1, _⟩ | ⟨g', cap, cur, h1, _⟩
    ·simp at h1
    ·simp only [Value.slice.injEq] at h1; exact h1.2.1
   subst hm
   exact (h.stored o v).1)
theorem OwnT.setAt {α : Type} {cs : α → List Value} {sz : Nat} (hs : ∀ x, (cs x).length = sz) {e : TypeId} {w : World} {base g n c : Nat} {l : List α} (h : OwnT cs sz e w base (.slice (some ⟨g, 0, none⟩) n c) l) {j : Nat} {x x' : α} (hj : l[j]? = some x) :
  OwnT cs sz e (w.setCells g (j * sz) (cs x')) base (.slice (some ⟨g, 0, none⟩) n c) (l.set j x') := by
 refine ⟨?_⟩
 have h1 := ownsRow_setCells (cs x') (j * sz) _ _ w h.row
 have hlt := (List.getElem?_eq_some_iff.1 hj).1
 have hx := (List.getElem?_eq_some_iff.1 hj).2
 rw [List.length_set]
 have e1 : l.flatMap cs = (l.take j).flatMap cs ++ (cs x ++ (l.drop (j + 1)).flatMap cs) := by
  conv => lhs; rw [← List.take_append_drop j l, List.flatMap_append, List.drop_eq_getElem_cons hlt, List.flatMap_cons, hx]
 have e2 : (l.set j x').flatMap cs = (l.take j).flatMap cs ++ (cs x' ++ (l.drop (j + 1)).flatMap cs) := by
  rw [List.set_eq_take_append_cons_drop, if_pos hlt, List.flatMap_append, List.flatMap_cons]
 have e3 : ((l.take j).flatMap cs).length = j * sz := by rw [flat_len hs, List.length_take, Nat.min_eq_left (by omega)]
 rw [e1] at h1
 rw [e2]
 rw [← e3, setL_mid _ _ _ _ (by rw [hs, hs])] at h1
 rw [e3] at h1
 exact h1
def Keep8 (w w' : World) : Prop := ∀ (p : Addr) (x : Int), w.cell? p = some (.int .u8 x) → w'.cell? p = some (.int .u8 x)
theorem Keep8.refl (w : World) : Keep8 w w := fun _ _ h => h
theorem Keep8.trans {a b c : World} (h : Keep8 a b) (k : Keep8 b c) : Keep8 a c := fun p x e => k p x (h p x e)
theorem Keep8.of_below {w w' : World} (h : Below w.heap.size w w') : Keep8 w w' := fun p x e => (h.cell (cell_lt e)).trans e
theorem Keep8.drew {w w' : World} (h : Keep8 w w') : Keep8 w w'.drew := h
theorem Keep8.set {w w' : World} (h : Keep8 w w') {p : Addr} {u : Value} (hp : w'.cell? p = some u) (hu : ∀ x, u ≠ .int .u8 x) (v : Value) : Keep8 w (w'.setCell p v) := fun q x e => by
 have h1 := h q x e
 by_cases hq : q = p
 ·subst hq
  rw [hp] at h1
  exact absurd (Option.some.inj h1) (hu x)
 ·rw [World.cell?_setCell_other _ _ _ _ (fun e => hq e.symm)]; exact h1
theorem Keep8.setCells {w : World} {g : Nat} : ∀ (vs : List Value) (o : Nat) (w' : World), Keep8 w w' → (∀ j, j < vs.length → ∃ u, w'.cell? ⟨g, o + j, none⟩ = some u ∧ ∀ x, u ≠ .int .u8 x) → Keep8 w (w'.setCells g o vs)
 | [], _, _, h, _ => h
 | v :: vs, o, w', h, hc => by
  obtain ⟨u, h1, h2⟩ := hc 0 (by simp)
  rw [World.setCells]
  refine Keep8.setCells vs (o + 1) _ (h.set h1 h2 v) fun j hj => ?_
  obtain ⟨u', h3, h4⟩ := hc (j + 1) (by simp; omega)
  refine ⟨u', ?_, h4⟩
  rw [World.cell?_setCell_other _ _ _ _ (by simp)]
  rw [show o + 1 + j = o + (j + 1) by omega]; exact h3
theorem Rd.keep8 {w w' : World} {B n : Nat} {A : Option Addr} {l : List Int} (h : Rd .u8 w B A n l) (hk : Keep8 w w') : Rd .u8 w' B A n l :=
 ⟨h.len, h.rng, fun hn => by
  obtain ⟨b, o, e, hb, hc⟩ := h.cel hn
  exact ⟨b, o, e, hb, fun j hj => hk _ _ (hc j hj)⟩⟩
def hasL (p q : Int) (L : List Bd) : Bool := L.any fun b => b.fl.pr == p && b.po == q
theorem hasL_in {p q : Int} {L : List Bd} {k : Nat} {b : Bd} (hb : L[k]? = some b) (h1 : b.fl.pr = p) (h2 : b.po = q) : hasL p q L = true := by
 unfold hasL
 refine List.any_eq_true.2 ⟨b, List.mem_of_getElem? hb, ?_⟩
 simp [h1, h2]
theorem hasL_no {p q : Int} {L : List Bd} (h : ∀ (j : Nat) (b : Bd), L[j]? = some b → ¬ (b.fl.pr = p ∧ b.po = q)) : hasL p q L = false := by
 unfold hasL
 refine List.any_eq_false.2 fun b hb => ?_
 obtain ⟨j, hj⟩ := List.getElem?_of_mem hb
 have := h j b hj
 simpa using this
theorem rHas_any (wk ou lo hi bk rg : Int) (A : Option Addr) (n cp gd : Nat) (L : List Bd) (p q : Int) (w : World) (h : Blk w gd 98 (A15 wk ou lo hi bk rg A n cp)) (hr : RdT BdL 6 w w.heap.size A n L) (hn : n ≤ 1000000) :
  Calls Tryz.prog 66 #[.pointer (some ⟨gd, 0, none⟩), .int .i64 p, .int .i64 q] w fun e w' => e = .returned (.bool (hasL p q L)) ∧ w = w' := by
 obtain ⟨R, hR⟩ : ∃ R, hasL p q L = R := ⟨_, rfl⟩
 rw [hR]
 replace hR := Lib.hid hR
 go_enter Tryz.func66, Tryz.ntmps66
 have c6 := h.cell 6
 go_wp2_with fail
 go_loopw [7] (fun i wr => ∃ k : Nat, k ≤ n ∧ i = .int .i64 k ∧ (∀ (j : Nat) (b : Bd), j < k → L[j]? = some b → ¬ (b.fl.pr = p ∧ b.po = q)) ∧ w = wr) (fun i _ => n - (intOf i).toNat)
 case atStart => exact ⟨0, by omega, rfl, fun j b hj => by omega, rfl⟩
 case round =>
  obtain ⟨k, hk, rfl, hno, rfl⟩ := hrel
  rcases Nat.lt_or_ge k n with hkn | hkn
  ·have d1 : decide ((k : Int) < (n : Int)) = true := by simpa using hkn
   have d2 : decide (k < n) = true := by simpa using hkn
   obtain ⟨b, hb⟩ : ∃ b, L[k]? = some b := ⟨_, List.getElem?_eq_getElem (by rw [hr.len]; omega)⟩
   obtain ⟨g, o, hA, hg, hc⟩ := hr.cel (by omega)
   have x0 := hc k b hb 0 (.int .i64 b.fl.pr) rfl
   have x3 := hc k b hb 3 (.int .i64 b.po) rfl
   rw [Nat.add_zero] at x0
   subst hA
   have k0 : (0 : Int) ≤ (k : Int) := by omega
   have k1 : (k : Int) < (n : Int) := by omega
   have hin := fun h1 h2 => hasL_in (p := p) (q := q) hb h1 h2
   have hnx : ∀ (_ : ¬ (b.fl.pr = p ∧ b.po = q)) (j : Nat) (b' : Bd), j < k + 1 → L[j]? = some b' → ¬ (b'.fl.pr = p ∧ b'.po = q) := fun hne j b' hj hb' => by
    by_cases hjk : j = k
    ·subst hjk
     rw [hb] at hb'
     cases hb'
     exact hne
    ·exact hno j b' (by omega) hb'
   clear hb hc hno
   generalize b.fl.pr = y0 at *
   generalize b.po = y3 at *
   replace hnx := Lib.hid hnx
   replace hin := Lib.hid hin
   by_cases h1 : y0 = p
   ·have e1 : (y0 == p) = true := by simpa using h1
    by_cases h2 : y3 = q
    ·have e2 : (y3 == q) = true := by simpa using h2
     have hR2 := hR.out
     rw [hin.out h1 h2] at hR2
     subst hR2
     clear h1 h2 hR
     go_wp2_with fail
     go_ret
     exact ⟨rfl, rfl⟩
    ·have e2 : (y3 == q) = false := by simpa using h2
     have hx := Lib.hid (hnx.out (fun e => h2 e.2))
     clear h1 h2
     go_wp2_with fail
     go_roundw
     case rel => exact ⟨k + 1, by omega, by go_num, hx.out, by first | rfl | trivial⟩
     case measure => simp [intOf]; omega
   ·have e1 : (y0 == p) = false := by simpa using h1
    have hx := Lib.hid (hnx.out (fun e => h1 e.1))
    clear h1
    go_wp2_with fail
    go_roundw
    case rel => exact ⟨k + 1, by omega, by go_num, hx.out, by first | rfl | trivial⟩
    case measure => simp [intOf]; omega
  ·obtain rfl : k = n := by omega
   have d1 : decide ((k : Int) < (k : Int)) = false := by simp
   have d2 : decide (k < k) = false := by simp
   have hR2 := hR.out
   rw [hasL_no (fun j b hj => hno j b (by have := (List.getElem?_eq_some_iff.1 hj).1; rw [hr.len] at this; exact this) hj)] at hR2
   subst hR2
   clear hR hno
   go_wp2_with fail
   go_ret
   exact ⟨rfl, rfl⟩
def mt (ou : Bool) (f : Fl) (b : Bd) : Bool := if ou = true then decide (b.fl = f) else (b.fl.pr == f.pr && b.po == f.po)
theorem find_congr {α : Type} {p q : α → Bool} : ∀ {l : List α}, (∀ x, x ∈ l → p x = q x) → l.find? p = l.find? q
 | [], _ => rfl
 | x :: l, h => by
  rw [List.find?_cons, List.find?_cons, h x (by simp), find_congr (fun y hy => h y (List.mem_cons_of_mem _ hy))]
theorem keyB_is {c : Cf} {L : List Bd} (h : LInv c L) {y : Bd} (hy : y ∈ L) (p q : Int) : (keyB c y == placeP c p q) = (y.fl.pr == p && y.po == q) := by
 have h0 := (h.ok y hy).key
 rw [Bool.eq_iff_iff]
 simp only [beq_iff_eq, Bool.and_eq_true]
 constructor
 ·intro e
  exact placeP_inj e h0
 ·rintro ⟨h1, h2⟩
  unfold keyB
  rw [h1, h2]
theorem atB_mt {c : Cf} {L : List Bd} (h : LInv c L) (f : Fl) : atB c (placeP c f.pr f.po) L = L.find? (mt false f) := by
 unfold atB
 refine find_congr fun y hy => ?_
 rw [keyB_is h hy]
 unfold mt
 simp
theorem ofB_mt (L : List Bd) (f : Fl) : ofB f L = L.find? (mt true f) := by
 unfold ofB
 refine find_congr fun y _ => ?_
 unfold mt
 simp
theorem has_at {c : Cf} {L : List Bd} (h : LInv c L) (p q : Int) : hasL p q L = (atB c (placeP c p q) L).isSome := by
 unfold hasL atB
 rw [Bool.eq_iff_iff, List.any_eq_true, List.find?_isSome]
 constructor
 ·rintro ⟨x, hx, h1⟩
  exact ⟨x, hx, by rw [keyB_is h hx]; exact h1⟩
 ·rintro ⟨x, hx, h1⟩
  exact ⟨x, hx, by rw [keyB_is h hx] at h1; exact h1⟩
def docS (c : Cf) (L : List Bd) (ou : Bool) (f : Fl) (p : Pt) (l : List Int) (ti po : Int) : List Bd × Int × List Int :=
 match L.find? (mt ou f) with
 | some b => (if p.err = true then L else putB c (seenB b p ou ti) L, rwE l, if ou = true then rwL l true c.ou b.po else rwL l false b.fl.ad b.fl.po)
 | none =>
  if begP ou l = false then (L, 7, []) else if po = -1 then (L, 8, []) else if po = -2 then (L, 9, []) else
  if placeP c f.pr po < 0 ∨ hasL f.pr po L = true then (L, 1, []) else
  (insB c ⟨f, po, nxt f.pr 0 true (fb p.flags 4) (fb p.flags 1) (fb p.flags 2) (fb p.flags 16), ti⟩ L, rwE l, rwL l true c.ou po)
theorem docS_is {c : Cf} {L : List Bd} (h : LInv c L) (ou : Bool) (f : Fl) (p : Pt) (l : List Int) (ti po : Int) : docS c L ou f p l ti po = if ou = true then outS c L f p l ti po else inS c L f p l ti := by
 cases ou with
 | true =>
  rw [if_pos rfl]
  unfold docS outS
  rw [← ofB_mt]
  cases ofB f L with
  | some b => simp
  | none =>
   simp only [has_at h]
   split
   ·rfl
   split
   ·rfl
   split
   ·rfl
   split
   ·rfl
   ·rename_i hn
    unfold putB
    rw [cutB_none]
    intro y hy e
    refine hn (.inr ?_)
    have e2 : keyB c ⟨f, po, nxt f.pr 0 true (fb p.flags 4) (fb p.flags 1) (fb p.flags 2) (fb p.flags 16), ti⟩ = placeP c f.pr po := rfl
    rw [e2] at e
    cases ha : atB c (placeP c f.pr po) L with
    | some _ => rfl
    | none => exact absurd e (atB_none ha y hy)
 | false =>
  rw [if_neg (by simp)]
  unfold docS inS
  rw [atB_mt h]
  cases L.find? (mt false f) with
  | some b => simp
  | none =>
   simp only
   rw [if_pos (by unfold begP; rfl)]
theorem who_proto {c : Cf} {ou : Bool} {l : List Int} (h8 : Bytes8 l) (h : (whoP c.ou ou l).2 = 0) (he : (rdP l).err = false) : (whoP c.ou ou l).1.pr = (rdP l).proto := by
 unfold whoP at h ⊢
 by_cases hE : rdE l = 0
 ·have hg : getE l = 0 := by
   unfold rdE at hE
   by_cases h2 : getE l = 0
   ·exact h2
   ·rw [if_neg h2] at hE; exact absurd hE h2
  have hH : rdH l = hdOf l := by unfold rdH; rw [if_pos hE]
  have hP : rdP l = (getR (hdOf l) l).2 := by unfold rdP; rw [if_pos hE]
  have hR : getR (hdOf l) l = (0, (getR (hdOf l) l).2) := by
   unfold rdE at hE
   rw [if_pos hg] at hE
   rw [← hE]
  obtain ⟨_, _, _, _, _, _, _, _, _, hpr, _⟩ := got_pre h8 hg hR
  rw [← hP] at hpr
  rw [← hH] at hpr
  rw [if_neg (fun h => h hE)] at h ⊢
  by_cases ho : ou = true
  ·rw [if_pos ho]
   unfold insF
   rw [he]
   simp [hpr]
  ·rw [if_neg ho] at h ⊢
   by_cases hx : (rdH l).dst ≠ c.ou ∨ (outF (rdH l) (rdP l)).ad ≠ c.ou
   ·rw [if_pos hx] at h; simp at h
   ·rw [if_neg hx]
    unfold outF
    rw [he]
    simp [hpr]
 ·rw [if_pos hE] at h
  exact absurd h hE
theorem who_rdE {c : Cf} {ou : Bool} {l : List Int} (h : (whoP c.ou ou l).2 = 0) : rdE l = 0 := by
 unfold whoP at h
 by_cases hE : rdE l = 0
 ·exact hE
 ·rw [if_pos hE] at h; exact h
theorem insB_any {c : Cf} {b : Bd} : ∀ {L1 : List Bd} (L2 : List Bd), (L1.any fun y => decide (keyB c b < keyB c y)) = true → insB c b (L1 ++ L2) = insB c b L1 ++ L2
 | [], _, h => by simp at h
 | y :: L1, L2, h => by
  rw [List.cons_append, insB, insB]
  by_cases hy : keyB c b < keyB c y
  ·rw [if_pos hy, if_pos hy]; rfl
  ·rw [if_neg hy, if_neg hy, insB_any L2 (by simpa [hy] using h)]; rfl
theorem insB_none {c : Cf} {b : Bd} : ∀ {L1 : List Bd} (L2 : List Bd), (L1.any fun y => decide (keyB c b < keyB c y)) = false → insB c b (L1 ++ L2) = L1 ++ insB c b L2
 | [], _, _ => rfl
 | y :: L1, L2, h => by
  rw [List.any_cons, Bool.or_eq_false_iff] at h
  rw [List.cons_append, insB, if_neg (by simpa using h.1), insB_none L2 h.2]; rfl
theorem insB_len {c : Cf} {b : Bd} : ∀ L : List Bd, (insB c b L).length = L.length + 1
 | [] => rfl
 | y :: L => by
  rw [insB]
  split
  ·rfl
  ·rw [List.length_cons, insB_len L]; rfl
def insP (c : Cf) (b : Bd) (L : List Bd) : Bool := L.any fun y => decide (keyB c b < keyB c y)
def insT (c : Cf) (b : Bd) (L : List Bd) : List Bd := if insP c b L = true then insB c b L else L
theorem insT_put {c : Cf} {b y : Bd} {L : List Bd} (h : insP c b L = true) : insP c b (L ++ [y]) = true ∧ insT c b (L ++ [y]) = insT c b L ++ [y] := by
 have h1 : insP c b (L ++ [y]) = true := by unfold insP at h ⊢; rw [List.any_append, h]; rfl
 refine ⟨h1, ?_⟩
 unfold insT
 rw [if_pos h1, if_pos h]
 exact insB_any [y] h
theorem insT_now {c : Cf} {b y : Bd} {L : List Bd} (h : insP c b L = false) (hy : keyB c b < keyB c y) : insP c b (L ++ [y]) = true ∧ insT c b (L ++ [y]) = insT c b L ++ [b] ++ [y] := by
 have h1 : insP c b (L ++ [y]) = true := by unfold insP; rw [List.any_append]; simp [hy]
 refine ⟨h1, ?_⟩
 unfold insT
 rw [if_pos h1, if_neg (by simp [h])]
 rw [insB_none [y] h, insB, if_pos hy]; simp
theorem insT_not {c : Cf} {b y : Bd} {L : List Bd} (h : insP c b L = false) (hy : ¬ keyB c b < keyB c y) : insP c b (L ++ [y]) = false ∧ insT c b (L ++ [y]) = insT c b L ++ [y] := by
 have h1 : insP c b (L ++ [y]) = false := by
  unfold insP at h ⊢
  rw [List.any_append, h]; simp [hy]
 refine ⟨h1, ?_⟩
 unfold insT
 rw [if_neg (by simp [h1]), if_neg (by simp [h])]
theorem insT_end {c : Cf} {b : Bd} {L : List Bd} : (if insP c b L = true then insT c b L else insT c b L ++ [b]) = insB c b L := by
 unfold insT
 cases h : insP c b L with
 | true => simp
 | false =>
  simp only [Bool.false_eq_true, if_false]
  have := insB_none (c := c) (b := b) [] h
  rw [List.append_nil] at this
  rw [this]; rfl
theorem insT_len {c : Cf} {b : Bd} (L : List Bd) : (insT c b L).length ≤ L.length + 1 := by
 unfold insT
 split
 ·rw [insB_len]; exact Nat.le_refl _
 ·omega
theorem set_put {c : Cf} {b b' : Bd} (hk : keyB c b' = keyB c b) : ∀ {L : List Bd} {i : Nat}, L.Pairwise (fun a b => keyB c a < keyB c b) → L[i]? = some b → L.set i b' = putB c b' L
 | [], i, _, h => by simp at h
 | y :: L, 0, hs, h => by
  simp only [List.getElem?_cons_zero, Option.some.injEq] at h
  subst h
  rw [List.pairwise_cons] at hs
  unfold putB
  have h1 : cutB c (keyB c b') (y :: L) = L := by
   unfold cutB
   rw [List.filter_cons, if_neg (by simp [hk]), List.filter_eq_self]
   intro z hz
   have := hs.1 z hz
   simp; omega
  rw [h1, List.set_cons_zero]
  cases L with
  | nil => rfl
  | cons z L =>
   have := hs.1 z (by simp)
   rw [insB, if_pos (by omega)]
 | y :: L, i + 1, hs, h => by
  simp only [List.getElem?_cons_succ] at h
  rw [List.pairwise_cons] at hs
  have hlt := hs.1 b (List.mem_of_getElem? h)
  have ih := set_put hk hs.2 h
  unfold putB at ih ⊢
  have h1 : cutB c (keyB c b') (y :: L) = y :: cutB c (keyB c b') L := by
   unfold cutB
   rw [List.filter_cons, if_pos (by simp; omega)]
  rw [h1, insB, if_neg (by omega), List.set_cons_succ, ih]
theorem erase_cut {c : Cf} {b : Bd} : ∀ {L : List Bd} {i : Nat}, L.Pairwise (fun a b => keyB c a < keyB c b) → L[i]? = some b → L.take i ++ L.drop (i + 1) = cutB c (keyB c b) L
 | [], i, _, h => by simp at h
 | y :: L, 0, hs, h => by
  simp only [List.getElem?_cons_zero, Option.some.injEq] at h
  subst h
  rw [List.pairwise_cons] at hs
  unfold cutB
  rw [List.filter_cons, if_neg (by simp)]
  simp only [List.take_zero, List.nil_append, List.drop_succ_cons, List.drop_zero]
  symm
  rw [List.filter_eq_self]
  intro z hz
  have := hs.1 z hz
  simp; omega
 | y :: L, i + 1, hs, h => by
  simp only [List.getElem?_cons_succ] at h
  rw [List.pairwise_cons] at hs
  have hlt := hs.1 b (List.mem_of_getElem? h)
  have ih := erase_cut hs.2 h
  have h1 : cutB c (keyB c b) (y :: L) = y :: cutB c (keyB c b) L := by
   unfold cutB
   rw [List.filter_cons, if_pos (by simp; omega)]
  rw [h1, ← ih]; rfl
def et (pr po ti : Int) (b : Bd) : Bool := b.fl.pr == pr && b.po == po && !decide (ti < 0) && !decide (4294967295 < ti) && !decide (ti < b.se + lifeS pr b.tr)
theorem et_none {c : Cf} {L : List Bd} (h : LInv c L) {pr po ti : Int} (hn : ∀ (j : Nat) b, L[j]? = some b → et pr po ti b = false) : expP c L pr po ti = (L, false) := by
 unfold expP
 split
 ·rfl
 rename_i ht
 split
 ·rfl
 rename_i b hat
 obtain ⟨hb, hk⟩ := atB_some hat
 obtain ⟨j, hj⟩ := List.getElem?_of_mem hb
 have h1 := hn j b hj
 have h2 := keyB_is h hb pr po
 rw [show (keyB c b == placeP c pr po) = true by simpa using hk] at h2
 unfold et at h1
 rw [← h2] at h1
 rw [if_pos]
 simp at h1
 omega
theorem et_some {c : Cf} {L : List Bd} (h : LInv c L) {pr po ti : Int} {j : Nat} {b : Bd} (hj : L[j]? = some b) (he : et pr po ti b = true) : expP c L pr po ti = (L.take j ++ L.drop (j + 1), true) := by
 have hb := List.mem_of_getElem? hj
 have h2 := keyB_is h hb pr po
 unfold et at he
 simp only [Bool.and_eq_true, Bool.not_eq_true', decide_eq_false_iff_not] at he
 rw [show (b.fl.pr == pr && b.po == po) = true by simp [he.1.1.1]] at h2
 have hk : keyB c b = placeP c pr po := by simpa using h2
 unfold expP
 rw [if_neg (by omega)]
 have hat := atB_of h hb
 rw [hk] at hat
 rw [hat]
 simp only
 rw [if_neg he.2, erase_cut h.srt hj, hk]
structure DN (W : World) (base : Nat) (c : Cf) (gd : Nat) (v : Value) (L : List Bd) : Prop where
 obj : Blk W gd 98 #[.int .i64 c.wk, .int .u32 c.ou, .int .i64 c.lo, .int .i64 c.hi, .int .i64 c.bk, .int .i64 c.rg, v]
 row : OwnT BdL 6 92 W base v L
def DnS (gd : Nat) (v : Value) (k : Nat) : Prop := k = gd ∨ v.ownBlock = some k
theorem rcf_sizeN : (Tryz.prog.info? 27).map (·.size) = some 6 := by kernel_rfl
section
variable {W W' : World} {base : Nat} {c : Cf} {gd : Nat} {v : Value} {L : List Bd}
theorem DN.bel (h : DN W base c gd v L) (hb : Below W.heap.size W W') : DN W' base c gd v L := ⟨h.obj.bel hb, h.row.below hb⟩
theorem DN.drew (h : DN W base c gd v L) : DN W.drew base c gd v L := ⟨h.obj.drew, h.row.drew⟩
theorem DN.notS (h : DN W base c gd v L) {g : Nat} {t : TypeId} {cs : Array Value} (hb : Blk W g t cs) (h1 : t ≠ 98) (h2 : t ≠ 92) : ¬ DnS gd v g := by
 rintro (e | e)
 ·exact hb.ne_ h.obj h1 e
 ·rcases h.row.row.2 with ⟨hv, _⟩ | ⟨g', cap, cur, hv, _, hgg, _⟩
  ·rw [hv] at e; simp [Value.ownBlock] at e
  ·rw [hv] at e
   simp only [Value.ownBlock, Option.some.injEq] at e
   subst e
   exact hb.ne_ (g' := g') (cs' := cur) hgg h2 rfl
theorem DN.rowNe (h : DN W base c gd v L) : v.ownBlock ≠ some gd := fun e => by
 rcases h.row.row.2 with ⟨hv, _⟩ | ⟨g', cap, cur, hv, _, hgg, _⟩
 ·rw [hv] at e; simp [Value.ownBlock] at e
 ·rw [hv] at e
  simp only [Value.ownBlock, Option.some.injEq] at e
  subst e
  exact h.obj.ne_ (g' := g') (cs' := cur) hgg (by decide) rfl
theorem DN.cfg (h : DN W base c gd v L) : ∀ j u, ([.int .i64 c.wk, .int .u32 c.ou, .int .i64 c.lo, .int .i64 c.hi, .int .i64 c.bk, .int .i64 c.rg] : List Value)[j]? = some u → W.cell? ⟨gd, 0 + j, none⟩ = some u := fun j u hu => by
 rw [Nat.zero_add, h.obj.cell]
 match j with
 | 0 | 1 | 2 | 3 | 4 | 5 => exact hu
 | j + 6 => simp at hu
end
theorem OwnT.new0 {α : Type} {cs : α → List Value} {sz : Nat} (W : World) (t : TypeId) (base : Nat) (hb : base ≤ W.heap.size) : OwnT cs sz t (W.alloc (.cells #[] t)) base (.slice (some ⟨W.heap.size, 0, none⟩) 0 0) [] :=
 ⟨⟨by simp, .inr ⟨W.heap.size, 0, _, rfl, hb, heap_alloc_new W _, Nat.le_refl _, Nat.zero_le _, by simp, by simp⟩⟩⟩
def RCopyR (w : World) (c : Cf) (L : List Bd) (e : Ending) (w' : World) : Prop := ∃ gd v, e = .returned (.pointer (some ⟨gd, 0, none⟩)) ∧ DN w' w.heap.size c gd v L ∧ Below w.heap.size w w' ∧ w.heap.size ≤ gd
theorem rCopy_any (c : Cf) (base gd : Nat) (v : Value) (L : List Bd) (w : World) (h : DN w base c gd v L) (hL : L.length ≤ 100000) :
  Calls Tryz.prog 35 #[.pointer (some ⟨gd, 0, none⟩)] w (RCopyR w c L) := by
 obtain ⟨i0, hi, hz0, hz1, hz2⟩ := info_parts rbd_info
 obtain ⟨n, hn⟩ : ∃ n, L.length = n := ⟨_, rfl⟩
 obtain ⟨A, cap, rfl, hnc, hcm⟩ := h.row.form hn
 have hrd := h.row.rd BdL_len rfl hn
 go_enter Tryz.func35, Tryz.ntmps35
 go_upto_region 1 with fail
 have z1 : ∀ w', (∃ t : Tw (Up w), w' = t.w) → ∀ j u, ([.int .i64 c.wk, .int .u32 c.ou, .int .i64 c.lo, .int .i64 c.hi, .int .i64 c.bk, .int .i64 c.rg] : List Value)[j]? = some u → w'.cell? ⟨gd, 0 + j, none⟩ = some u := fun w' ⟨t, ht⟩ => ht ▸ (h.bel t.h).cfg
 have z6 : ∀ t : Tw (Up w), t.w.cell? ⟨gd, 6, none⟩ = some (.slice A n cap) := fun t => (h.bel t.h).obj.cell 6
 have zz := Up.one w
 refine wp_region_plan (Up w) [(0, true), (1, true), (2, true), (3, true), (5, true), (6, true), (7, true), (8, true), (4, false), (9, false), (10, true), (11, false), (12, true)] (by kernel_rfl) (by kernel_rfl) (by kernel_rfl) (by kernel_rfl) (Below.refl _ _).drew ?_
 have bel0 : Below w.heap.size w w.drew := (Below.refl _ _).drew
 generalize w.drew = W0 at *
 refine wpPl_qs 8 _ _ _ (by kernel_rfl) (by kernel_rfl) (by simp) ?_
 unfold clsS
 simp only [qq1, qq2, qq3, qq4, List.filterMap_cons, qq6, qq7, qq8, qq9]
 repeat (first
  | go_big_quiet_skip
  | (go_big_quiet_want; first | (refine quiet_ldAt rfl rfl z1 Tryz.underlying27 rcf_sizeN ?_; go_simp; go_big_quiet_on) | (go_big_quiet_op; go_big_quiet_on))
  | (refine id (?_ : wpQuiet _ _ _ _ (_ :: _) _); first | go_big_quiet_skip | (go_big_quiet_want; first | (refine quiet_ldAt rfl rfl z1 Tryz.underlying27 rcf_sizeN ?_; go_simp; go_big_quiet_on) | (go_big_quiet_op; go_big_quiet_on))))
 refine wpQuiet_nil ?_
 refine wpPl_e _ (by rfl) (by kernel_rfl) (fun K hK => ?_)
 go_simp
 have own0 := OwnT.new0 (cs := BdL) (sz := 6) W0 92 w.heap.size bel0.size
 have bel1 := bel0.alloc bel0.size (.cells #[] 92)
 refine hK _ _ bel1 ?_
 clear hK K
 generalize hW1 : W0.alloc (.cells #[] 92) = W1 at *
 have hs1 := bel1.size
 refine wpPl_e _ (by rfl) (by kernel_rfl) (fun K hK => ?_)
 refine wp_appT BdL_len BdL_one (by decide) W1 (.tmp 7) (.tmp 11) 81 rfl w.heap.size 92 i0 (.agg Z3) 40 Tryz.underlying81 hi hz0 hz1 hz2 rfl _ rfl [] own0 w.heap.size A n cap rfl L (hrd.below bel1) (by simp; omega) (by decide) hs1 ?_
 intro v2 W2 own2 hg2 hv2
 rw [List.nil_append] at own2
 have bel2 : Below w.heap.size w W2 := bel1.grown hg2 hs1 (fun k h => by have := (own0.lt k h).1; omega)
 clear hg2 hv2 own0 hW1
 obtain ⟨A2, cap2, rfl, _, _⟩ := own2.form hn
 go_simp
 refine hK _ _ bel2 ?_
 clear hK K
 refine wpPl_qs 1 _ _ _ (by kernel_rfl) (by kernel_rfl) (by simp) ?_
 unfold clsS
 simp only [qq1, qq2, qq3, qq4, List.filterMap_cons, qq6, qq7, qq8, qq9]
 repeat (first | go_big_quiet_skip | (go_big_quiet_want; go_big_quiet_op; go_big_quiet_on) | refine id (?_ : wpQuiet _ _ _ _ (_ :: _) _))
 refine wpQuiet_nil ?_
 have ho := Blk.new W2 98 (A15 c.wk c.ou c.lo c.hi c.bk c.rg A2 n cap2)
 have own3 := own2.alloc (.cells (A15 c.wk c.ou c.lo c.hi c.bk c.rg A2 n cap2) 98)
 have bel3 := bel2.alloc bel2.size (.cells (A15 c.wk c.ou c.lo c.hi c.bk c.rg A2 n cap2) 98)
 refine wpPl_e _ (by rfl) (by kernel_rfl) (fun K hK => ?_)
 go_simp
 refine hK _ _ bel3 ?_
 clear hK K
 refine wpPl_qs 1 _ _ _ (by kernel_rfl) (by kernel_rfl) (by simp) ?_
 unfold clsS
 simp only [qq1, qq2, qq3, qq4, List.filterMap_cons, qq6, qq7, qq8, qq9]
 repeat (first | go_big_quiet_skip | (go_big_quiet_want; go_big_quiet_op; go_big_quiet_on) | refine id (?_ : wpQuiet _ _ _ _ (_ :: _) _))
 refine wpQuiet_nil ?_
 unfold wpPl
 refine NoPanic.normal ?_
 go_wp2_with fail
 go_ret
 exact ⟨_, _, rfl, ⟨ho, own3⟩, bel3, bel2.size⟩
def frm (v : Nat → Value) : List Value := (List.range 264).map v
theorem frm_lit (v : Nat → Value) : frm v = v 0 :: v 1 :: v 2 :: v 3 :: v 4 :: v 5 :: v 6 :: v 7 :: v 8 :: v 9 :: v 10 :: v 11 :: v 12 :: v 13 :: v 14 :: v 15 :: v 16 :: v 17 :: v 18 :: v 19 :: v 20 :: v 21 :: v 22 :: v 23 :: v 24 :: v 25 :: v 26 :: v 27 :: v 28 :: v 29 :: v 30 :: v 31 :: v 32 :: v 33 :: v 34 :: v 35 :: v 36 :: v 37 :: v 38 :: v 39 :: v 40 :: v 41 :: v 42 :: v 43 :: v 44 :: v 45 :: v 46 :: v 47 :: v 48 :: v 49 :: v 50 :: v 51 :: v 52 :: v 53 :: v 54 :: v 55 :: v 56 :: v 57 :: v 58 :: v 59 :: v 60 :: v 61 :: v 62 :: v 63 :: v 64 :: v 65 :: v 66 :: v 67 :: v 68 :: v 69 :: v 70 :: v 71 :: v 72 :: v 73 :: v 74 :: v 75 :: v 76 :: v 77 :: v 78 :: v 79 :: v 80 :: v 81 :: v 82 :: v 83 :: v 84 :: v 85 :: v 86 :: v 87 :: v 88 :: v 89 :: v 90 :: v 91 :: v 92 :: v 93 :: v 94 :: v 95 :: v 96 :: v 97 :: v 98 :: v 99 :: v 100 :: v 101 :: v 102 :: v 103 :: v 104 :: v 105 :: v 106 :: v 107 :: v 108 :: v 109 :: v 110 :: v 111 :: v 112 :: v 113 :: v 114 :: v 115 :: v 116 :: v 117 :: v 118 :: v 119 :: v 120 :: v 121 :: v 122 :: v 123 :: v 124 :: v 125 :: v 126 :: v 127 :: v 128 :: v 129 :: v 130 :: v 131 :: v 132 :: v 133 :: v 134 :: v 135 :: v 136 :: v 137 :: v 138 :: v 139 :: v 140 :: v 141 :: v 142 :: v 143 :: v 144 :: v 145 :: v 146 :: v 147 :: v 148 :: v 149 :: v 150 :: v 151 :: v 152 :: v 153 :: v 154 :: v 155 :: v 156 :: v 157 :: v 158 :: v 159 :: v 160 :: v 161 :: v 162 :: v 163 :: v 164 :: v 165 :: v 166 :: v 167 :: v 168 :: v 169 :: v 170 :: v 171 :: v 172 :: v 173 :: v 174 :: v 175 :: v 176 :: v 177 :: v 178 :: v 179 :: v 180 :: v 181 :: v 182 :: v 183 :: v 184 :: v 185 :: v 186 :: v 187 :: v 188 :: v 189 :: v 190 :: v 191 :: v 192 :: v 193 :: v 194 :: v 195 :: v 196 :: v 197 :: v 198 :: v 199 :: v 200 :: v 201 :: v 202 :: v 203 :: v 204 :: v 205 :: v 206 :: v 207 :: v 208 :: v 209 :: v 210 :: v 211 :: v 212 :: v 213 :: v 214 :: v 215 :: v 216 :: v 217 :: v 218 :: v 219 :: v 220 :: v 221 :: v 222 :: v 223 :: v 224 :: v 225 :: v 226 :: v 227 :: v 228 :: v 229 :: v 230 :: v 231 :: v 232 :: v 233 :: v 234 :: v 235 :: v 236 :: v 237 :: v 238 :: v 239 :: v 240 :: v 241 :: v 242 :: v 243 :: v 244 :: v 245 :: v 246 :: v 247 :: v 248 :: v 249 :: v 250 :: v 251 :: v 252 :: v 253 :: v 254 :: v 255 :: v 256 :: v 257 :: v 258 :: v 259 :: v 260 :: v 261 :: v 262 :: v 263 :: [] := by kernel_rfl
theorem frm_self {l : List Value} (h : l.length = 264) : l = frm (fun i => l.getD i undef) := by
 apply List.ext_getElem
 ·simp [frm, h]
 ·intro i h1 h2
  simp [frm, List.getD_eq_getElem?_getD, List.getElem?_eq_getElem h1]
theorem frm_meet {l : List Value} {d : List Deferred} {R : (Nat → Value) → Prop} (h : l.length = 264) (hR : R (fun i => l.getD i undef)) : ∃ v, (⟨l.toArray, d⟩ : Act) = ⟨(frm v).toArray, d⟩ ∧ R v := ⟨_, by rw [← frm_self h], hR⟩
def DStR (w : World) (base : Nat) (c : Cf) (gd : Nat) (va : Value) (R : List Bd × Int × List Int) (e : Ending) (w' : World) : Prop :=
 ∃ v va', e = .returned (.tuple #[v, .int .i64 R.2.1]) ∧ Own .u8 5 w' w.heap.size v R.2.2 ∧ DN w' base c gd va' R.1 ∧ Upd (DnS gd va) w w' ∧ Keep8 w w'
structure DX (w W : World) (base : Nat) (c : Cf) (gd : Nat) (va : Value) (L : List Bd) (gf gp : Nat) (xv fv pv : Array Value) : Prop where
 dn : DN W base c gd va L
 bx : Blk W w.heap.size 50 xv
 bf : Blk W gf 38 fv
 bp : Blk W gp 69 pv
 bel : Below w.heap.size w W
theorem DX.bel_ {w W W' : World} {base : Nat} {c : Cf} {gd : Nat} {va : Value} {L : List Bd} {gf gp : Nat} {xv fv pv : Array Value} (h : DX w W base c gd va L gf gp xv fv pv) (hb : Below W.heap.size W W') : DX w W' base c gd va L gf gp xv fv pv :=
 ⟨h.dn.bel hb, h.bx.bel hb, h.bf.bel hb, h.bp.bel hb, bel_after h.bel hb⟩
theorem DX.setB {w W : World} {base : Nat} {c : Cf} {gd : Nat} {va : Value} {L : List Bd} {gf gp gb : Nat} {xv fv pv bv : Array Value} (h : DX w W base c gd va L gf gp xv fv pv) (hb : Blk W gb 92 bv) (hg : w.heap.size ≤ gb) (hr : ∀ g, va.ownBlock = some g → g ≠ gb) (i : Nat) (u : Value) :
  DX w (W.setCell ⟨gb, i, none⟩ u) base c gd va L gf gp xv fv pv := by
 have hu := Upd.one W gb i u
 exact ⟨⟨h.dn.obj.upd hu (h.dn.obj.ne_ hb (by decide)), h.dn.row.upd hu hr⟩, h.bx.upd hu (h.bx.ne_ hb (by decide)), h.bf.upd hu (h.bf.ne_ hb (by decide)), h.bp.upd hu (h.bp.ne_ hb (by decide)), h.bel.setCell (p := ⟨gb, i, none⟩) hg u⟩
structure DCom (gd gx gf gp : Nat) (v : Nat → Value) : Prop where
 v0 : v 0 = .pointer (some ⟨gd, 0, none⟩)
 v3 : v 3 = .pointer (some ⟨gx, 0, none⟩)
 v6 : v 6 = .pointer (some ⟨gf, 0, none⟩)
 v8 : v 8 = .pointer (some ⟨gp, 0, none⟩)
theorem dStep_bad (c : Cf) (base gd : Nat) (va : Value) (L : List Bd) (ou : Bool) (xA : Option Addr) (xn xc : Nat) (ti po : Int) (w : World) (h : DN w base c gd va L) (ht : ti < 0 ∨ 4294967295 < ti) :
  Calls Tryz.prog 37 #[.pointer (some ⟨gd, 0, none⟩), .agg (A13 ou xA xn xc ti po)] w (DStR w base c gd va (L, 1, [])) := by
 rcases Int.lt_or_le ti 0 with h1 | h1
 ·have d1 : decide (ti < 0) = true := by simpa using h1
  clear ht
  go_enter Tryz.func37, Tryz.ntmps37
  go_upto_region 1 with fail
  have bx := Blk.new w 50 (A13 ou xA xn xc ti po)
  have bel := bel_alloc w (.cells (A13 ou xA xn xc ti po) 50)
  generalize w.alloc (.cells (A13 ou xA xn xc ti po) 50) = W at *
  have x2 := bx.cell 2
  go_wp2_with fail
  go_ret2
  exact ⟨_, _, rfl, Own.nil _ _ _ _, h.bel bel, Upd.of_below bel _, Keep8.of_below bel⟩
 ·have d1 : decide (ti < 0) = false := by simpa using h1
  have d2 : decide (4294967295 < ti) = true := by simp; omega
  clear ht
  go_enter Tryz.func37, Tryz.ntmps37
  go_upto_region 1 with fail
  have bx := Blk.new w 50 (A13 ou xA xn xc ti po)
  have bel := bel_alloc w (.cells (A13 ou xA xn xc ti po) 50)
  generalize w.alloc (.cells (A13 ou xA xn xc ti po) 50) = W at *
  have x2 := bx.cell 2
  go_wp2_with fail
  go_ret2
  exact ⟨_, _, rfl, Own.nil _ _ _ _, h.bel bel, Upd.of_below bel _, Keep8.of_below bel⟩
theorem dStep_err (c : Cf) (base gd : Nat) (va : Value) (L : List Bd) (ou : Bool) (xA : Option Addr) (xn xc : Nat) (ti po : Int) (l : List Int) (w : World) (h : DN w base c gd va L) (ht : 0 ≤ ti ∧ ti ≤ 4294967295) (hE : (whoP c.ou ou l).2 ≠ 0)
  (hr : Rd .u8 w w.heap.size xA xn l) (hlc : xn ≤ xc) (hcm : xc ≤ 9223372036854775807) (hl : xn ≤ 60000) :
  Calls Tryz.prog 37 #[.pointer (some ⟨gd, 0, none⟩), .agg (A13 ou xA xn xc ti po)] w (DStR w base c gd va (L, (whoP c.ou ou l).2, [])) := by
 have kw := fun W (hr : Rd .u8 W W.heap.size xA xn l) => rWhose_any c.wk c.ou c.lo c.hi c.bk c.rg ou l xA xn xc W hr hlc hcm hl
 unfold WhoR at kw
 generalize hwho : whoP c.ou ou l = R at *
 obtain ⟨⟨f0, f1, f2⟩, EE⟩ := R
 simp only [Fl.cs] at kw
 replace kw := Lib.hid kw
 replace hwho := Lib.hid hwho
 have d1 : decide (ti < 0) = false := by simp; omega
 have d2 : decide (4294967295 < ti) = false := by simp; omega
 go_enter Tryz.func37, Tryz.ntmps37
 go_upto_region 1 with fail
 have bx := Blk.new w 50 (A13 ou xA xn xc ti po)
 have bel := bel_alloc w (.cells (A13 ou xA xn xc ti po) 50)
 generalize w.alloc (.cells (A13 ou xA xn xc ti po) 50) = W at *
 have x2 := bx.cell 2
 go_upto_region 3 with fail
 clear x2
 have hdW := h.bel bel
 have z1 : ∀ w', (∃ t : Tw (Up W), w' = t.w) → ∀ j u, ([.int .i64 c.wk, .int .u32 c.ou, .int .i64 c.lo, .int .i64 c.hi, .int .i64 c.bk, .int .i64 c.rg] : List Value)[j]? = some u → w'.cell? ⟨gd, 0 + j, none⟩ = some u := fun w' ⟨t, ht⟩ => ht ▸ (hdW.bel t.h).cfg
 have z2 : ∀ t : Tw (Up W), t.w.cell? ⟨w.heap.size, 0, none⟩ = some (.bool ou) := fun t => (bx.bel t.h).cell 0
 have z3 : ∀ t : Tw (Up W), t.w.cell? ⟨w.heap.size, 1, none⟩ = some (.slice xA xn xc) := fun t => (bx.bel t.h).cell 1
 have zz := Up.one W
 have hrW := (hr.below bel).more bel.size
 refine wp_region_float (Up W) (.cells Z2 38) W.heap.size (fun h => .pointer (some ⟨h, 0, none⟩)) 12 _ [(0, true), (1, true), (2, true), (3, true), (4, true), (5, true), (6, true), (7, true), (8, false), (9, true), (10, true), (11, true)] [(13, false), (14, true)] (by kernel_rfl) (by kernel_rfl) (by rfl) (by rfl) (by kernel_rfl) (by kernel_rfl) (Below.refl _ _).drew (fun w' h => Below.alloc h (Below.size h) _) (fun w' h => Below.size h) (by intro a w; simp [execOp, go_sem]) ?_
 refine wpFl_qs 8 _ _ _ (by kernel_rfl) (by kernel_rfl) (by simp) ?_
 unfold clsS
 simp only [qq1, qq2, qq3, qq4, List.filterMap_cons, qq6, qq7, qq8, qq9]
 repeat (first
  | go_big_quiet_skip
  | (go_big_quiet_want; first | (refine quiet_ldAt rfl rfl z1 Tryz.underlying27 rcf_size ?_; go_simp; go_big_quiet_on) | (go_big_quiet_op; go_big_quiet_on))
  | (refine id (?_ : wpQuiet _ _ _ _ (_ :: _) _); first | go_big_quiet_skip | (go_big_quiet_want; first | (refine quiet_ldAt rfl rfl z1 Tryz.underlying27 rcf_size ?_; go_simp; go_big_quiet_on) | (go_big_quiet_op; go_big_quiet_on))))
 refine wpQuiet_nil ?_
 refine wpFl_e (fun _ => True) _ (by rfl) (by kernel_rfl) trivial (fun _ _ => trivial) (fun W1 _ hS1 K hK => ?_)
 go_simp
 refine (kw.out W1 ((hrW.below hS1).more (Below.size hS1))).mono ?_
 rintro e W2 ⟨rfl, hb2⟩
 refine hK _ _ (bel_after hS1 hb2) (KeepO.belM hb2) ?_
 clear hK K hb2 kw
 refine wpFl_qs 3 _ _ _ (by kernel_rfl) (by kernel_rfl) (by simp) ?_
 unfold clsS
 simp only [qq1, qq2, qq3, qq4, List.filterMap_cons, qq6, qq7, qq8, qq9]
 repeat (first | go_big_quiet_skip | (go_big_quiet_want; go_big_quiet_op; go_big_quiet_on) | refine id (?_ : wpQuiet _ _ _ _ (_ :: _) _))
 refine wpQuiet_nil ?_
 unfold wpFl
 refine ⟨fun _ => True, trivial, fun _ _ => trivial, fun W3 gf _ hS3 hgf hbf => ?_⟩
 clear hS1
 replace hbf : Blk W3 gf 38 Z2 := hbf
 go_simp
 refine wpPl_e _ (by rfl) (by kernel_rfl) (fun K hK => ?_)
 refine wp_stRow rfl rfl rfl rfl hbf rfl_size rfl (by simp [Value.oneCell']) ?_
 have bf := hbf.setRow (A11 f0 f1 f2)
 have hS4 := below_setRow hS3 hgf (A11 f0 f1 f2)
 refine hK _ _ hS4 ?_
 clear hK K hbf hS3 z1 z2 z3 zz hrW
 refine wpPl_qs 1 _ _ _ (by kernel_rfl) (by kernel_rfl) (by simp) ?_
 unfold clsS
 simp only [qq1, qq2, qq3, qq4, List.filterMap_cons, qq6, qq7, qq8, qq9]
 repeat (first | go_big_quiet_skip | (go_big_quiet_want; go_big_quiet_op; go_big_quiet_on) | refine id (?_ : wpQuiet _ _ _ _ (_ :: _) _))
 refine wpQuiet_nil ?_
 unfold wpPl
 refine NoPanic.normal ?_
 replace bx := bx.bel hS4
 replace bel := bel_after bel hS4
 replace hdW := hdW.bel hS4
 clear hS4
 generalize W3.setRow gf (A11 f0 f1 f2) = W4 at *
 have d3 : (EE != 0) = true := by simpa using hE
 replace hE := Lib.hid hE
 go_wp2_with fail
 go_ret2
 exact ⟨_, _, rfl, Own.nil _ _ _ _, hdW, Upd.of_below bel _, Keep8.of_below bel⟩
theorem mt_false {ou : Bool} {f : Fl} {b : Bd} (h : mt ou f b = false) : (ou = true ∧ (b.fl.pr ≠ f.pr ∨ (b.fl.pr = f.pr ∧ b.fl.ad ≠ f.ad) ∨ (b.fl.pr = f.pr ∧ b.fl.ad = f.ad ∧ b.fl.po ≠ f.po))) ∨ (ou = false ∧ (b.fl.pr ≠ f.pr ∨ (b.fl.pr = f.pr ∧ b.po ≠ f.po))) := by
 unfold mt at h
 cases ou with
 | true =>
  simp only [if_true, decide_eq_false_iff_not] at h
  refine .inl ⟨rfl, ?_⟩
  by_cases h1 : b.fl.pr = f.pr
  ·by_cases h2 : b.fl.ad = f.ad
   ·refine .inr (.inr ⟨h1, h2, fun h3 => h ?_⟩)
    obtain ⟨⟨_, _, _⟩, _, _, _⟩ := b
    obtain ⟨_, _, _⟩ := f
    simp only at h1 h2 h3
    subst h1 h2 h3
    rfl
   ·exact .inr (.inl ⟨h1, h2⟩)
  ·exact .inl h1
 | false =>
  simp only [Bool.false_eq_true, if_false, Bool.and_eq_false_iff, beq_eq_false_iff_ne] at h
  refine .inr ⟨rfl, ?_⟩
  by_cases h1 : b.fl.pr = f.pr
  ·rcases h with h | h
   ·exact absurd h1 h
   ·exact .inr ⟨h1, h⟩
  ·exact .inl h1
structure DY (w W : World) (base : Nat) (c : Cf) (gd : Nat) (va : Value) (L : List Bd) (gb : Nat) (xv bv : Array Value) : Prop where
 dn : DN W base c gd va L
 bx : Blk W w.heap.size 50 xv
 bb : Blk W gb 92 bv
 up : Upd (DnS gd va) w W
 k8 : Keep8 w W
theorem DY.bel_ {w W W' : World} {base : Nat} {c : Cf} {gd : Nat} {va : Value} {L : List Bd} {gb : Nat} {xv bv : Array Value} (h : DY w W base c gd va L gb xv bv) (hb : Below W.heap.size W W') : DY w W' base c gd va L gb xv bv :=
 ⟨h.dn.bel hb, h.bx.bel hb, h.bb.bel hb, h.up.trans (Upd.of_below hb _), h.k8.trans (Keep8.of_below hb)⟩
theorem DY.drew {w W : World} {base : Nat} {c : Cf} {gd : Nat} {va : Value} {L : List Bd} {gb : Nat} {xv bv : Array Value} (h : DY w W base c gd va L gb xv bv) : DY w W.drew base c gd va L gb xv bv := h.bel_ (Below.refl _ _).drew
theorem DN.there {W : World} {base : Nat} {c : Cf} {gd g n cap : Nat} {L : List Bd} (h : DN W base c gd (.slice (some ⟨g, 0, none⟩) n cap) L) (hn : L.length = n) {i : Nat} {b : Bd} (hi : L[i]? = some b) : W.there g (i * 6) 6 := fun j hj => by
 have h1 : (BdL b)[j]? = some ((BdL b)[j]'(by rw [BdL_len]; exact hj)) := List.getElem?_eq_getElem _
 exact ⟨by rw [h.row.at_ BdL_len hi h1]; rfl, h.row.frozen hn _⟩
theorem DN.setB {W : World} {base : Nat} {c : Cf} {gd g n cap : Nat} {L : List Bd} (h : DN W base c gd (.slice (some ⟨g, 0, none⟩) n cap) L) {i : Nat} {b : Bd} (hi : L[i]? = some b) (b' : Bd) :
  DN (W.setCells g (i * 6) (BdL b')) base c gd (.slice (some ⟨g, 0, none⟩) n cap) (L.set i b') ∧ Upd (fun k => k = g) W (W.setCells g (i * 6) (BdL b')) ∧ Keep8 W (W.setCells g (i * 6) (BdL b')) := by
 have hu := setCells_upd g (BdL b') (i * 6) W
 refine ⟨⟨h.obj.upd hu (fun e => h.rowNe (by rw [e]; rfl)), h.row.setAt BdL_len hi⟩, hu, Keep8.setCells _ _ _ (Keep8.refl W) fun j hj => ?_⟩
 rw [BdL_len] at hj
 have h1 : (BdL b)[j]? = some ((BdL b)[j]'(by rw [BdL_len]; exact hj)) := List.getElem?_eq_getElem _
 refine ⟨_, h.row.at_ BdL_len hi h1, fun x e => ?_⟩
 match j, hj with
 | 0, _ | 1, _ | 2, _ | 3, _ | 4, _ | 5, _ => simp [BdL] at e
 | j + 6, hj => omega
end Go.Proofs.YtbckoohljkmahaaGreat
