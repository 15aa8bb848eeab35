/- What the laws' proofs lean on: plain facts and contracts of the program's functions, laid together (13). -/
import Derived.Test.YtilhkhnjloplfaaGreatDoorPp11
import Derived.Test.YtilhkhnjloplfaaGreatDoorPp04
import Derived.Test.YtilhkhnjloplfaaGreatDoorPp12
namespace Go.Proofs.YtilhkhnjloplfaaGreatDoor
set_option linter.unusedVariables false
set_option linter.unusedSimpArgs false
open Go.RowKit
set_option maxRecDepth 100000 in
set_option maxHeartbeats 1000000 in
theorem cDo_back (I : Nat → Prop) (W : World) (base gp gc h n nw cb : Nat) (ws : List Nat) (k : Wk) (rd : Bool) (seen : Nat) (sp : Value) (pm : PoM W gp gc h n ws) (wm : WM I W base gp nw k (.back rd seen) cb sp) (hI : ∀ b, I b → b ≠ gp ∧ b ≠ gc ∧ b ≠ h)
    (ok : StOk nw k (.back rd seen)) (hnw : ws.length = nw) (hw2 : nw ≤ 2) (hrg : ∀ m, m ∈ ws → m < 18446744073709551616) (hbit : ∀ i q r, k.parts = (i, q) :: r → i < ws.length ∧ q < 4294967296 ∧ ws.getD i 0 &&& q ≠ 0) :
    Calls Tryz.prog 7 #[.pointer (some ⟨cb, 0, none⟩), sp] W (CdR I W base gp gc h n nw cb sp (doS ws k (.back rd seen)).1 (doS ws k (.back rd seen)).2.1 (doS ws k (.back rd seen)).2.2) := by
  obtain ⟨ov, cm, sb, pb, rfl, rfl, his, se, ⟨hip, A, m, c, bp, hr, hmc, hc, hA, hAt⟩⟩ := wm
  obtain ⟨hic, home, lv, b1, b2, b3⟩ := cm
  have k4 := ok.back rd seen rfl
  have hic' := hI cb hic
  have his' := hI sb his
  have hip' := hI pb hip
  have hAb : ∀ b i, A = some ⟨b, i, none⟩ → b ≠ pb ∧ b ≠ sb ∧ b ≠ cb := fun b i e => by
    obtain ⟨cs, hb⟩ := hAt b i e
    exact ⟨hb.ne_ bp (by decide), hb.ne_ se (by decide), hb.ne_ b1 (by decide)⟩
  have kD := fun (V : World) (hu : Upd (fun _ => False) W V) => pDo_bk V gp gc h n ws pb k.parts rd seen A m c (pm.upd hu (fun e => e) (fun e => e) (fun e => e)) (bp.upd hu (fun e => e)) (hr.updI hA hu (fun _ _ e => e)) hmc hc hbit (by omega) k4 hrg (fun b i e => ⟨(hAb b i e).1, (hI b (hA b i e)).2.2⟩)
  have hcb : cb ≠ sb ∧ cb ≠ pb := ⟨b1.ne_ se (by decide), b1.ne_ bp (by decide)⟩
  have hsp : sb ≠ pb := Blk.ne_ se bp (by decide)
  have hlv : lv.ownBlock ≠ some h ∧ lv.ownBlock ≠ some pb ∧ lv.ownBlock ≠ some sb := ⟨b2.neB pm.cel.row (by decide), b2.neB bp (by decide), b2.neB se (by decide)⟩
  have s2 := Blk.cell se 2
  have s0 := Blk.cell se 0
  replace kD := Lib.hid kD
  unfold SeM at se
  obtain ⟨kd, hkd⟩ : ∃ kd : Int, kd = 2 := ⟨_, rfl⟩
  rw [← hkd] at se
  replace hkd := Lib.hid hkd
  clear ok hrg
  replace hcb := Lib.hid hcb
  replace hsp := Lib.hid hsp
  replace hlv := Lib.hid hlv
  replace hic' := Lib.hid hic'
  replace his' := Lib.hid his'
  replace hip' := Lib.hid hip'
  replace hI := Lib.hid hI
  go_enter Tryz.func7, Tryz.ntmps7
  go_upto_region 6 with fail
  clear s2 s0
  obtain ⟨ov, hov⟩ : ∃ ov, ov = Value.pointer (some ⟨pb, 0, none⟩) := ⟨_, rfl⟩
  rw [← hov] at b1
  replace hov := Lib.hid hov
  have z0 : ∀ t : Tw (fun w' => Blk w' cb 64 #[.pointer (some ⟨gp, 0, none⟩), .int .i64 home, lv, ov] ∧ SeA w' sb kd (.pointer (some ⟨pb, 0, none⟩))), t.w.cell? ⟨cb, 0, none⟩ = some (.pointer (some ⟨gp, 0, none⟩)) := fun t => t.h.1.cell 0
  have z1 : ∀ t : Tw (fun w' => Blk w' cb 64 #[.pointer (some ⟨gp, 0, none⟩), .int .i64 home, lv, ov] ∧ SeA w' sb kd (.pointer (some ⟨pb, 0, none⟩))), t.w.cell? ⟨sb, 1, none⟩ = some (.pointer (some ⟨pb, 0, none⟩)) := fun t => t.h.2.choose_spec.cell 1
  have zz : Nonempty (Tw (fun w' => Blk w' cb 64 #[.pointer (some ⟨gp, 0, none⟩), .int .i64 home, lv, ov] ∧ SeA w' sb kd (.pointer (some ⟨pb, 0, none⟩)))) := ⟨⟨W, b1, ⟨_, se⟩⟩⟩
  refine wp_region_plan (fun w' => Blk w' cb 64 #[.pointer (some ⟨gp, 0, none⟩), .int .i64 home, lv, ov] ∧ SeA w' sb kd (.pointer (some ⟨pb, 0, none⟩))) [(0, true), (1, true), (2, true), (3, true), (4, true), (5, true), (6, true), (7, true), (8, true), (9, false), (10, true), (11, true), (12, false)] (by kernel_rfl) (by kernel_rfl) (by kernel_rfl) (by kernel_rfl) ⟨b1.drew, ⟨_, Blk.drew se⟩⟩ ?_
  have u0 : Upd (fun _ => False) W W.drew := (Upd.refl (fun _ => False) W).drew
  generalize W.drew = W1 at *
  refine wpPl_qs 9 _ _ _ (by kernel_rfl) (by kernel_rfl) (by simp) ?_
  unfold clsS
  simp only [List.take_succ_cons, List.take_zero, List.drop_succ_cons, List.drop_zero, List.filterMap_cons, List.filterMap_nil, List.getElem?_toArray, List.getElem?_cons_zero, List.getElem?_cons_succ]
  repeat (first
    | go_big_quiet_skip
    | (go_big_quiet_want; go_big_quiet_op; go_big_quiet_on)
    | (refine id (?_ : wpQuiet _ _ _ _ (_ :: _) _); first | go_big_quiet_skip | (go_big_quiet_want; go_big_quiet_op; go_big_quiet_on)))
  refine wpQuiet_nil ?_
  refine wpPl_e _ (by rfl) (by kernel_rfl) (fun K hK => ?_)
  go_simp
  refine (kD.out W1 u0).mono ?_
  rintro e W2 ⟨hu, ws', parts', rd', seen', A', m', c', dn, rfl, pm2, bp2, hr2, hmc', hc', hA', hd, hdn⟩
  clear kD z0 z1
  have hu' : Upd (fun b => b = h ∨ b = pb) W W2 := (u0.mono (fun b _ e => e.elim)).trans hu
  clear hu u0
  have hcb := hcb.out
  have hsp := hsp.out
  have hlv := hlv.out
  have hic' := hic'.out
  have his' := his'.out
  have hip' := hip'.out
  have b1' := b1.upd hu' (by omega)
  have se' := Blk.upd se hu' (by omega)
  have b2' := b2.updS hu' (fun g hg e => by rcases e with e | e <;> subst e; exact hlv.1 hg; exact hlv.2.1 hg)
  have huI : Upd (fun b => I b ∨ b = h) W W2 := hu'.mono (fun b _ e => by rcases e with e | e; exact .inr e; exact .inl (e ▸ hip))
  have s2 := Blk.cell se' 2
  have f2 := Blk.frozen se' 2
  refine hK _ _ ⟨b1', ⟨_, se'⟩⟩ ?_
  clear hK K
  refine wpPl_qs 2 _ _ _ (by kernel_rfl) (by kernel_rfl) (by simp) ?_
  unfold clsS
  simp only [List.take_succ_cons, List.take_zero, List.drop_succ_cons, List.drop_zero, List.filterMap_cons, List.filterMap_nil, List.getElem?_toArray, List.getElem?_cons_zero, List.getElem?_cons_succ]
  repeat (first
    | go_big_quiet_skip
    | (go_big_quiet_want; go_big_quiet_op; go_big_quiet_on)
    | (refine id (?_ : wpQuiet _ _ _ _ (_ :: _) _); first | go_big_quiet_skip | (go_big_quiet_want; go_big_quiet_op; go_big_quiet_on)))
  refine wpQuiet_nil ?_
  have u3 := Upd.one W2 sb 2 (.bool dn)
  refine wpPl_e _ (by rfl) (by kernel_rfl) (fun K hK => ?_)
  go_simp
  refine hK _ _ ⟨b1'.upd u3 hcb.1, ⟨_, Blk.set_ se' 2 (.bool dn)⟩⟩ ?_
  clear hK K s2 f2
  unfold wpPl
  refine NoPanic.normal ?_
  have se3 : Blk (W2.setCell ⟨sb, 2, none⟩ (.bool dn)) sb 66 #[.int .i64 kd, (.pointer (some ⟨pb, 0, none⟩)), .bool dn] := Blk.set_ se' 2 (.bool dn)
  have u3 := Upd.one W2 sb 2 (.bool dn)
  have b13 := b1'.upd u3 hcb.1
  have b23 := b2'.updS u3 (fun g hg e => hlv.2.2 (e ▸ hg))
  have bp3 := bp2.upd u3 (Ne.symm hsp)
  have pm3 := pm2.upd u3 (Ne.symm his'.1) (Ne.symm his'.2.1) (Ne.symm his'.2.2)
  have hAI : ∀ b i, A' = some ⟨b, i, none⟩ → I b := fun b i e => by
    obtain ⟨i', e'⟩ := hA' b i e
    exact hA b i' e'
  have hu3 := huI.trans (u3.mono (fun b _ e => .inl (e ▸ his)))
  have hr3 : RdT PtC 2 (W2.setCell ⟨sb, 2, none⟩ (.bool dn)) (W2.setCell ⟨sb, 2, none⟩ (.bool dn)).heap.size A' m' parts' := hr2.updI (I := fun b => ∃ i, A = some ⟨b, i, none⟩) (fun b i e => hA' b i e) u3 (fun b ⟨i, e⟩ e2 => (hAb b i e).2.1 e2)
  have hAt' : ∀ b i, A' = some ⟨b, i, none⟩ → ∃ cs, Blk (W2.setCell ⟨sb, 2, none⟩ (.bool dn)) b 130 cs := fun b i e => by
    obtain ⟨i', e'⟩ := hA' b i e
    obtain ⟨cs, hb⟩ := hAt b i' e'
    obtain ⟨h1, h2, _⟩ := hAb b i' e'
    have h3 := hI.out b (hA b i' e')
    exact ⟨cs, (hb.upd hu' (by omega)).upd u3 h2⟩
  clear u3 b1' b2' bp2 pm2 huI se' bp b1 b2 pm hu' zz hr hr2
  generalize W2.setCell ⟨sb, 2, none⟩ (.bool dn) = W3 at *
  have s2 := Blk.cell se3 2
  have s0 := Blk.cell se3 0
  rw [hkd.out] at s0
  have hdk := hd k rfl
  clear hd
  replace hdk := Lib.hid hdk
  replace hA' := Lib.hid hA'
  cases dn with
  | false =>
    go_wp2_with fail
    go_ret
    have hov := hov.out
    have hkd := hkd.out
    subst hov hkd
    rw [hdk.out]
    exact ⟨rfl, pm3, hu3, ⟨_, ⟨.inl hic, home, lv, b13, b23, fun g hg => .inl (b3 g hg)⟩, sb, pb, rfl, rfl, .inl his, se3, ⟨.inl hip, A', m', c', bp3, hr3, hmc', hc', fun b i e => .inl (hAI b i e), hAt'⟩⟩⟩
  | true =>
    have f3 := b13.frozen 3
    have c3 := b13.cell 3
    go_wp2_with fail
    go_ret
    have u4 := Upd.one W3 cb 3 (.pointer none)
    have b14 : Blk (W3.setCell ⟨cb, 3, none⟩ (.pointer none)) cb 64 #[.pointer (some ⟨gp, 0, none⟩), .int .i64 home, lv, (.pointer none)] := b13.set_ 3 (.pointer none)
    rw [hdk.out]
    exact ⟨rfl, pm3.upd u4 (Ne.symm hic'.1) (Ne.symm hic'.2.1) (Ne.symm hic'.2.2), hu3.trans (u4.mono (fun b _ e => .inl (e ▸ hic))), ⟨_, ⟨.inl hic, home, lv, b14, b23.updne b13 (by decide) u4, fun g hg => .inl (b3 g hg)⟩, rfl, rfl⟩⟩
end Go.Proofs.YtilhkhnjloplfaaGreatDoor
namespace Go.Proofs.YtilhkhnjloplfaaGreatDoor
set_option linter.unusedVariables false
set_option linter.unusedSimpArgs false
open Go.RowKit
set_option maxRecDepth 100000 in
theorem cTop_none (I : Nat → Prop) (W : World) (base gp cb : Nat) (ov : Value) (cm : CaM I W base gp cb [] ov) :
    Calls Tryz.prog 11 #[.pointer (some ⟨cb, 0, none⟩)] W fun e W' => e = .returned (.tuple #[.int .i64 0, .bool false]) ∧ Below W.heap.size W W' := by
  obtain ⟨hi, home, lv, b1, own, h3⟩ := cm
  obtain ⟨A, c, rfl, _, _, _⟩ := own.form (n := 0) rfl
  have s2 := b1.cell 2
  go_enter Tryz.func11, Tryz.ntmps11
  go_wp2_with fail
  go_ret2
  exact ⟨rfl, Below.refl _ _⟩
set_option maxRecDepth 100000 in
theorem cTop_some (I : Nat → Prop) (W : World) (base gp cb : Nat) (ov : Value) (r : List Nat) (id : Nat) (cm : CaM I W base gp cb (r ++ [id]) ov) :
    Calls Tryz.prog 11 #[.pointer (some ⟨cb, 0, none⟩)] W fun e W' => e = .returned (.tuple #[.int .i64 (id : Int), .bool true]) ∧ Below W.heap.size W W' := by
  obtain ⟨hi, home, lv, b1, own, h3⟩ := cm
  have hm : (iN (r ++ [id])).length = r.length + 1 := by rw [iN_len, List.length_append]; rfl
  obtain ⟨g, c, rfl, hc1, hc2, hg1, hg2⟩ := own.formG hm (by omega)
  obtain ⟨c1, _, _⟩ := own.at_ hm (j := r.length) (by omega)
  have hid : (iN (r ++ [id])).getD r.length 0 = (id : Int) := by
    rw [iN_app, List.getD_eq_getElem?_getD, List.getElem?_append_right (by rw [iN_len]; exact Nat.le_refl _), iN_len, Nat.sub_self]; rfl
  rw [hid] at c1
  have s2 := b1.cell 2
  have hbd : Below W.heap.size W W.drew := (Below.refl _ _).drew
  obtain ⟨m, hmm⟩ : ∃ m, r.length = m := ⟨_, rfl⟩
  rw [hmm] at s2 c1
  have e1 : (((m + 1 : Nat) : Int) == 0) = false := by simp; omega
  have e2 : ((m + 1 : Nat) : Int) - 1 = (m : Int) := by push_cast; omega
  obtain ⟨m1, hm1⟩ : ∃ m1, m + 1 = m1 := ⟨_, rfl⟩
  rw [hm1] at s2 e1 e2
  have m0 : (0 : Int) ≤ (m : Int) := by omega
  have m2 : (m : Int) < (m1 : Int) := by omega
  have m4 : (m : Int) ≤ 9223372036854775807 := by unfold maxLen at hc2; omega
  replace hm1 := Lib.hid hm1
  clear own hid hm b1
  go_enter Tryz.func11, Tryz.ntmps11
  go_upto_region 3 with fail
  go_region
  go_wp2_with fail
  go_ret2
  exact ⟨rfl, hbd⟩
set_option maxRecDepth 100000 in
theorem cPop_some (I : Nat → Prop) (W : World) (base gp cb : Nat) (ov : Value) (r : List Nat) (id : Nat) (cm : CaM I W base gp cb (r ++ [id]) ov) :
    Calls Tryz.prog 13 #[.pointer (some ⟨cb, 0, none⟩)] W fun e W' => e = .returned (.tuple #[.int .i64 (id : Int), .bool true]) ∧ CaM I W' base gp cb r ov ∧ Upd (fun b => b = cb) W W' := by
  have kt := cTop_some I W base gp cb ov r id cm
  obtain ⟨hi, home, lv, b1, own, h3⟩ := cm
  have hm : (iN (r ++ [id])).length = r.length + 1 := by rw [iN_len, List.length_append]; rfl
  obtain ⟨g, c, rfl, hc1, hc2, hg1, hg2⟩ := own.formG hm (by omega)
  have hown := own.take (m := r.length) (by omega)
  have htk : (iN (r ++ [id])).take r.length = iN r := by rw [iN_app, List.take_left' (iN_len r)]
  rw [htk] at hown
  obtain ⟨m, hmm⟩ : ∃ m, r.length = m := ⟨_, rfl⟩
  rw [hmm] at hown hm hc1
  rw [hmm] at b1 own
  have e2 : ((m + 1 : Nat) : Int) - 1 = (m : Int) := by push_cast; omega
  obtain ⟨m1, hm1⟩ : ∃ m1, m + 1 = m1 := ⟨_, rfl⟩
  rw [hm1] at b1 e2 hc1 own
  have m0 : (0 : Int) ≤ (m : Int) := by omega
  have m2 : (m : Int) ≤ (c : Int) := by omega
  have m3 : m ≤ c := by omega
  have m4 : (m : Int) ≤ 9223372036854775807 := by unfold maxLen at hc2; omega
  replace hm1 := Lib.hid hm1
  replace kt := Lib.hid kt
  clear htk hm
  go_enter Tryz.func13, Tryz.ntmps13
  go_wp2_with fail
  refine kt.out.mono ?_
  rintro e W2 ⟨rfl, hb⟩
  have b2 := b1.bel hb
  have s2 := b2.cell 2
  have f2 := b2.frozen 2
  have hown2 := hown.below hb
  go_upto_region 3 with fail
  go_region
  go_wp2_with fail
  go_ret2
  have u := (Upd.one W2 cb 2 (.slice (some ⟨g, 0, none⟩) m c)).drew
  have b3 : Blk (W2.setCell ⟨cb, 2, none⟩ (.slice (some ⟨g, 0, none⟩) m c)).drew cb 64 #[.pointer (some ⟨gp, 0, none⟩), .int .i64 home, (.slice (some ⟨g, 0, none⟩) m c), ov] := (b2.set_ 2 (.slice (some ⟨g, 0, none⟩) m c)).drew
  exact ⟨rfl, ⟨hi, home, _, b3, hown2.updne b2 (by decide) u, h3⟩, (Upd.of_below hb _).trans u⟩
set_option maxRecDepth 100000 in
theorem cAll_any (I : Nat → Prop) (W : World) (base gp cb : Nat) (ov : Value) (l : List Nat) (hl : l.length ≤ 60000) (cm : CaM I W base gp cb l ov) :
    Calls Tryz.prog 33 #[.pointer (some ⟨cb, 0, none⟩)] W fun e W' => ∃ v', e = .returned v' ∧ Own .i64 3 W' W.heap.size v' (iN l) ∧ Below W.heap.size W W' := by
  obtain ⟨hi, home, lv, b1, own, h3⟩ := cm
  obtain ⟨m, hm⟩ : ∃ m, (iN l).length = m := ⟨_, rfl⟩
  obtain ⟨A, c, rfl, _, _, hr⟩ := own.form hm
  have hml : m ≤ 60000 := by rw [← hm, iN_len]; exact hl
  have kc := CloneI_any (iN l) A m c _ W hr (Nat.le_refl _) hml
  replace kc := Lib.hid kc
  have s2 := b1.cell 2
  clear hm own
  go_enter Tryz.func33, Tryz.ntmps33
  go_wp2_with fail
  refine kc.out.mono ?_
  rintro e W2 ⟨v, rfl, o2, hb⟩
  go_wp2_with fail
  go_ret
  exact ⟨v, rfl, o2, hb⟩
end Go.Proofs.YtilhkhnjloplfaaGreatDoor
namespace Go.Proofs.YtilhkhnjloplfaaGreatDoor
set_option linter.unusedVariables false
set_option linter.unusedSimpArgs false
open Go.RowKit
set_option maxRecDepth 100000 in
theorem pTake_any (W : World) (gp gc h n nw : Nat) (ws : List Nat) (home : Int) (pm : PoM W gp gc h n ws) (hnw : ws.length = nw) (h1 : 1 ≤ nw) (h2 : nw ≤ 2) :
    Calls Tryz.prog 31 #[.pointer (some ⟨gp, 0, none⟩), .int .i64 home, .int .i64 8] W fun e W' => ∃ pb wb word cs, e = .returned (.pointer (some ⟨pb, 0, none⟩)) ∧ W.heap.size ≤ pb ∧ W.heap.size ≤ wb ∧ word < nw ∧ Blk W' pb 111 #[.int .i64 0, .int .i64 (word : Int), .int .i64 (nw : Int), .int .i64 8, .bool false, .int .u64 0, .slice (some ⟨wb, 0, none⟩) nw nw, .slice none 0 0, .slice none 0 0, .bool false, .bool false] ∧ Blk W' wb 24 cs ∧ cs.size = nw ∧ Below W.heap.size W W' := by
  obtain ⟨i0, hi, hz0, hz1, hz2⟩ := info_parts info_u64
  have hmk := fun W => make_one (P := Tryz.prog) 90 24 i0 _ Tryz.underlying90 hi hz0 hz1 rfl .i64 .i64 nw (by rw [hz2]; omega) (by omega) W
  clear hz0 hz1 hz2
  have s0 := pm.obj.cell 0
  have kS := Size_any gc h (iN ws) W pm.cel
  rw [iN_len, hnw] at kS
  obtain ⟨word, hw, hwb⟩ : ∃ word : Nat, (IntKind.u64.wrap home).tmod (nw : Int) = (word : Int) ∧ word < nw := by
    have hx : 0 ≤ IntKind.u64.wrap home := by rw [IntKind.wrap_u64]; omega
    rw [Int.tmod_eq_emod_of_nonneg hx]
    have h3 := Int.emod_nonneg (IntKind.u64.wrap home) (b := (nw : Int)) (by omega)
    have h4 := Int.emod_lt_of_pos (IntKind.u64.wrap home) (b := (nw : Int)) (by omega)
    exact ⟨((IntKind.u64.wrap home) % (nw : Int)).toNat, by omega, by omega⟩
  have hwv : Value.int .u64 ((IntKind.u64.wrap home).tmod (nw : Int)) = .int .u64 (word : Int) := by rw [hw]
  replace kS := Lib.hid kS
  go_enter Tryz.func31, Tryz.ntmps31
  go_wp2_with fail
  refine kS.out.mono ?_
  rintro e w' ⟨rfl, rfl⟩
  go_upto_region 4 with fail
  go_region
  go_wp2_with fail
  go_ret
  have bw := ((Blk.new W 24 (Array.replicate nw (.int .u64 0))).alloc (.cells #[.int .i64 0, .int .i64 (word : Int), .int .i64 (nw : Int), .int .i64 8, .bool false, .int .u64 0, .slice (some ⟨W.heap.size, 0, none⟩) nw nw, .slice none 0 0, .slice none 0 0, .bool false, .bool false] 111)).drew
  have bp := (Blk.new (W.alloc (.cells (Array.replicate nw (.int .u64 0)) 24)) 111 #[.int .i64 0, .int .i64 (word : Int), .int .i64 (nw : Int), .int .i64 8, .bool false, .int .u64 0, .slice (some ⟨W.heap.size, 0, none⟩) nw nw, .slice none 0 0, .slice none 0 0, .bool false, .bool false]).drew
  rw [show (W.alloc (.cells (Array.replicate nw (.int .u64 0)) 24)).heap.size = W.heap.size + 1 by simp] at bp
  have hb := ((bel_alloc W (.cells (Array.replicate nw (.int .u64 0)) 24)).alloc (by simp) (.cells #[.int .i64 0, .int .i64 (word : Int), .int .i64 (nw : Int), .int .i64 8, .bool false, .int .u64 0, .slice (some ⟨W.heap.size, 0, none⟩) nw nw, .slice none 0 0, .slice none 0 0, .bool false, .bool false] 111)).drew
  exact ⟨W.heap.size + 1, W.heap.size, word, _, rfl, by omega, Nat.le_refl _, hwb, bp, bw, by simp, hb⟩
set_option maxRecDepth 100000 in
theorem cFill_any (I : Nat → Prop) (W : World) (base gp gc h n nw cb : Nat) (ws : List Nat) (k : Wk) (pm : PoM W gp gc h n ws) (wm : WM I W base gp nw k .none cb (.pointer none)) (hk : k.list = []) (hnw : ws.length = nw) (h1 : 1 ≤ nw) (h2 : nw ≤ 2) :
    Calls Tryz.prog 12 #[.pointer (some ⟨cb, 0, none⟩)] W fun e W' => ∃ sp word, e = .returned sp ∧ word < nw ∧ Below W.heap.size W W' ∧ WM (fun b => I b ∨ W.heap.size ≤ b) W' base gp nw k (.fill word nw false 0) cb sp := by
  obtain ⟨ov, cm, _, rfl⟩ := wm
  obtain ⟨hic, home, lv, b1, b2, b3⟩ := cm
  rw [hk] at b2
  obtain ⟨A, c, rfl, _, _, _⟩ := b2.form (n := 0) rfl
  have s0 := b1.cell 0
  have s1 := b1.cell 1
  have s2 := b1.cell 2
  have s3 := b1.cell 3
  have hbd : Below W.heap.size W W.drew := (Below.refl _ _).drew
  have kT := pTake_any W.drew gp gc h n nw ws home ⟨pm.obj.drew, pm.cel.drew⟩ hnw h1 h2
  replace kT := Lib.hid kT
  go_enter Tryz.func12, Tryz.ntmps12
  go_upto_region 5 with fail
  have z0 : ∀ t : Tw (Up W), t.w.cell? ⟨cb, 0, none⟩ = some (.pointer (some ⟨gp, 0, none⟩)) := fun t => (b1.bel t.h).cell 0
  have z1 : ∀ t : Tw (Up W), t.w.cell? ⟨cb, 1, none⟩ = some (.int .i64 home) := fun t => (b1.bel t.h).cell 1
  have zz := Up.one W
  refine wp_region_plan (Up W) [(0, true), (1, true), (2, true), (3, true), (4, true), (5, true), (6, true), (7, true), (8, false), (9, true), (10, false), (11, true)] (by kernel_rfl) (by kernel_rfl) (by kernel_rfl) (by kernel_rfl) hbd ?_
  clear s0 s1 s2 s3
  refine wpPl_qs 8 _ _ _ (by kernel_rfl) (by kernel_rfl) (by simp) ?_
  unfold clsS
  simp only [List.take_succ_cons, List.take_zero, List.drop_succ_cons, List.drop_zero, List.filterMap_cons, List.filterMap_nil, List.getElem?_toArray, List.getElem?_cons_zero, List.getElem?_cons_succ]
  repeat (first
    | go_big_quiet_skip
    | (go_big_quiet_want; go_big_quiet_op; go_big_quiet_on)
    | (refine id (?_ : wpQuiet _ _ _ _ (_ :: _) _); first | go_big_quiet_skip | (go_big_quiet_want; go_big_quiet_op; go_big_quiet_on)))
  refine wpQuiet_nil ?_
  refine wpPl_e _ (by rfl) (by kernel_rfl) (fun K hK => ?_)
  go_simp
  refine kT.out.mono ?_
  rintro e W2 ⟨pb, wb, word, cs, rfl, hp1, hp2, hw, bp, bw, hcs, hb⟩
  have hbW : Below W.heap.size W W2 := bel_after hbd hb
  refine hK _ _ hbW ?_
  clear hK K kT z0 z1
  refine wpPl_qs 1 _ _ _ (by kernel_rfl) (by kernel_rfl) (by simp) ?_
  unfold clsS
  simp only [List.take_succ_cons, List.take_zero, List.drop_succ_cons, List.drop_zero, List.filterMap_cons, List.filterMap_nil, List.getElem?_toArray, List.getElem?_cons_zero, List.getElem?_cons_succ]
  repeat (first
    | go_big_quiet_skip
    | (go_big_quiet_want; go_big_quiet_op; go_big_quiet_on)
    | (refine id (?_ : wpQuiet _ _ _ _ (_ :: _) _); first | go_big_quiet_skip | (go_big_quiet_want; go_big_quiet_op; go_big_quiet_on)))
  refine wpQuiet_nil ?_
  refine wpPl_e _ (by rfl) (by kernel_rfl) (fun K hK => ?_)
  go_simp
  have se := Blk.new W2 66 #[.int .i64 0, (.pointer (some ⟨pb, 0, none⟩)), .bool false]
  have hba := bel_alloc W2 (.cells #[.int .i64 0, (.pointer (some ⟨pb, 0, none⟩)), .bool false] 66)
  refine hK _ _ (bel_after hbW hba) ?_
  clear hK K
  refine wpPl_qs 1 _ _ _ (by kernel_rfl) (by kernel_rfl) (by simp) ?_
  unfold clsS
  simp only [List.take_succ_cons, List.take_zero, List.drop_succ_cons, List.drop_zero, List.filterMap_cons, List.filterMap_nil, List.getElem?_toArray, List.getElem?_cons_zero, List.getElem?_cons_succ]
  repeat (first
    | go_big_quiet_skip
    | (go_big_quiet_want; go_big_quiet_op; go_big_quiet_on)
    | (refine id (?_ : wpQuiet _ _ _ _ (_ :: _) _); first | go_big_quiet_skip | (go_big_quiet_want; go_big_quiet_op; go_big_quiet_on)))
  refine wpQuiet_nil ?_
  unfold wpPl
  refine NoPanic.normal ?_
  have hs1 := hbW.size
  go_wp2_with fail
  go_ret
  have hbF := bel_after hbW hba
  refine ⟨_, word, rfl, hw, hbF, ⟨_, ⟨.inl hic, home, _, b1.bel hbF, ?_, fun g hg => .inl (b3 g hg)⟩, rfl, W2.heap.size, pb, rfl, .inr hs1, se, ⟨.inr hp1, wb, cs, .inr hp2, bw.bel hba, hcs, bp.bel hba⟩⟩⟩
  rw [hk]
  exact b2.below hbF
end Go.Proofs.YtilhkhnjloplfaaGreatDoor
namespace Go.Proofs.YtilhkhnjloplfaaGreatDoor
set_option linter.unusedVariables false
set_option linter.unusedSimpArgs false
open Go.RowKit
theorem addP_at : ∀ {l : List (Nat × Nat)} {n i m : Nat}, l[i]? = some (n / 32, m) → (∀ (j : Nat) (x : Nat × Nat), j < i → l[j]? = some x → x.1 ≠ n / 32) → addP l n = l.set i (n / 32, m ||| 2 ^ (n % 32))
  | [], n, i, m, h, _ => by simp at h
  | (w, q) :: l, n, 0, m, h, _ => by
    simp only [List.getElem?_cons_zero, Option.some.injEq, Prod.mk.injEq] at h
    obtain ⟨rfl, rfl⟩ := h
    rw [addP, if_pos rfl]; rfl
  | (w, q) :: l, n, i + 1, m, h, hn => by
    simp only [List.getElem?_cons_succ] at h
    have h0 : w ≠ n / 32 := hn 0 (w, q) (by omega) rfl
    rw [addP, if_neg h0, addP_at h (fun j x hj hx => hn (j + 1) x (by omega) (by simpa using hx))]; rfl
theorem addP_new : ∀ {l : List (Nat × Nat)} {n : Nat}, (∀ (j : Nat) (x : Nat × Nat), l[j]? = some x → x.1 ≠ n / 32) → addP l n = l ++ [(n / 32, 2 ^ (n % 32))]
  | [], _, _ => rfl
  | (w, q) :: l, n, hn => by
    have h0 : w ≠ n / 32 := hn 0 (w, q) rfl
    rw [addP, if_neg h0, addP_new (fun j x hx => hn (j + 1) x (by simpa using hx))]; rfl
set_option maxRecDepth 100000 in
theorem is_word (w q n gn : Nat) (W : World) (hn6 : n < 65536) (hc : W.cell? ⟨gn, 0, none⟩ = some (.int .i64 (n : Int))) :
    Calls Tryz.prog 72 #[.agg #[.int .i64 (w : Int), .int .u64 (q : Int)], .pointer (some ⟨gn, 0, none⟩)] W fun e W' => e = .returned (.bool (decide (w = n / 32))) ∧ Below W.heap.size W W' := by
  have hq : (n : Int).tdiv 32 = ((n / 32 : Nat) : Int) := by rw [Int.tdiv_eq_ediv_of_nonneg (by omega)]; push_cast; rfl
  have hq2 : (n : Int) / 32 = ((n / 32 : Nat) : Int) := by push_cast; rfl
  obtain ⟨v, hv⟩ : ∃ v, n / 32 = v := ⟨_, rfl⟩
  rw [hv] at hq hq2 ⊢
  have v0 : (0 : Int) ≤ (v : Int) := by omega
  have v1 : (v : Int) ≤ 65536 := by omega
  replace hv := Lib.hid hv
  have hgn := cell_lt hc
  have hb := bel_alloc W (.cells #[.int .i64 (w : Int), .int .u64 (q : Int)] 130)
  have hc2 := (hb.cell (p := ⟨gn, 0, none⟩) hgn).trans hc
  have bx := (Blk.new W 130 #[.int .i64 (w : Int), .int .u64 (q : Int)]).cell 0
  have he : ((w : Int) == (v : Int)) = decide (w = v) := by
    rw [Bool.eq_iff_iff]; simp only [beq_iff_eq, decide_eq_true_eq]; omega
  obtain ⟨B, hB⟩ : ∃ B, decide (w = v) = B := ⟨_, rfl⟩
  rw [hB] at he ⊢
  replace hB := Lib.hid hB
  go_enter Tryz.func72, Tryz.ntmps72
  go_wp2_with fail
  go_ret
  exact ⟨rfl, hb⟩
/-- where a word is among the parts -/
def PtIx (l : List (Nat × Nat)) (n : Nat) (r : Int) : Prop :=
  (∃ i m, r = (i : Nat) ∧ l[i]? = some (n / 32, m) ∧ ∀ (j : Nat) (x : Nat × Nat), j < i → l[j]? = some x → x.1 ≠ n / 32) ∨ (r = -1 ∧ ∀ (j : Nat) (x : Nat × Nat), l[j]? = some x → x.1 ≠ n / 32)
set_option maxRecDepth 100000 in
set_option maxHeartbeats 1000000 in
theorem IndexP_any (l : List (Nat × Nat)) (A : Option Addr) (m c n gn : Nat) (W : World) (hr : RdT PtC 2 W W.heap.size A m l) (hm : m ≤ 60000) (hn6 : n < 65536) (hc : W.cell? ⟨gn, 0, none⟩ = some (.int .i64 (n : Int))) :
    Calls Tryz.prog 71 #[.slice A m c, .func (.func 72) #[] #[.pointer (some ⟨gn, 0, none⟩)]] W fun e W' => (∃ r : Int, e = .returned (.int .i64 r) ∧ PtIx l n r) ∧ Below W.heap.size W W' := by
  have hgn := cell_lt hc
  go_enter Tryz.func71, Tryz.ntmps71
  go_wp2_with fail
  go_loopw [8] (fun i wr => ∃ k : Nat, k ≤ m ∧ i = .int .i64 (k : Int) ∧ (∀ (j : Nat) (x : Nat × Nat), j < k → l[j]? = some x → x.1 ≠ n / 32) ∧ Below W.heap.size W wr) (fun i _ => m - (intOf i).toNat)
  case atStart => exact ⟨0, by omega, rfl, fun j x hj => by omega, Below.refl _ _⟩
  case round =>
    obtain ⟨k, hk, rfl, hno, bel⟩ := hrel
    by_cases hlt : k < m
    · obtain ⟨⟨w, q⟩, hx⟩ : ∃ x, l[k]? = some x := ⟨_, List.getElem?_eq_getElem (by rw [hr.len]; exact hlt)⟩
      obtain ⟨b, o, rfl, hb, hcl⟩ := hr.cel (by omega)
      have hcx : ∀ j u, (PtC (w, q))[j]? = some u → wr.cell? ⟨b, o + k * 2 + j, none⟩ = some u := fun j u hu => (bel.cell (p := ⟨b, o + k * 2 + j, none⟩) hb).trans (hcl k (w, q) hx j u hu)
      unfold PtC at hcx
      have kw := is_word w q n gn wr hn6 ((bel.cell (p := ⟨gn, 0, none⟩) hgn).trans hc)
      have d1 : decide (k < m) = true := by simpa using hlt
      have d3 : decide ((k : Int) < (m : Int)) = true := by simpa using hlt
      have k0 : (0 : Int) ≤ (k : Int) := by omega
      have k1 : (k : Int) < (m : Int) := by omega
      replace kw := Lib.hid kw
      replace hno := Lib.hid hno
      replace hx := Lib.hid hx
      clear hcl
      go_wp2_with (refine wpList_ldAt rfl rfl rfl hcx Tryz.underlying130 ptd_size ?_)
      refine kw.out.mono ?_
      rintro e w2 ⟨rfl, hb2⟩
      have bel2 := bel_after bel hb2
      by_cases he : w = n / 32
      · rw [decide_eq_true he]
        replace he := Lib.hid he
        go_wp2_with fail
        go_ret
        refine ⟨⟨_, rfl, .inl ⟨k, q, rfl, ?_, hno.out⟩⟩, bel2⟩
        rw [hx.out, he.out]
      · rw [decide_eq_false he]
        replace he := Lib.hid he
        go_wp2_with fail
        go_roundw
        case rel =>
          refine ⟨k + 1, by omega, by go_num, fun j x hj hjx => ?_, bel2⟩
          rcases Nat.lt_or_ge j k with h | h
          · exact hno.out j x h hjx
          · have e1 : j = k := by omega
            subst e1
            rw [hx.out] at hjx
            have e2 : (w, q) = x := Option.some.inj hjx
            subst e2
            exact he.out
        case measure => simp [intOf]; omega
    · obtain rfl : k = m := by omega
      have d1 : decide (k < k) = false := by simp
      have d3 : decide ((k : Int) < (k : Int)) = false := by simp
      replace hno := Lib.hid hno
      go_wp2_with fail
      go_ret
      exact ⟨⟨_, rfl, .inr ⟨rfl, fun j x hjx => hno.out j x (by have := (List.getElem?_eq_some_iff.1 hjx).1; rw [hr.len] at this; exact this) hjx⟩⟩, bel⟩
end Go.Proofs.YtilhkhnjloplfaaGreatDoor
namespace Go.Proofs.YtilhkhnjloplfaaGreatDoor
set_option linter.unusedVariables false
set_option linter.unusedSimpArgs false
open Go.RowKit
theorem info_pt : (Tryz.prog.info? 130).map (fun i => (i.zero, i.size, i.bytes)) = some (some (.agg #[.int .i64 0, .int .u64 0]), 2, 16) := by kernel_rfl
theorem OwnT.neB {α : Type} {cs : α → List Value} {sz : Nat} {e t : TypeId} {w : World} {base x : Nat} {v : Value} {l : List α} {ds : Array Value} (ho : OwnT cs sz e w base v l) (hb : Blk w x t ds) (hne : e ≠ t) : v.ownBlock ≠ some x := fun h => by
  rcases ho.row.2 with ⟨h1, _⟩ | ⟨g', cap, cur, h1, _, hgg, _⟩
  · rw [h1] at h; simp [Value.ownBlock] at h
  · rw [h1] at h
    simp only [Value.ownBlock, Option.some.injEq] at h
    subst h
    have h2 : w.heap[g']? = some (.cells ds t (0, 0)) := hb
    rw [hgg] at h2
    simp only [Option.some.injEq, Obj.cells.injEq] at h2
    exact hne h2.2.1
theorem addP_len : ∀ (l : List (Nat × Nat)) (n : Nat), (addP l n).length ≤ l.length + 1
  | [], n => Nat.le_refl _
  | (w, q) :: l, n => by
    rw [addP]
    split
    · simp
    · have := addP_len l n
      simp; omega
theorem addL_len : ∀ (ns : List Nat) (p : List (Nat × Nat)), (addL p ns).length ≤ p.length + ns.length
  | [], p => by simp [addL]
  | n :: ns, p => by
    have h1 := addL_len ns (addP p n)
    have h2 := addP_len p n
    have h3 : addL p (n :: ns) = addL (addP p n) ns := rfl
    rw [h3, List.length_cons]; omega
theorem addL_snoc (p : List (Nat × Nat)) (l : List Nat) (x : Nat) : addL p (l ++ [x]) = addP (addL p l) x := by unfold addL; rw [List.foldl_append]; rfl
set_option maxRecDepth 100000 in
set_option maxHeartbeats 2000000 in
theorem pBack_any (W : World) (gp gc h N : Nat) (ws : List Nat) (l : List Nat) (A : Option Addr) (m c : Nat) (pm : PoM W gp gc h N ws) (hr : Rd .i64 W W.heap.size A m (iN l)) (hlt : ∀ x, x ∈ l → x < N) (hN : N ≤ 65535) (hm : m ≤ 60000) (hmc : m ≤ c) (hc : c ≤ 9223372036854775807) :
    Calls Tryz.prog 51 #[.pointer (some ⟨gp, 0, none⟩), .slice A m c] W fun e W' => ∃ pb pv, e = .returned (.pointer (some ⟨pb, 0, none⟩)) ∧ W.heap.size ≤ pb ∧ Blk W' pb 111 #[.int .i64 2, .int .i64 0, .int .i64 0, .int .i64 0, .bool false, .int .u64 0, .slice none 0 0, pv, .slice none 0 0, .bool false, .bool false] ∧ OwnT PtC 2 130 W' W.heap.size pv (addL [] l) ∧ Below W.heap.size W W' := by
  obtain ⟨i0, hi0, hz0, hz1, hz2⟩ := info_parts info_pt
  have hmf : ∀ (fn : Fn) (first cap : Array Value) (w : World), (Instr.makeFunc fn first cap).run Tryz.prog w = .ok (.func fn first cap) w := fun _ _ _ _ => rfl
  have hml : l.length = m := by have := hr.len; rw [iN_len] at this; exact this
  have bp := Blk.new W 111 #[.int .i64 2, .int .i64 0, .int .i64 0, .int .i64 0, .bool false, .int .u64 0, .slice none 0 0, .slice none 0 0, .slice none 0 0, .bool false, .bool false]
  have hb0 := bel_alloc W (.cells #[.int .i64 2, .int .i64 0, .int .i64 0, .int .i64 0, .bool false, .int .u64 0, .slice none 0 0, .slice none 0 0, .slice none 0 0, .bool false, .bool false] 111)
  go_enter Tryz.func51, Tryz.ntmps51
  go_upto_region 4 with fail
  generalize W.alloc (.cells #[.int .i64 2, .int .i64 0, .int .i64 0, .int .i64 0, .bool false, .int .u64 0, .slice none 0 0, .slice none 0 0, .slice none 0 0, .bool false, .bool false] 111) = W1 at *
  obtain ⟨pb, hpb⟩ : ∃ pb, W.heap.size = pb := ⟨_, rfl⟩
  rw [hpb] at bp ⊢
  replace hpb := Lib.hid hpb
  go_wp2_with fail
  go_loopw [16] (fun i wr => ∃ (k : Nat) (pv : Value), k ≤ m ∧ i = .int .i64 (k : Int) ∧ Blk wr pb 111 #[.int .i64 2, .int .i64 0, .int .i64 0, .int .i64 0, .bool false, .int .u64 0, .slice none 0 0, pv, .slice none 0 0, .bool false, .bool false] ∧ OwnT PtC 2 130 wr W.heap.size pv (addL [] (l.take k)) ∧ Below W.heap.size W wr) (fun i _ => m - (intOf i).toNat)
  case atStart => exact ⟨0, _, by omega, rfl, bp, OwnT.nil _ _ _ _ _, hb0⟩
  case round =>
    clear bp hb0
    obtain ⟨k, pv, hk, rfl, bp, own, bel⟩ := hrel
    by_cases hkm : k < m
    · obtain ⟨x, hx⟩ : ∃ x, l[k]? = some x := ⟨_, List.getElem?_eq_getElem (by omega)⟩
      have hxN := hlt x (List.mem_of_getElem? hx)
      have htk : l.take (k + 1) = l.take k ++ [x] := by rw [List.take_add_one, hx]; rfl
      have hxI : (iN l).getD k 0 = (x : Int) := by unfold iN; rw [List.getD_eq_getElem?_getD, List.getElem?_map, hx]; rfl
      obtain ⟨b, o, rfl, hbl, hcl⟩ := hr.cel (by omega)
      have hcx := (bel.cell (p := ⟨b, o + k, none⟩) hbl).trans (hcl k (by omega))
      rw [hxI] at hcx
      have d1 : decide (k < m) = true := by simpa using hkm
      have d3 : decide ((k : Int) < (m : Int)) = true := by simpa using hkm
      have k0 : (0 : Int) ≤ (k : Int) := by omega
      have k1 : (k : Int) < (m : Int) := by omega
      have gpl : gp < W.heap.size := pm.obj.lt
      have gp1 := (bel.cell (p := ⟨gp, 1, none⟩) gpl).trans (pm.obj.cell 1)
      have bn := Blk.new wr 3 #[.int .i64 (x : Int)]
      have hba := bel_alloc wr (.cells #[.int .i64 (x : Int)] 3)
      have hgw := bel.size
      have gp1' := (hba.cell (p := ⟨gp, 1, none⟩) (show gp < wr.heap.size by omega)).trans gp1
      replace bp := bp.bel hba
      replace own := own.below hba
      replace bel := bel_after bel hba
      replace htk := Lib.hid htk
      replace hx := Lib.hid hx
      clear hxI hcl
      go_upto_region 7 with fail
      clear hcx gp1
      generalize wr.alloc (.cells #[.int .i64 (x : Int)] 3) = w1 at *
      obtain ⟨gn, hgn⟩ : ∃ gn, wr.heap.size = gn := ⟨_, rfl⟩
      rw [hgn] at bn ⊢
      replace hgn := Lib.hid hgn
      have n0 := bn.cell 0
      have x0 : decide ((x : Int) < 0) = false := decide_eq_false (by omega)
      have x1 : decide ((N : Int) ≤ (x : Int)) = false := decide_eq_false (by omega)
      have x2 : decide (N ≤ x) = false := decide_eq_false (by omega)
      go_region
      replace bn := bn.drew
      replace bp := bp.drew
      replace own := own.drew
      replace bel := bel.drew
      clear n0 gp1'
      generalize w1.drew = w2 at *
      have n0 := bn.cell 0
      obtain ⟨r, hr32⟩ : ∃ r, x % 32 = r := ⟨_, rfl⟩
      have hr1 : (x : Int).tmod 32 = (r : Int) := by rw [Int.tmod_eq_emod_of_nonneg (by omega)]; omega
      have hr2 : (x : Int) % 32 = (r : Int) := by omega
      have hrl : r < 32 := by omega
      have hpw := pow_u64 (i := r) (by omega)
      obtain ⟨bt, hbt⟩ : ∃ bt, 2 ^ r = bt := ⟨_, rfl⟩
      rw [hbt] at hpw
      have hbt64 : bt < 18446744073709551616 := by rw [← hbt]; exact Nat.pow_lt_pow_right (m := r) (n := 64) (by decide) (by omega)
      replace hr32 := Lib.hid hr32
      replace hbt := Lib.hid hbt
      obtain ⟨P, hP⟩ : ∃ P, addL [] (l.take k) = P := ⟨_, rfl⟩
      rw [hP] at own
      have hPl : P.length ≤ 60000 := by have := addL_len (l.take k) []; rw [hP, List.length_take] at this; simp at this; omega
      obtain ⟨p, hp⟩ : ∃ p, P.length = p := ⟨_, rfl⟩
      obtain ⟨pA, pc, rfl, hpc1, hpc2⟩ := own.form hp
      have rdp := own.rd PtC_len rfl hp
      rw [hp] at hPl
      have kI := IndexP_any P pA p pc x gn w2 rdp hPl (by omega) n0
      replace kI := Lib.hid kI
      replace hP := Lib.hid hP
      replace hp := Lib.hid hp
      have s7 := bp.cell 7
      go_upto_region 9 with fail
      go_wp2_with fail
      refine kI.out.mono ?_
      rintro e w3 ⟨⟨rr, rfl, hix⟩, hb3⟩
      clear kI s7 n0 rdp
      replace bp := bp.bel hb3
      replace bn := bn.bel hb3
      replace own := own.below hb3
      replace bel := bel_after bel hb3
      clear hb3
      have n0 := bn.cell 0
      rcases hix with ⟨i, q, rfl, hi, hno⟩ | ⟨rfl, hno⟩
      · have hq64 : q < 4294967296 := by
          have h1 := ((PtOk.nil 2048).adds (ns := l.take k) (l := []) (fun y hy => by have := hlt y (List.mem_of_mem_take hy); omega)).m (x / 32, q) (by rw [hP.out]; exact List.mem_of_getElem? hi)
          exact h1.2
        have hip : i < p := by have := (List.getElem?_eq_some_iff.1 hi).1; rw [hp.out] at this; exact this
        obtain ⟨g, c', hA, hc1', hc2', hgb, hgl, _⟩ := own.formG hp.out (by omega)
        simp only [Value.slice.injEq] at hA
        obtain ⟨rfl, _, rfl⟩ := hA
        have cq := own.at_ PtC_len hi (f := 1) (u := .int .u64 (q : Int)) rfl
        have fq := own.frozen hp.out (i * 2 + 1)
        have hor := bits_or_u64_nat q bt (by omega) hbt64
        have hadd : addP P x = P.set i (x / 32, q ||| bt) := by rw [addP_at hi hno, hr32.out, hbt.out]
        have hset := own.setF PtC_len hp.out hi (x' := (x / 32, q ||| bt)) (f := 1) (u := .int .u64 ((q ||| bt : Nat) : Int)) (by decide) rfl
        have hgp : g ≠ pb := fun e => (own.neB bp (by decide)) (by rw [← e]; rfl)
        have i0' : (0 : Int) ≤ (i : Int) := by omega
        have i1' : (i : Int) < (p : Int) := by omega
        have d0 : decide ((i : Int) < 0) = false := decide_eq_false (by omega)
        have s7 := bp.cell 7
        have bel7 := bel.setCell (p := ⟨g, i * 2 + 1, none⟩) hgb (.int .u64 ((q ||| bt : Nat) : Int))
        have b7 := bp.far (p := ⟨g, i * 2 + 1, none⟩) (Ne.symm hgp) (.int .u64 ((q ||| bt : Nat) : Int))
        replace hadd := Lib.hid hadd
        replace hno := Lib.hid hno
        replace hi := Lib.hid hi
        obtain ⟨qq, hqq⟩ : ∃ qq, q ||| bt = qq := ⟨_, rfl⟩
        rw [hqq] at hor hset bel7 b7 hadd
        replace hqq := Lib.hid hqq
        go_wp2_with fail
        go_roundw
        case rel => exact ⟨k + 1, _, by omega, by go_num, b7, by rw [htk.out, addL_snoc, hP.out, hadd.out]; exact hset, bel7⟩
        case measure => simp [intOf]; omega
      · go_upto_region 11 with fail
        have hxd : (x : Int).tdiv 32 = ((x / 32 : Nat) : Int) := by rw [Int.tdiv_eq_ediv_of_nonneg (by omega)]; push_cast; rfl
        have hxd2 : (x : Int) / 32 = ((x / 32 : Nat) : Int) := by push_cast; rfl
        obtain ⟨v, hv⟩ : ∃ v, x / 32 = v := ⟨_, rfl⟩
        rw [hv] at hxd hxd2
        have v0 : (0 : Int) ≤ (v : Int) := by omega
        have v1 : (v : Int) ≤ 65536 := by omega
        have hadd : addP P x = P ++ [(v, bt)] := by rw [addP_new hno, hv, hr32.out, hbt.out]
        replace hv := Lib.hid hv
        replace hadd := Lib.hid hadd
        replace hno := Lib.hid hno
        have z0 : ∀ t : Tw (fun w' => Blk w' gn 3 #[.int .i64 (x : Int)] ∧ Blk w' pb 111 #[.int .i64 2, .int .i64 0, .int .i64 0, .int .i64 0, .bool false, .int .u64 0, .slice none 0 0, (.slice pA p pc), .slice none 0 0, .bool false, .bool false]), t.w.cell? ⟨gn, 0, none⟩ = some (.int .i64 (x : Int)) := fun t => t.h.1.cell 0
        have z7 : ∀ t : Tw (fun w' => Blk w' gn 3 #[.int .i64 (x : Int)] ∧ Blk w' pb 111 #[.int .i64 2, .int .i64 0, .int .i64 0, .int .i64 0, .bool false, .int .u64 0, .slice none 0 0, (.slice pA p pc), .slice none 0 0, .bool false, .bool false]), t.w.cell? ⟨pb, 7, none⟩ = some (.slice pA p pc) := fun t => t.h.2.cell 7
        have zz : Nonempty (Tw (fun w' => Blk w' gn 3 #[.int .i64 (x : Int)] ∧ Blk w' pb 111 #[.int .i64 2, .int .i64 0, .int .i64 0, .int .i64 0, .bool false, .int .u64 0, .slice none 0 0, (.slice pA p pc), .slice none 0 0, .bool false, .bool false])) := ⟨⟨_, bn, bp⟩⟩
        refine wp_region_planT (fun w' => Blk w' gn 3 #[.int .i64 (x : Int)] ∧ Blk w' pb 111 #[.int .i64 2, .int .i64 0, .int .i64 0, .int .i64 0, .bool false, .int .u64 0, .slice none 0 0, (.slice pA p pc), .slice none 0 0, .bool false, .bool false]) [(0, true), (1, true), (2, true), (3, true), (4, true), (5, true), (6, true), (7, true), (8, true), (9, false), (10, false), (11, true), (12, true)] [13] (by kernel_rfl) (by kernel_rfl) (by kernel_rfl) (by kernel_rfl) ⟨bn.drew, bp.drew⟩ ?_
        replace bn := bn.drew
        replace bp := bp.drew
        replace own := own.drew
        replace bel := bel.drew
        clear n0
        generalize w3.drew = w4 at *
        refine wpPh_qs 9 _ _ _ (by kernel_rfl) (by kernel_rfl) (by simp) ?_
        unfold clsS
        simp only [List.take_succ_cons, List.take_zero, List.drop_succ_cons, List.drop_zero, List.filterMap_cons, List.filterMap_nil, List.getElem?_toArray, List.getElem?_cons_zero, List.getElem?_cons_succ]
        repeat (first
          | go_big_quiet_skip
          | (go_big_quiet_want; go_big_quiet_op; go_big_quiet_on)
          | (refine id (?_ : wpQuiet _ _ _ _ (_ :: _) _); first | go_big_quiet_skip | (go_big_quiet_want; go_big_quiet_op; go_big_quiet_on)))
        refine wpQuiet_nil ?_
        have hxr := RdT.new (cs := PtC) (sz := 2) PtC_len w4 130 [(v, bt)] #[.int .i64 (v : Int), .int .u64 (bt : Int)] rfl 1 rfl
        have hba := bel_alloc w4 (.cells #[.int .i64 (v : Int), .int .u64 (bt : Int)] 130)
        replace bn := bn.bel hba
        replace bp := bp.bel hba
        replace own := own.below hba
        have hgW := bel.size
        replace bel := bel_after bel hba
        refine wpPh_e _ (by rfl) (by kernel_rfl) (fun K hK => ?_)
        go_simp
        refine hK _ _ ⟨bn, bp⟩ ?_
        clear hK K
        have hbW : W.heap.size ≤ w4.heap.size := hgW
        have hs5 : w4.heap.size + 1 = (w4.alloc (.cells #[.int .i64 (v : Int), .int .u64 (bt : Int)] 130)).heap.size := by simp
        generalize w4.alloc (.cells #[.int .i64 (v : Int), .int .u64 (bt : Int)] 130) = w5 at *
        have e1 := own.neB bn (by decide)
        have e2 := own.neB bp (by decide)
        refine wpPh_e _ (by rfl) (by kernel_rfl) (fun K hK => ?_)
        refine wp_appT PtC_len PtC_one (by decide) w5 (.tmp 45) (.tmp 50) 109 rfl W.heap.size 130 i0 (.agg #[.int .i64 0, .int .u64 0]) 16 Tryz.underlying109 hi0 hz0 hz1 hz2 rfl _ rfl P own _ _ 1 1 rfl [(v, bt)] hxr (by rw [hp.out]; omega) (by decide) (by omega) ?_
        intro v6 w6 own6 hg6 hv6
        obtain ⟨p6, hp6⟩ : ∃ p6, (P ++ [(v, bt)]).length = p6 := ⟨_, rfl⟩
        obtain ⟨A6, c6, rfl, _, _⟩ := own6.form hp6
        replace bn := bn.grown hg6 e1
        replace bp := bp.grown hg6 e2
        have bel6 : Below W.heap.size W w6 := bel.trans (Upd.below (Upd.of_grown (S := fun b => W.heap.size ≤ b) hg6 (fun g e => (own.lt g e).1)) (by omega) (fun b hb e => by omega))
        go_simp
        refine hK _ _ ⟨bn, bp⟩ ?_
        clear hK K hg6 own hxr bel
        refine wpPh_qs 2 _ _ _ (by kernel_rfl) (by kernel_rfl) (by simp) ?_
        unfold clsS
        simp only [List.take_succ_cons, List.take_zero, List.drop_succ_cons, List.drop_zero, List.filterMap_cons, List.filterMap_nil, List.getElem?_toArray, List.getElem?_cons_zero, List.getElem?_cons_succ]
        repeat (first
          | go_big_quiet_skip
          | (go_big_quiet_want; go_big_quiet_op; go_big_quiet_on)
          | (refine id (?_ : wpQuiet _ _ _ _ (_ :: _) _); first | go_big_quiet_skip | (go_big_quiet_want; go_big_quiet_op; go_big_quiet_on)))
        refine wpQuiet_nil ?_
        have q7 := bp.cell 7
        have q7f := bp.frozen 7
        unfold wpPh
        refine wpPt_e _ (by rfl) (by kernel_rfl) (fun K hK => ?_)
        go_simp
        have u7 := Upd.one w6 pb 7 (.slice A6 p6 c6)
        have b7 : Blk (w6.setCell ⟨pb, 7, none⟩ (.slice A6 p6 c6)) pb 111 #[.int .i64 2, .int .i64 0, .int .i64 0, .int .i64 0, .bool false, .int .u64 0, .slice none 0 0, (.slice A6 p6 c6), .slice none 0 0, .bool false, .bool false] := bp.set_ 7 (.slice A6 p6 c6)
        have hpbW : W.heap.size ≤ pb := by have := hpb.out; omega
        have bel7 := bel6.setCell (p := ⟨pb, 7, none⟩) hpbW (.slice A6 p6 c6)
        have own7 := own6.upd u7 (fun g e e3 => (own6.neB bp (by decide)) (e3 ▸ e))
        refine hK _ _ ?_
        clear hK K q7 q7f bp bel6 own6 u7
        generalize w6.setCell ⟨pb, 7, none⟩ (.slice A6 p6 c6) = w7 at *
        unfold wpPt
        refine NoPanic.normal ?_
        go_wp2_with fail
        go_roundw
        case rel => exact ⟨k + 1, _, by omega, by go_num, b7, by rw [htk.out, addL_snoc, hP.out, hadd.out]; exact own7, bel7⟩
        case measure => simp [intOf]; omega
    · obtain rfl : k = m := by omega
      have d1 : decide (k < k) = false := by simp
      have d3 : decide ((k : Int) < (k : Int)) = false := by simp
      rw [List.take_of_length_le (by omega)] at own
      go_wp2_with fail
      go_ret
      exact ⟨pb, pv, rfl, by have := hpb.out; omega, bp, own, bel⟩
end Go.Proofs.YtilhkhnjloplfaaGreatDoor
namespace Go.Proofs.YtilhkhnjloplfaaGreatDoor
set_option linter.unusedVariables false
set_option linter.unusedSimpArgs false
open Go.RowKit
theorem OwnT.blkA {α : Type} {cs : α → List Value} {sz : Nat} {e : TypeId} {w : World} {base n c : Nat} {A : Option Addr} {l : List α} (ho : OwnT cs sz e w base (.slice A n c) l) : ∀ b i, A = some ⟨b, i, none⟩ → base ≤ b ∧ ∃ ds, Blk w b e ds := fun b i hA => by
  rcases ho.row.2 with ⟨h1, _⟩ | ⟨g', cap, cur, h1, hb, hgg, _⟩
  · simp only [Value.slice.injEq] at h1
    rw [hA] at h1; cases h1.1
  · simp only [Value.slice.injEq] at h1
    rw [hA] at h1
    obtain ⟨h2, _⟩ := h1
    simp only [Option.some.injEq, Addr.mk.injEq] at h2
    obtain ⟨rfl, _⟩ := h2
    exact ⟨hb, cur, hgg⟩
set_option maxRecDepth 100000 in
set_option maxHeartbeats 1000000 in
theorem leave_some (I : Nat → Prop) (W : World) (base gp gc h N nw cb g m c : Nat) (ws : List Nat) (home : Int) (ov : Value) (l : List Nat) (n : Nat) (mine : List Nat) (pm : PoM W gp gc h N ws) (hic : I cb) (b1 : Blk W cb 64 #[.pointer (some ⟨gp, 0, none⟩), .int .i64 home, (.slice (some ⟨g, 0, none⟩) m c), ov]) (hov : ∃ a, ov = .pointer a) (own : Own .i64 3 W base (.slice (some ⟨g, 0, none⟩) m c) (iN l)) (hm : l.length = m) (hn : n ≤ m) (hlt : ∀ x, x ∈ l → x < N) (hN : N ≤ 65535) (hm6 : m ≤ 60000) (hbs : base ≤ W.heap.size) :
    Calls Tryz.prog 30 #[.pointer (some ⟨cb, 0, none⟩), .int .i64 (n : Int)] W fun e W' => ∃ sp, e = .returned sp ∧ Upd (fun b => b = cb) W W' ∧ WM (fun b => I b ∨ W.heap.size ≤ b) W' base gp nw ⟨l.drop n, addL [] (l.take n), mine⟩ (.back false 0) cb sp := by
  obtain ⟨a0, rfl⟩ := hov
  have hml : (iN l).length = m := by rw [iN_len]; exact hm
  obtain ⟨_, _, e0, hmc, hcm, hrd⟩ := own.form hml
  simp only [Value.slice.injEq] at e0
  obtain ⟨rfl, _, rfl⟩ := e0
  unfold maxLen at hcm
  have n0 : (0 : Int) ≤ (n : Int) := by omega
  have n1 : (n : Int) ≤ (c : Int) := by omega
  have n2 : n ≤ c := by omega
  have n3 : (n : Int) ≤ (m : Int) := by omega
  have rdt := hrd.take hn
  rw [← iN_take] at rdt
  have kB := fun (V : World) (hb : Below W.heap.size W V) => pBack_any V gp gc h N ws (l.take n) (some ⟨g, 0, none⟩) n c (pm.bel hb) ((rdt.below hb).more hb.size) (fun x hx => hlt x (List.mem_of_mem_take hx)) hN (by omega) n2 (by omega)
  replace kB := Lib.hid kB
  go_enter Tryz.func30, Tryz.ntmps30
  go_upto_region 1 with fail
  have z0 : ∀ t : Tw (fun w' => Blk w' cb 64 #[.pointer (some ⟨gp, 0, none⟩), .int .i64 home, (.slice (some ⟨g, 0, none⟩) m c), (.pointer a0)]), t.w.cell? ⟨cb, 0, none⟩ = some (.pointer (some ⟨gp, 0, none⟩)) := fun t => t.h.cell 0
  have z2 : ∀ t : Tw (fun w' => Blk w' cb 64 #[.pointer (some ⟨gp, 0, none⟩), .int .i64 home, (.slice (some ⟨g, 0, none⟩) m c), (.pointer a0)]), t.w.cell? ⟨cb, 2, none⟩ = some (.slice (some ⟨g, 0, none⟩) m c) := fun t => t.h.cell 2
  have zz : Nonempty (Tw (fun w' => Blk w' cb 64 #[.pointer (some ⟨gp, 0, none⟩), .int .i64 home, (.slice (some ⟨g, 0, none⟩) m c), (.pointer a0)])) := ⟨⟨_, b1⟩⟩
  refine wp_region_planT (fun w' => Blk w' cb 64 #[.pointer (some ⟨gp, 0, none⟩), .int .i64 home, (.slice (some ⟨g, 0, none⟩) m c), (.pointer a0)]) [(0, true), (1, true), (2, true), (3, true), (4, true), (5, true), (6, true), (7, true), (8, true), (9, true), (10, true), (11, false), (12, true), (13, true)] [14] (by kernel_rfl) (by kernel_rfl) (by kernel_rfl) (by kernel_rfl) b1.drew ?_
  have bel : Below W.heap.size W W.drew := (Below.refl _ _).drew
  have b2 := b1.drew
  generalize W.drew = W1 at *
  refine wpPh_qs 11 _ _ _ (by kernel_rfl) (by kernel_rfl) (by simp) ?_
  unfold clsS
  simp only [List.take_succ_cons, List.take_zero, List.drop_succ_cons, List.drop_zero, List.filterMap_cons, List.filterMap_nil, List.getElem?_toArray, List.getElem?_cons_zero, List.getElem?_cons_succ]
  repeat (first
    | go_big_quiet_skip
    | (go_big_quiet_want; go_big_quiet_op; go_big_quiet_on)
    | (refine id (?_ : wpQuiet _ _ _ _ (_ :: _) _); first | go_big_quiet_skip | (go_big_quiet_want; go_big_quiet_op; go_big_quiet_on)))
  refine wpQuiet_nil ?_
  refine wpPh_e _ (by rfl) (by kernel_rfl) (fun K hK => ?_)
  go_simp
  refine (kB.out W1 bel).mono ?_
  rintro e W2 ⟨pb, pv, rfl, hpb, bp, ownp, hb⟩
  have hs1 := bel.size
  have b3 := b2.bel hb
  have bel2 := bel_after bel hb
  refine hK _ _ b3 ?_
  clear hK K kB
  refine wpPh_qs 2 _ _ _ (by kernel_rfl) (by kernel_rfl) (by simp) ?_
  unfold clsS
  simp only [List.take_succ_cons, List.take_zero, List.drop_succ_cons, List.drop_zero, List.filterMap_cons, List.filterMap_nil, List.getElem?_toArray, List.getElem?_cons_zero, List.getElem?_cons_succ]
  repeat (first
    | go_big_quiet_skip
    | (go_big_quiet_want; go_big_quiet_op; go_big_quiet_on)
    | (refine id (?_ : wpQuiet _ _ _ _ (_ :: _) _); first | go_big_quiet_skip | (go_big_quiet_want; go_big_quiet_op; go_big_quiet_on)))
  refine wpQuiet_nil ?_
  have q3 := b3.cell 3
  have q3f := b3.frozen 3
  unfold wpPh
  refine wpPt_e _ (by rfl) (by kernel_rfl) (fun K hK => ?_)
  go_simp
  have u4 := Upd.one W2 cb 3 (.pointer (some ⟨pb, 0, none⟩))
  have hpc : pb ≠ cb := bp.ne_ b3 (by decide)
  have b4 : Blk (W2.setCell ⟨cb, 3, none⟩ (.pointer (some ⟨pb, 0, none⟩))) cb 64 #[.pointer (some ⟨gp, 0, none⟩), .int .i64 home, (.slice (some ⟨g, 0, none⟩) m c), (.pointer (some ⟨pb, 0, none⟩))] := b3.set_ 3 (.pointer (some ⟨pb, 0, none⟩))
  have bp4 := bp.upd u4 hpc
  have ownp4 := ownp.upd u4 (fun x hx e => (ownp.neB b3 (by decide)) (e ▸ hx))
  have own4 := (own.below bel2).updne b3 (by decide) u4
  have hu4 := (Upd.of_below bel2 (fun b => b = cb)).trans u4
  have hs4 : W1.heap.size ≤ (W2.setCell ⟨cb, 3, none⟩ (.pointer (some ⟨pb, 0, none⟩))).heap.size := Nat.le_trans hb.size u4.size
  refine hK _ _ ?_
  clear hK K q3 q3f z0 z2 zz b3 b2 bp ownp u4
  generalize W2.setCell ⟨cb, 3, none⟩ (.pointer (some ⟨pb, 0, none⟩)) = W4 at *
  unfold wpPt
  refine NoPanic.normal ?_
  obtain ⟨p, hp⟩ : ∃ p, (addL [] (l.take n)).length = p := ⟨_, rfl⟩
  obtain ⟨pA, pc, rfl, hpc1, hpc2⟩ := ownp4.form hp
  unfold maxLen at hpc2
  obtain ⟨D, hD⟩ : ∃ D, (if c = n then (some ⟨g, 0, none⟩ : Option Addr) else some ⟨g, n, none⟩) = D := ⟨_, rfl⟩
  obtain ⟨d, hd⟩ : ∃ d, m - n = d := ⟨_, rfl⟩
  obtain ⟨dc, hdc⟩ : ∃ dc, c - n = dc := ⟨_, rfl⟩
  have rd4 := own4.rd hml
  have rdD : Rd .i64 W4 W4.heap.size D d (iN (l.drop n)) := by
    refine ⟨by rw [iN_len, List.length_drop, hm]; exact hd, fun x hx => rd4.rng x (by rw [iN_drop] at hx; exact List.mem_of_mem_drop hx), fun h0 => ?_⟩
    obtain ⟨b', o', e', hb', hcc⟩ := rd4.cel (by omega)
    simp only [Option.some.injEq, Addr.mk.injEq, and_true] at e'
    obtain ⟨rfl, rfl⟩ := e'
    rw [if_neg (by omega)] at hD
    refine ⟨g, n, hD.symm, hb', fun j hj => ?_⟩
    have := hcc (n + j) (by omega)
    rw [Nat.zero_add] at this
    rw [this, iN_drop, List.getD_eq_getElem?_getD, List.getD_eq_getElem?_getD, List.getElem?_drop]
  have kc := CloneI_any (iN (l.drop n)) D d dc _ W4 rdD (Nat.le_refl _) (by omega)
  replace kc := Lib.hid kc
  have s2 := b4.cell 2
  clear rd4 rdD
  go_upto_region 2 with fail
  go_wp2_with fail
  refine kc.out.mono ?_
  rintro e W5 ⟨lv, rfl, own5, hb5⟩
  obtain ⟨lA, lc, rfl, _, _, _⟩ := own5.form (n := d) (by rw [iN_len, List.length_drop, hm]; exact hd)
  clear kc s2
  have b5 := b4.bel hb5
  have s2 := b5.cell 2
  have f2 := b5.frozen 2
  go_upto_region 3 with fail
  have u6 := Upd.one W5 cb 2 (.slice lA d lc)
  have b6 : Blk (W5.setCell ⟨cb, 2, none⟩ (.slice lA d lc)) cb 64 #[.pointer (some ⟨gp, 0, none⟩), .int .i64 home, (.slice lA d lc), (.pointer (some ⟨pb, 0, none⟩))] := b5.set_ 2 (.slice lA d lc)
  have own6 := own5.updne b5 (by decide) u6
  have bp6 := (bp4.bel hb5).upd u6 hpc
  have ownp6 := (ownp4.below hb5).upd u6 (fun x hx e => ((ownp4.below hb5).neB b5 (by decide)) (e ▸ hx))
  have hu6 := (hu4.trans (Upd.of_below hb5 (fun b => b = cb))).trans u6
  have hs6 : W4.heap.size ≤ (W5.setCell ⟨cb, 2, none⟩ (.slice lA d lc)).heap.size := Nat.le_trans hb5.size u6.size
  clear s2 f2 b5 b4 u6 bp4 ownp4 own5 own4 hb5
  generalize W5.setCell ⟨cb, 2, none⟩ (.slice lA d lc) = W6 at *
  have s3 := b6.cell 3
  go_wp2_with fail
  go_ret
  have se := Blk.new W6 66 #[.int .i64 2, (.pointer (some ⟨pb, 0, none⟩)), .bool false]
  have hba := bel_alloc W6 (.cells #[.int .i64 2, (.pointer (some ⟨pb, 0, none⟩)), .bool false] 66)
  have ownp7 := ownp6.below hba
  refine ⟨_, rfl, hu6.trans (Upd.of_below hba _), ⟨_, ⟨.inl hic, home, _, b6.bel hba, (own6.below hba).monoB (by omega), fun x hx => .inr ?_⟩, W6.heap.size, pb, rfl, rfl, .inr (by omega), se, ⟨.inr (by omega), pA, p, pc, bp6.bel hba, ownp7.rd PtC_len rfl hp, hpc1, by omega, fun b i e => .inr ?_, fun b i e => (ownp7.blkA b i e).2⟩⟩⟩
  · have := (own6.lt x hx).1; omega
  · have := (ownp7.blkA b i e).1; omega
end Go.Proofs.YtilhkhnjloplfaaGreatDoor
namespace Go.Proofs.YtilhkhnjloplfaaGreatDoor
set_option linter.unusedVariables false
set_option linter.unusedSimpArgs false
open Go.RowKit
set_option maxRecDepth 100000 in
set_option maxHeartbeats 1000000 in
theorem leave_none (I : Nat → Prop) (W : World) (base gp gc h N nw cb : Nat) (ws : List Nat) (home : Int) (a0 : Option Addr) (mine : List Nat) (pm : PoM W gp gc h N ws) (hic : I cb) (b1 : Blk W cb 64 #[.pointer (some ⟨gp, 0, none⟩), .int .i64 home, (.slice none 0 0), (.pointer a0)]) (hN : N ≤ 65535) (hbs : base ≤ W.heap.size) :
    Calls Tryz.prog 30 #[.pointer (some ⟨cb, 0, none⟩), .int .i64 0] W fun e W' => ∃ sp, e = .returned sp ∧ Upd (fun b => b = cb) W W' ∧ WM (fun b => I b ∨ W.heap.size ≤ b) W' base gp nw ⟨[], [], mine⟩ (.back false 0) cb sp := by
  have kB := fun (V : World) (hb : Below W.heap.size W V) => pBack_any V gp gc h N ws [] none 0 0 (pm.bel hb) (Rd.nil _ _ _ _) (fun x hx => by cases hx) hN (by omega) (by omega) (by omega)
  replace kB := Lib.hid kB
  go_enter Tryz.func30, Tryz.ntmps30
  go_upto_region 1 with fail
  have z0 : ∀ t : Tw (fun w' => Blk w' cb 64 #[.pointer (some ⟨gp, 0, none⟩), .int .i64 home, (.slice none 0 0), (.pointer a0)]), t.w.cell? ⟨cb, 0, none⟩ = some (.pointer (some ⟨gp, 0, none⟩)) := fun t => t.h.cell 0
  have z2 : ∀ t : Tw (fun w' => Blk w' cb 64 #[.pointer (some ⟨gp, 0, none⟩), .int .i64 home, (.slice none 0 0), (.pointer a0)]), t.w.cell? ⟨cb, 2, none⟩ = some (.slice none 0 0) := fun t => t.h.cell 2
  have zz : Nonempty (Tw (fun w' => Blk w' cb 64 #[.pointer (some ⟨gp, 0, none⟩), .int .i64 home, (.slice none 0 0), (.pointer a0)])) := ⟨⟨_, b1⟩⟩
  refine wp_region_planT (fun w' => Blk w' cb 64 #[.pointer (some ⟨gp, 0, none⟩), .int .i64 home, (.slice none 0 0), (.pointer a0)]) [(0, true), (1, true), (2, true), (3, true), (4, true), (5, true), (6, true), (7, true), (8, true), (9, true), (10, true), (11, false), (12, true), (13, true)] [14] (by kernel_rfl) (by kernel_rfl) (by kernel_rfl) (by kernel_rfl) b1.drew ?_
  have bel : Below W.heap.size W W.drew := (Below.refl _ _).drew
  have b2 := b1.drew
  generalize W.drew = W1 at *
  refine wpPh_qs 11 _ _ _ (by kernel_rfl) (by kernel_rfl) (by simp) ?_
  unfold clsS
  simp only [List.take_succ_cons, List.take_zero, List.drop_succ_cons, List.drop_zero, List.filterMap_cons, List.filterMap_nil, List.getElem?_toArray, List.getElem?_cons_zero, List.getElem?_cons_succ]
  repeat (first
    | go_big_quiet_skip
    | (go_big_quiet_want; go_big_quiet_op; go_big_quiet_on)
    | (refine id (?_ : wpQuiet _ _ _ _ (_ :: _) _); first | go_big_quiet_skip | (go_big_quiet_want; go_big_quiet_op; go_big_quiet_on)))
  refine wpQuiet_nil ?_
  refine wpPh_e _ (by rfl) (by kernel_rfl) (fun K hK => ?_)
  go_simp
  refine (kB.out W1 bel).mono ?_
  rintro e W2 ⟨pb, pv, rfl, hpb, bp, ownp, hb⟩
  have hs1 := bel.size
  have b3 := b2.bel hb
  have bel2 := bel_after bel hb
  refine hK _ _ b3 ?_
  clear hK K kB
  refine wpPh_qs 2 _ _ _ (by kernel_rfl) (by kernel_rfl) (by simp) ?_
  unfold clsS
  simp only [List.take_succ_cons, List.take_zero, List.drop_succ_cons, List.drop_zero, List.filterMap_cons, List.filterMap_nil, List.getElem?_toArray, List.getElem?_cons_zero, List.getElem?_cons_succ]
  repeat (first
    | go_big_quiet_skip
    | (go_big_quiet_want; go_big_quiet_op; go_big_quiet_on)
    | (refine id (?_ : wpQuiet _ _ _ _ (_ :: _) _); first | go_big_quiet_skip | (go_big_quiet_want; go_big_quiet_op; go_big_quiet_on)))
  refine wpQuiet_nil ?_
  have q3 := b3.cell 3
  have q3f := b3.frozen 3
  unfold wpPh
  refine wpPt_e _ (by rfl) (by kernel_rfl) (fun K hK => ?_)
  go_simp
  have u4 := Upd.one W2 cb 3 (.pointer (some ⟨pb, 0, none⟩))
  have hpc : pb ≠ cb := bp.ne_ b3 (by decide)
  have b4 : Blk (W2.setCell ⟨cb, 3, none⟩ (.pointer (some ⟨pb, 0, none⟩))) cb 64 #[.pointer (some ⟨gp, 0, none⟩), .int .i64 home, (.slice none 0 0), (.pointer (some ⟨pb, 0, none⟩))] := b3.set_ 3 (.pointer (some ⟨pb, 0, none⟩))
  have bp4 := bp.upd u4 hpc
  have ownp4 := ownp.upd u4 (fun x hx e => (ownp.neB b3 (by decide)) (e ▸ hx))
  have hu4 := (Upd.of_below bel2 (fun b => b = cb)).trans u4
  have hs4 : W1.heap.size ≤ (W2.setCell ⟨cb, 3, none⟩ (.pointer (some ⟨pb, 0, none⟩))).heap.size := Nat.le_trans hb.size u4.size
  refine hK _ _ ?_
  clear hK K q3 q3f z0 z2 zz b3 b2 bp ownp u4
  generalize W2.setCell ⟨cb, 3, none⟩ (.pointer (some ⟨pb, 0, none⟩)) = W4 at *
  unfold wpPt
  refine NoPanic.normal ?_
  obtain ⟨p, hp⟩ : ∃ p, (addL [] ([] : List Nat)).length = p := ⟨_, rfl⟩
  obtain ⟨pA, pc, rfl, hpc1, hpc2⟩ := ownp4.form hp
  unfold maxLen at hpc2
  have kc := CloneI_any [] none 0 0 0 W4 (Rd.nil _ _ _ _) (by omega) (by omega)
  replace kc := Lib.hid kc
  have s2 := b4.cell 2
  go_upto_region 2 with fail
  go_wp2_with fail
  refine kc.out.mono ?_
  rintro e W5 ⟨lv, rfl, own5, hb5⟩
  obtain ⟨lA, lc, rfl, _, _, _⟩ := own5.form (n := 0) rfl
  clear kc s2
  have b5 := b4.bel hb5
  have s2 := b5.cell 2
  have f2 := b5.frozen 2
  go_upto_region 3 with fail
  have u6 := Upd.one W5 cb 2 (.slice lA 0 lc)
  have b6 : Blk (W5.setCell ⟨cb, 2, none⟩ (.slice lA 0 lc)) cb 64 #[.pointer (some ⟨gp, 0, none⟩), .int .i64 home, (.slice lA 0 lc), (.pointer (some ⟨pb, 0, none⟩))] := b5.set_ 2 (.slice lA 0 lc)
  have own6 := own5.updne b5 (by decide) u6
  have bp6 := (bp4.bel hb5).upd u6 hpc
  have ownp6 := (ownp4.below hb5).upd u6 (fun x hx e => ((ownp4.below hb5).neB b5 (by decide)) (e ▸ hx))
  have hu6 := (hu4.trans (Upd.of_below hb5 (fun b => b = cb))).trans u6
  have hs6 : W4.heap.size ≤ (W5.setCell ⟨cb, 2, none⟩ (.slice lA 0 lc)).heap.size := Nat.le_trans hb5.size u6.size
  clear s2 f2 b5 b4 u6 bp4 ownp4 own5 hb5
  generalize W5.setCell ⟨cb, 2, none⟩ (.slice lA 0 lc) = W6 at *
  have s3 := b6.cell 3
  go_wp2_with fail
  go_ret
  have se := Blk.new W6 66 #[.int .i64 2, (.pointer (some ⟨pb, 0, none⟩)), .bool false]
  have hba := bel_alloc W6 (.cells #[.int .i64 2, (.pointer (some ⟨pb, 0, none⟩)), .bool false] 66)
  have ownp7 := ownp6.below hba
  refine ⟨_, rfl, hu6.trans (Upd.of_below hba _), ⟨_, ⟨.inl hic, home, _, b6.bel hba, (own6.below hba).monoB (by omega), fun x hx => .inr ?_⟩, W6.heap.size, pb, rfl, rfl, .inr (by omega), se, ⟨.inr (by omega), pA, p, pc, bp6.bel hba, ownp7.rd PtC_len rfl hp, hpc1, by omega, fun b i e => .inr ?_, fun b i e => (ownp7.blkA b i e).2⟩⟩⟩
  · have := (own6.lt x hx).1; omega
  · have := (ownp7.blkA b i e).1; omega
end Go.Proofs.YtilhkhnjloplfaaGreatDoor
namespace Go.Proofs.YtilhkhnjloplfaaGreatDoor
set_option linter.unusedVariables false
set_option linter.unusedSimpArgs false
open Go.RowKit
def putS (k : Wk) (id : Nat) : Wk × St :=
  if 16 < (k.list ++ [id]).length then ({ k with list := (k.list ++ [id]).drop 8, parts := addL [] ((k.list ++ [id]).take 8) }, .back false 0) else ({ k with list := k.list ++ [id] }, .still)
theorem WM.mono {I I' : Nat → Prop} {W : World} {base gp nw cb : Nat} {k : Wk} {s : St} {sp : Value} (h : WM I W base gp nw k s cb sp) (hI : ∀ b, I b → I' b) : WM I' W base gp nw k s cb sp := by
  obtain ⟨ov, c1, c2⟩ := h
  refine ⟨ov, c1.mono (fun b _ hb => hI b hb), ?_⟩
  cases s with
  | none => exact c2
  | still =>
    obtain ⟨h1, sb, h2, h3, h4⟩ := c2
    exact ⟨h1, sb, h2, hI _ h3, h4⟩
  | fill word left rd seen =>
    obtain ⟨h1, sb, pb, h2, h3, h4, h5⟩ := c2
    exact ⟨h1, sb, pb, h2, hI _ h3, h4, h5.mono (fun b _ hb => hI b hb)⟩
  | back rd seen =>
    obtain ⟨sb, pb, h1, h2, h3, h4, hip, A, m, c, h5, h6, h7, h8, h9, h10⟩ := c2
    exact ⟨sb, pb, h1, h2, hI _ h3, h4, hI _ hip, A, m, c, h5, h6, h7, h8, fun b i e => hI _ (h9 b i e), h10⟩
set_option maxRecDepth 100000 in
set_option maxHeartbeats 1000000 in
theorem cPut_any (I : Nat → Prop) (W : World) (base gp gc h N nw cb : Nat) (ws : List Nat) (k : Wk) (id : Nat) (pm : PoM W gp gc h N ws) (wm : WM I W base gp nw k .none cb (.pointer none)) (hI : ∀ b, I b → b ≠ gp ∧ b ≠ gc ∧ b ≠ h) (hkp : k.parts = []) (hlt : ∀ x, x ∈ k.list ++ [id] → x < N) (hN : N ≤ 65535) (hl : k.list.length ≤ 10000) (hbs : base ≤ W.heap.size) :
    Calls Tryz.prog 10 #[.pointer (some ⟨cb, 0, none⟩), .int .i64 (id : Int)] W fun e W' => ∃ sp, e = .returned sp ∧ Upd I W W' ∧ WM (fun b => I b ∨ W.heap.size ≤ b) W' base gp nw (putS k id).1 (putS k id).2 cb sp := by
  obtain ⟨i0, hi0, hz0, hz1, hz2⟩ := info_parts info_int
  obtain ⟨ov, cm, _, rfl⟩ := wm
  obtain ⟨hic, home, lv, b1, own, b3⟩ := cm
  obtain ⟨m, hm⟩ : ∃ m, k.list.length = m := ⟨_, rfl⟩
  have hml : (iN k.list).length = m := by rw [iN_len]; exact hm
  rw [hm] at hl
  have hidN := hlt id (by simp)
  have hrg : inr .i64 (id : Int) := i64_inr (by show _ ≤ (id : Int) ∧ (id : Int) ≤ _; omega)
  have hrd := Rd.new .i64 W 3 [(id : Int)] (by intro y hy; simp at hy; subst hy; exact hrg) #[.int .i64 (id : Int)] rfl 1 rfl
  have hba := bel_alloc W (.cells #[.int .i64 (id : Int)] 3)
  have b1a := b1.bel hba
  have owna := own.below hba
  have hsa : (W.alloc (.cells #[.int .i64 (id : Int)] 3)).heap.size = W.heap.size + 1 := by simp
  have s2 := b1a.cell 2
  have hlv := owna.neB b1a (by decide)
  have hap : iN (k.list ++ [id]) = iN k.list ++ [(id : Int)] := by rw [iN_app]; rfl
  have hl2 : (k.list ++ [id]).length = m + 1 := by rw [List.length_append, hm]; rfl
  replace hap := Lib.hid hap
  replace hl2 := Lib.hid hl2
  replace hm := Lib.hid hm
  have s2' := b1.cell 2
  go_enter Tryz.func10, Tryz.ntmps10
  go_upto_region 4 with (at_builtin; refine wpList_app _ rfl (.tmp 11) (.tmp 13) 23 rfl .i64 base 3 i0 (.int .i64 0) 8 Tryz.underlying23 hi0 hz0 hz1 hz2 rfl lv rfl (iN k.list) owna (W.heap.size + 1) _ 1 1 rfl [(id : Int)] hrd (by rw [hml]; omega) (by decide) (by omega) ?_; intro v4 W4 own4 hg4 hv4; obtain ⟨A4, c4, rfl, hc41, hc42, _⟩ := own4.form (n := m + 1) (by rw [List.length_append, hml]; rfl); have bc4 := b1a.grown hg4 hlv; have s2'' := bc4.cell 2; have f2'' := bc4.frozen 2)
  have u5 := Upd.one W4 cb 2 (.slice A4 (m + 1) c4)
  have b5 : Blk (W4.setCell ⟨cb, 2, none⟩ (.slice A4 (m + 1) c4)) cb 64 #[.pointer (some ⟨gp, 0, none⟩), .int .i64 home, (.slice A4 (m + 1) c4), (.pointer none)] := bc4.set_ 2 (.slice A4 (m + 1) c4)
  have own5 := own4.updne bc4 (by decide) u5
  rw [← hap.out] at own5
  have hu5 : Upd I W (W4.setCell ⟨cb, 2, none⟩ (.slice A4 (m + 1) c4)) := ((Upd.of_below hba I).trans (Upd.of_grown (S := I) hg4 (fun g e => b3 g e))).trans (u5.mono (fun b _ e => by rw [e]; exact hic))
  have hnew : ∀ g, (Value.slice A4 (m + 1) c4).ownBlock = some g → I g ∨ W.heap.size ≤ g := fun g hg => by
    rcases hv4 with h1 | h1
    · rw [h1] at hg; exact .inl (b3 g hg)
    · rw [h1, hsa] at hg
      have : W.heap.size + 1 = g := by simpa using hg
      exact .inr (by omega)
  clear u5 bc4 own4 hg4 hv4 b1 b1a own owna hrd hba s2 s2' hlv hsa
  generalize W4.setCell ⟨cb, 2, none⟩ (.slice A4 (m + 1) c4) = W5 at *
  have hs5 := hu5.size
  have pm5 : PoM W5 gp gc h N ws := pm.upd hu5 (fun e => (hI gp e).1 rfl) (fun e => (hI gc e).2.1 rfl) (fun e => (hI h e).2.2 rfl)
  have s2 := b5.cell 2
  have s3 := b5.cell 3
  have hput : putS k id = if 16 < m + 1 then ({ k with list := (k.list ++ [id]).drop 8, parts := addL [] ((k.list ++ [id]).take 8) }, .back false 0) else ({ k with list := k.list ++ [id] }, .still) := by unfold putS; rw [hl2.out]
  by_cases h16 : 16 < m + 1
  · rw [if_pos h16] at hput
    have d1 : decide ((16 : Int) < ((m + 1 : Nat) : Int)) = true := decide_eq_true (by omega)
    have d2 : decide (16 < m + 1) = true := decide_eq_true h16
    have hm5 : (iN (k.list ++ [id])).length = m + 1 := by rw [iN_len]; exact hl2.out
    obtain ⟨g, c', hA, _, _, _, _⟩ := own5.formG hm5 (by omega)
    simp only [Value.slice.injEq] at hA
    obtain ⟨rfl, _, rfl⟩ := hA
    have kl := leave_some (fun b => I b ∨ W.heap.size ≤ b) W5 base gp gc h N nw cb g (m + 1) c4 ws home (.pointer none) (k.list ++ [id]) 8 k.mine pm5 (.inl hic) b5 ⟨none, rfl⟩ own5 hl2.out (by omega) hlt hN (by omega) (by omega)
    replace kl := Lib.hid kl
    replace hput := Lib.hid hput
    go_wp2_with fail
    refine kl.out.mono ?_
    rintro e W6 ⟨sp, rfl, hu6, wm6⟩
    go_wp2_with fail
    go_ret
    rw [hput.out]
    exact ⟨sp, rfl, hu5.trans (hu6.mono (fun b _ e => by rw [e]; exact hic)), wm6.mono (fun b hb => hb.elim (fun e => e) (fun e => .inr (by omega)))⟩
  · rw [if_neg h16] at hput
    have d1 : decide ((16 : Int) < ((m + 1 : Nat) : Int)) = false := decide_eq_false (by omega)
    have d2 : decide (16 < m + 1) = false := decide_eq_false h16
    replace hput := Lib.hid hput
    go_wp2_with fail
    go_ret
    rw [hput.out]
    have se := Blk.new W5 66 #[.int .i64 3, (.pointer none), .bool false]
    have hbb := bel_alloc W5 (.cells #[.int .i64 3, (.pointer none), .bool false] 66)
    exact ⟨_, rfl, hu5.trans (Upd.of_below hbb I), ⟨_, ⟨.inl hic, home, _, b5.bel hbb, own5.below hbb, hnew⟩, rfl, W5.heap.size, rfl, .inr hs5, se⟩⟩
end Go.Proofs.YtilhkhnjloplfaaGreatDoor
namespace Go.Proofs.YtilhkhnjloplfaaGreatDoor
set_option linter.unusedVariables false
set_option linter.unusedSimpArgs false
open Go.RowKit
set_option maxRecDepth 100000 in
theorem cFlush_any (I : Nat → Prop) (W : World) (base gp gc h N nw cb : Nat) (ws : List Nat) (k : Wk) (pm : PoM W gp gc h N ws) (wm : WM I W base gp nw k .none cb (.pointer none)) (hlt : ∀ x, x ∈ k.list → x < N) (hN : N ≤ 65535) (hl : k.list.length ≤ 10000) (hbs : base ≤ W.heap.size) :
    Calls Tryz.prog 15 #[.pointer (some ⟨cb, 0, none⟩)] W fun e W' => ∃ sp, e = .returned sp ∧ Upd (fun b => b = cb) W W' ∧ WM (fun b => I b ∨ W.heap.size ≤ b) W' base gp nw ⟨[], addL [] k.list, k.mine⟩ (.back false 0) cb sp := by
  obtain ⟨ov, cm, _, rfl⟩ := wm
  obtain ⟨hic, home, lv, b1, own, b3⟩ := cm
  have s3 := b1.cell 3
  have s2 := b1.cell 2
  rcases own.row.2 with ⟨rfl, h0⟩ | ⟨g, cap, cur, hA, _, _, _⟩
  · have hk0 : k.list = [] := by
      have : k.list.length = 0 := by rw [← iN_len]; exact h0
      exact List.eq_nil_of_length_eq_zero this
    rw [hk0]
    have kl := leave_none I W base gp gc h N nw cb ws home none k.mine pm hic b1 hN hbs
    replace kl := Lib.hid kl
    clear own h0 hk0
    go_enter Tryz.func15, Tryz.ntmps15
    go_wp2_with fail
    refine kl.out.mono ?_
    rintro e W6 ⟨sp, rfl, hu6, wm6⟩
    go_wp2_with fail
    go_ret
    exact ⟨sp, rfl, hu6, wm6⟩
  · obtain ⟨m, hm⟩ : ∃ m, k.list.length = m := ⟨_, rfl⟩
    have hml : (iN k.list).length = m := by rw [iN_len]; exact hm
    rw [hml] at hA
    subst hA
    have kl := leave_some I W base gp gc h N nw cb g m cap ws home (.pointer none) k.list m k.mine pm hic b1 ⟨none, rfl⟩ own hm (Nat.le_refl _) hlt hN (by omega) hbs
    rw [List.drop_of_length_le (by omega), List.take_of_length_le (by omega)] at kl
    replace kl := Lib.hid kl
    clear own
    replace hm := Lib.hid hm
    go_enter Tryz.func15, Tryz.ntmps15
    go_wp2_with fail
    refine kl.out.mono ?_
    rintro e W6 ⟨sp, rfl, hu6, wm6⟩
    go_wp2_with fail
    go_ret
    exact ⟨sp, rfl, hu6, wm6⟩
set_option maxRecDepth 100000 in
theorem cNew_any (W : World) (base gp nw : Nat) (i : Int) :
    Calls Tryz.prog 6 #[.pointer (some ⟨gp, 0, none⟩), .int .i64 i] W fun e W' => ∃ cb, e = .returned (.tuple #[.pointer (some ⟨cb, 0, none⟩), .int .i64 0]) ∧ Below W.heap.size W W' ∧ WM (fun b => W.heap.size ≤ b) W' base gp nw Wk.z .none cb (.pointer none) := by
  go_enter Tryz.func6, Tryz.ntmps6
  go_wp2_with fail
  go_ret2
  exact ⟨_, rfl, bel_alloc _ _, ⟨_, ⟨Nat.le_refl _, i, _, Blk.new _ _ _, Own.nil _ _ _ _, fun g hg => by simp [Value.ownBlock] at hg⟩, rfl, rfl⟩⟩
end Go.Proofs.YtilhkhnjloplfaaGreatDoor
namespace Go.Proofs.YtilhkhnjloplfaaGreatDoor
set_option linter.unusedVariables false
set_option linter.unusedSimpArgs false
open Go.RowKit
theorem bit_at (u j : Nat) : bits .and .u64 ((u : Int) / 2 ^ j) 1 = if u.testBit j = true then 1 else 0 := by
  have h1 := and_mask (k := .u64) rfl 1 (by decide) ((u : Int) / 2 ^ j)
  have h2 : ((u : Int) / 2 ^ j) = ((u / 2 ^ j : Nat) : Int) := by push_cast; rfl
  have h3 : bits .and .u64 ((u : Int) / 2 ^ j) 1 = ((u : Int) / 2 ^ j) % 2 := by simpa using h1
  rw [h3, h2, Nat.testBit_eq_decide_div_mod_eq]
  generalize u / 2 ^ j = q
  by_cases h : q % 2 = 1
  · rw [if_pos (by simpa using h)]; omega
  · rw [if_neg (by simpa using h)]; omega
/-- a word's free numbers below bit i -/
def frI (k m i : Nat) : List Nat := ((List.range i).filter fun j => !m.testBit j).map (32 * k + ·)
theorem frI_succ (k m i : Nat) : frI k m (i + 1) = if m.testBit i = false then frI k m i ++ [32 * k + i] else frI k m i := by
  unfold frI
  rw [List.range_succ, List.filter_append]
  by_cases h : m.testBit i = false
  · rw [if_pos h, List.map_append]
    simp [h]
  · rw [if_neg h]
    simp [h]
theorem frI_len (k m i : Nat) : (frI k m i).length ≤ i := by
  unfold frI
  rw [List.length_map]
  exact Nat.le_trans (List.length_filter_le _ _) (by simp)
theorem frL_snoc : ∀ (l : List Nat) (k m : Nat), frL k (l ++ [m]) = frL k l ++ frW (k + l.length) m
  | [], k, m => by simp [frL]
  | y :: l, k, m => by
    rw [List.cons_append, frL, frL, frL_snoc l (k + 1) m, List.append_assoc, List.length_cons, show k + 1 + l.length = k + (l.length + 1) by omega]
theorem frW_len (k m : Nat) : (frW k m).length ≤ 32 := frI_len k m 32
theorem frL_len : ∀ (l : List Nat) (k : Nat), (frL k l).length ≤ 32 * l.length
  | [], _ => by simp [frL]
  | y :: l, k => by
    rw [frL, List.length_append, List.length_cons]
    have h1 := frW_len k y
    have h2 := frL_len l (k + 1)
    omega
set_option maxRecDepth 100000 in
set_option maxHeartbeats 2000000 in
theorem pFree_any (W : World) (gp gc h n : Nat) (ws : List Nat) (pm : PoM W gp gc h n ws) (hw2 : ws.length ≤ 100) :
    Calls Tryz.prog 17 #[.pointer (some ⟨gp, 0, none⟩)] W fun e W' => ∃ v, e = .returned v ∧ Own .i64 3 W' W.heap.size v (iN (frL 0 ws)) ∧ Below W.heap.size W W' := by
  obtain ⟨i0, hi0, hz0, hz1, hz2⟩ := info_parts info_int
  have s0 := pm.obj.cell 0
  have kC := Copy_any gc h (iN ws) W pm.cel (by rw [iN_len]; omega)
  obtain ⟨m, hm⟩ : ∃ m, ws.length = m := ⟨_, rfl⟩
  replace kC := Lib.hid kC
  go_enter Tryz.func17, Tryz.ntmps17
  go_wp2_with fail
  refine kC.out.mono ?_
  rintro e W1 ⟨v1, rfl, own1, bel1⟩
  obtain ⟨A, c, rfl, _, _, rd1⟩ := own1.form (n := m) (by rw [iN_len]; exact hm)
  clear kC s0
  go_wp2_with fail
  go_loopw [3, 15] (fun o i wr => ∃ k : Nat, k ≤ m ∧ i = .int .i64 (k : Int) ∧ Own .i64 3 wr W1.heap.size o (iN (frL 0 (ws.take k))) ∧ Below W1.heap.size W1 wr) (fun _ i _ => m - (intOf i).toNat)
  case atStart => exact ⟨0, by omega, rfl, Own.nil _ _ _ _, Below.refl _ _⟩
  case round =>
    obtain ⟨k, hk, rfl, own, bel⟩ := hrel
    by_cases hkm : k < m
    · obtain ⟨u, hu⟩ : ∃ u, ws[k]? = some u := ⟨_, List.getElem?_eq_getElem (by omega)⟩
      have hu0 : (iN ws).getD k 0 = (u : Int) := by unfold iN; rw [List.getD_eq_getElem?_getD, List.getElem?_map, hu]; rfl
      obtain ⟨b, o, rfl, hb, hcl⟩ := rd1.cel (by omega)
      have hcx := (bel.cell (p := ⟨b, o + k, none⟩) hb).trans (hcl k hkm)
      rw [hu0] at hcx
      have htk : ws.take (k + 1) = ws.take k ++ [u] := by rw [List.take_add_one, hu]; rfl
      have hd1 : decide (k < m) = true := by simpa using hkm
      have hd3 : decide ((k : Int) < (m : Int)) = true := by simpa using hkm
      have k0 : (0 : Int) ≤ (k : Int) := by omega
      have k1 : (k : Int) < (m : Int) := by omega
      obtain ⟨F, hF⟩ : ∃ F, frL 0 (ws.take k) = F := ⟨_, rfl⟩
      have hFl : F.length ≤ 3200 := by have := frL_len (ws.take k) 0; rw [hF, List.length_take] at this; omega
      rw [hF] at own
      have hFn : frL 0 (ws.take (k + 1)) = F ++ frI k u 32 := by rw [htk, frL_snoc, hF, List.length_take, Nat.zero_add, Nat.min_eq_left (by omega)]; rfl
      clear hu0 hcl htk
      replace hF := Lib.hid hF
      replace hFn := Lib.hid hFn
      replace hu := Lib.hid hu
      go_wp2_with fail
      go_loopw [3, 20] (fun o i wq => ∃ j : Nat, j ≤ 32 ∧ i = .int .i64 (j : Int) ∧ Own .i64 3 wq W1.heap.size o (iN (F ++ frI k u j)) ∧ Below W1.heap.size W1 wq) (fun _ i _ => 32 - (intOf i).toNat)
      case atStart => exact ⟨0, by omega, rfl, by show Own .i64 _ _ _ _ (iN (F ++ [])); rw [List.append_nil]; exact own, bel⟩
      case round =>
        clear hcx own bel
        obtain ⟨j, hj, rfl, own, bel⟩ := hrel
        by_cases hj32 : j < 32
        · have e1 : decide ((j : Int) < 32) = true := by simp; omega
          have j0 : (0 : Int) ≤ (j : Int) := by omega
          have j1 : (j : Int) < 64 := by omega
          have hbt := bit_at u j
          have hsc := frI_succ k u j
          have hfl := frI_len k u j
          have hlen : (iN (F ++ frI k u j)).length ≤ 4000 := by rw [iN_len, List.length_append]; omega
          cases hbb : u.testBit j with
          | true =>
            rw [if_pos hbb] at hbt
            rw [if_neg (by simp [hbb])] at hsc
            replace hbb := Lib.hid hbb
            replace hsc := Lib.hid hsc
            go_wp2_with fail
            go_roundw
            case rel => exact ⟨j + 1, by omega, by go_num, by rw [hsc.out]; exact own, bel⟩
            case measure => simp [intOf]; omega
          | false =>
            rw [if_neg (by simp [hbb])] at hbt
            rw [if_pos hbb] at hsc
            have hadd : (k : Int) * 32 + (j : Int) = ((32 * k + j : Nat) : Int) := by push_cast; omega
            have hkl : k < 100 := by omega
            have hrg : inr .i64 ((32 * k + j : Nat) : Int) := i64_inr (by show _ ≤ ((32 * k + j : Nat) : Int) ∧ ((32 * k + j : Nat) : Int) ≤ _; omega)
            have hnx : iN (F ++ frI k u (j + 1)) = iN (F ++ frI k u j) ++ [((32 * k + j : Nat) : Int)] := by rw [hsc, ← List.append_assoc, iN_app]; rfl
            obtain ⟨N, hN⟩ : ∃ N : Int, ((32 * k + j : Nat) : Int) = N := ⟨_, rfl⟩
            rw [hN] at hadd hrg hnx
            have hrd := Rd.new .i64 wr 3 [N] (by intro y hy; simp at hy; subst hy; exact hrg) #[.int .i64 N] rfl 1 rfl
            replace hbb := Lib.hid hbb
            replace hsc := Lib.hid hsc
            replace hnx := Lib.hid hnx
            replace hN := Lib.hid hN
            go_wp2_with (at_builtin; refine wpList_app _ rfl (.tmp 28) (.tmp 33) 23 rfl .i64 W1.heap.size 3 i0 (.int .i64 0) 8 Tryz.underlying23 hi0 hz0 hz1 hz2 rfl _ rfl (iN (F ++ frI k u j)) (own.alloc _) (wr.heap.size + 1) _ 1 1 rfl [N] hrd (by omega) (by decide) (by have := bel.size; simp; omega) ?_; intro v4 w4 own4 hg4 _; have bel4 : Below W1.heap.size W1 w4 := (bel.alloc bel.size _).grown hg4 (by have := bel.size; simp; omega) (fun g h => (own.lt g h).1); clear hg4)
            go_roundw
            case rel => exact ⟨j + 1, by omega, by go_num, by rw [hnx.out]; exact own4, bel4⟩
            case measure => simp [intOf]; omega
        · obtain rfl : j = 32 := by omega
          go_wp2_with fail
          go_roundw
          case rel => exact ⟨k + 1, by omega, by go_num, by rw [hFn.out]; exact own, bel⟩
          case measure => simp [intOf]; omega
    · obtain rfl : k = m := by omega
      have hd1 : decide (k < k) = false := by simp
      have hd3 : decide ((k : Int) < (k : Int)) = false := by simp
      rw [List.take_of_length_le (by omega)] at own
      go_wp2_with fail
      go_ret
      exact ⟨_, rfl, own.monoB bel1.size, bel_after bel1 bel⟩
end Go.Proofs.YtilhkhnjloplfaaGreatDoor
namespace Go.Proofs.YtilhkhnjloplfaaGreatDoor
set_option linter.unusedVariables false
set_option linter.unusedSimpArgs false
open Go.RowKit Go.Shelf
theorem upd_sorted {α : Type} [Inhabited α] (enc : α → Value) (W : World) (g off n : Nat) (d : Array α) (os : Array Obj) : Upd (fun b => b = g) W (Sort.grow (Sort.putRow enc (Sort.ahead W n) g off d) os) := by
  refine ⟨rfl, rfl, rfl, ?_, fun k hk hS => ?_⟩
  · rw [Sort.size_grow]
    have : (Sort.putRow enc (Sort.ahead W n) g off d).heap.size = W.heap.size := by simp [Sort.putRow, Sort.mapBlock, Sort.ahead]
    omega
  · have hsz : (Sort.putRow enc (Sort.ahead W n) g off d).heap.size = W.heap.size := by simp [Sort.putRow, Sort.mapBlock, Sort.ahead]
    rw [Sort.heap_grow_old _ _ (by rw [hsz]; exact hk)]
    have hS' : ¬ g = k := fun e => hS e.symm
    simp [Sort.putRow, Sort.mapBlock, Sort.ahead, Array.getElem?_modify, hS']
theorem SortI_any (l : List Int) (A : Option Addr) (n c base : Nat) (W : World) (ho : Own .i64 3 W base (.slice A n c) l) (hn : l.length = n) (h60 : n ≤ 60000) :
    Calls Tryz.prog 73 #[.slice A n c] W fun e W' => e = .returned (.tuple #[]) ∧ ∃ S : List Int, S.Perm l ∧ Rd .i64 W' W'.heap.size A n S ∧ Upd (fun b => A = some ⟨b, 0, none⟩) W W' := by
  rcases Nat.eq_zero_or_pos n with rfl | hp
  · have h1 := AnyM.slices_Sort_int_none sortA A c W
    refine Calls.mono (h := h1) ?_
    rintro e W' ⟨rfl, rfl⟩
    have hl : l = [] := List.length_eq_zero_iff.1 hn
    subst hl
    exact ⟨rfl, [], .refl _, Rd.nil _ _ _ _, Upd.refl _ _⟩
  · obtain ⟨g, c', hA, _, _, hgb, hgl⟩ := ho.formG hn hp
    simp only [Value.slice.injEq] at hA
    obtain ⟨rfl, _, rfl⟩ := hA
    have hH : Sort.Holds (Value.int .i64) W g 0 l.toArray := fun j hj => by
      have hj' : j < n := by simpa [hn] using hj
      obtain ⟨h1, h2, _⟩ := ho.at_ hn hj'
      rw [Nat.zero_add]
      refine ⟨?_, h2⟩
      rw [h1]
      simp [List.getD_eq_getElem?_getD, getElem!_def]
      cases l[j]? <;> rfl
    have h1 := AnyM.slices_Sort_int sortA g 0 c l W hH hgl (by omega)
    rw [hn] at h1
    refine Calls.mono (h := h1) ?_
    rintro e W' ⟨rfl, q, os, rfl⟩
    have hu := upd_sorted (Value.int .i64) W g 0 q (l.mergeSort fun x y => decide (x ≤ y)).toArray os
    have hperm := List.mergeSort_perm l (fun x y => decide (x ≤ y))
    have hlen : (l.mergeSort fun x y => decide (x ≤ y)).length = n := by rw [hperm.length_eq, hn]
    refine ⟨rfl, _, hperm, ⟨hlen, fun x hx => ho.rng x (hperm.mem_iff.1 hx), fun _ => ⟨g, 0, rfl, Nat.lt_of_lt_of_le hgl hu.size, fun j hj => ?_⟩⟩, hu.mono (fun b _ e => by rw [e])⟩
    have hP := Sort.holds_putRow (Value.int .i64) (Sort.ahead W q) g 0 l.toArray (l.mergeSort fun x y => decide (x ≤ y)).toArray (Sort.holds_ahead _ _ _ _ _ _ hH) (by simp)
    have h3 := (Sort.holds_grow _ _ os g 0 _ (by simpa [Sort.putRow, Sort.mapBlock, Sort.ahead] using hgl) hP) j (by simpa [hlen] using hj)
    rw [h3.1]
    simp [List.getD_eq_getElem?_getD, getElem!_def]
    cases (l.mergeSort fun x y => decide (x ≤ y))[j]? <;> rfl
end Go.Proofs.YtilhkhnjloplfaaGreatDoor
namespace Go.Proofs.YtilhkhnjloplfaaGreatDoor
set_option linter.unusedVariables false
set_option linter.unusedSimpArgs false
open Go.RowKit
def stI (k m i : Nat) : List Nat := ((List.range i).filter fun j => m.testBit j).map (32 * k + ·)
theorem stI_32 (k m : Nat) : stI k m 32 = stW k m := rfl
theorem stI_succ (k m i : Nat) : stI k m (i + 1) = if m.testBit i = true then stI k m i ++ [32 * k + i] else stI k m i := by
  unfold stI
  rw [List.range_succ, List.filter_append]
  by_cases h : m.testBit i = true
  · rw [if_pos h, List.map_append]
    simp [h]
  · rw [if_neg h]
    simp [h]
theorem stI_len (k m i : Nat) : (stI k m i).length ≤ i := by
  unfold stI
  rw [List.length_map]
  exact Nat.le_trans (List.length_filter_le _ _) (by simp)
theorem leaf_snoc (l : List (Nat × Nat)) (w q : Nat) : leaf (l ++ [(w, q)]) = leaf l ++ stW w q := by unfold leaf; rw [List.flatMap_append]; simp
theorem leaf_len : ∀ l : List (Nat × Nat), (leaf l).length ≤ 32 * l.length
  | [] => by simp [leaf]
  | (w, q) :: l => by
    have h1 : leaf ((w, q) :: l) = stW w q ++ leaf l := rfl
    have h2 := stI_len w q 32
    have h3 := leaf_len l
    rw [h1, List.length_append, List.length_cons, ← stI_32]; omega
set_option maxRecDepth 100000 in
theorem Left_nil (W : World) : Calls Tryz.prog 53 #[.pointer none] W fun e W' => e = .returned (.slice none 0 0) ∧ W = W' := by
  go_enter Tryz.func53, Tryz.ntmps53
  go_wp2_with fail
  go_ret
  exact ⟨rfl, rfl⟩
set_option maxRecDepth 100000 in
set_option maxHeartbeats 2000000 in
theorem Left_any (W : World) (pb m c : Nat) (A : Option Addr) (parts : List (Nat × Nat)) (h7 : W.cell? ⟨pb, 7, none⟩ = some (.slice A m c)) (hr : RdT PtC 2 W W.heap.size A m parts) (hm6 : m ≤ 100) (hp : ∀ x, x ∈ parts → x.1 < 100 ∧ x.2 < 18446744073709551616) :
    Calls Tryz.prog 53 #[.pointer (some ⟨pb, 0, none⟩)] W fun e W' => ∃ (A' : Option Addr) (n' c' : Nat) (S : List Int), e = .returned (.slice A' n' c') ∧ S.Perm (iN (leaf parts)) ∧ Rd .i64 W' W'.heap.size A' n' S ∧ Below W.heap.size W W' := by
  obtain ⟨i0, hi0, hz0, hz1, hz2⟩ := info_parts info_int
  go_enter Tryz.func53, Tryz.ntmps53
  go_upto_block 0 with fail
  go_wp2_with fail
  go_loopw [3, 14] (fun o i wr => ∃ k : Nat, k ≤ m ∧ i = .int .i64 (k : Int) ∧ Own .i64 3 wr W.heap.size o (iN (leaf (parts.take k))) ∧ Below W.heap.size W wr) (fun _ i _ => m - (intOf i).toNat)
  case atStart => exact ⟨0, by omega, rfl, Own.nil _ _ _ _, Below.refl _ _⟩
  case round =>
    obtain ⟨k, hk, rfl, own, bel⟩ := hrel
    by_cases hkm : k < m
    · obtain ⟨⟨w, u⟩, hu⟩ : ∃ x, parts[k]? = some x := ⟨_, List.getElem?_eq_getElem (by rw [hr.len]; exact hkm)⟩
      obtain ⟨hw100, hu64⟩ := hp _ (List.mem_of_getElem? hu)
      simp only at hw100 hu64
      obtain ⟨b, o, rfl, hb, hcl⟩ := hr.cel (by omega)
      have hcx : ∀ j v, (PtC (w, u))[j]? = some v → wr.cell? ⟨b, o + k * 2 + j, none⟩ = some v := fun j v hv => (bel.cell (p := ⟨b, o + k * 2 + j, none⟩) hb).trans (hcl k (w, u) hu j v hv)
      unfold PtC at hcx
      have htk : parts.take (k + 1) = parts.take k ++ [(w, u)] := by rw [List.take_add_one, hu]; rfl
      have hd1 : decide (k < m) = true := by simpa using hkm
      have hd3 : decide ((k : Int) < (m : Int)) = true := by simpa using hkm
      have k0 : (0 : Int) ≤ (k : Int) := by omega
      have k1 : (k : Int) < (m : Int) := by omega
      obtain ⟨F, hF⟩ : ∃ F, leaf (parts.take k) = F := ⟨_, rfl⟩
      have hFl : F.length ≤ 3200 := by have := leaf_len (parts.take k); rw [hF, List.length_take] at this; omega
      rw [hF] at own
      have hFn : leaf (parts.take (k + 1)) = F ++ stI w u 32 := by rw [htk, leaf_snoc, hF]; rfl
      have bx := Blk.new wr 130 #[.int .i64 (w : Int), .int .u64 (u : Int)]
      have hba := bel_alloc wr (.cells #[.int .i64 (w : Int), .int .u64 (u : Int)] 130)
      have hgw := bel.size
      clear hcl htk
      replace hF := Lib.hid hF
      replace hFn := Lib.hid hFn
      replace hu := Lib.hid hu
      go_upto_region 7 with (refine wpList_ldAt rfl rfl rfl hcx Tryz.underlying130 ptd_size ?_)
      replace own := own.below hba
      replace bel := bel_after bel hba
      clear hcx hba
      generalize wr.alloc (.cells #[.int .i64 (w : Int), .int .u64 (u : Int)] 130) = w1 at *
      obtain ⟨gx, hgx⟩ : ∃ gx, wr.heap.size = gx := ⟨_, rfl⟩
      rw [hgx] at bx ⊢
      rw [hgx] at hgw
      replace hgx := Lib.hid hgx
      go_wp2_with fail
      go_loopw [3, 18] (fun o i wq => ∃ j : Nat, j ≤ 32 ∧ i = .int .i64 (j : Int) ∧ Own .i64 3 wq W.heap.size o (iN (F ++ stI w u j)) ∧ Below W.heap.size W wq ∧ Blk wq gx 130 #[.int .i64 (w : Int), .int .u64 (u : Int)]) (fun _ i _ => 32 - (intOf i).toNat)
      case atStart => exact ⟨0, by omega, rfl, by show Own .i64 _ _ _ _ (iN (F ++ [])); rw [List.append_nil]; exact own, bel, bx⟩
      case round =>
        clear own bel bx
        obtain ⟨j, hj, rfl, own, bel, bx⟩ := hrel
        by_cases hj32 : j < 32
        · have e1 : decide ((j : Int) < 32) = true := by simp; omega
          have j0 : (0 : Int) ≤ (j : Int) := by omega
          have j1 : (j : Int) < 64 := by omega
          have hbt := bit_at u j
          have hsc := stI_succ w u j
          have hfl := stI_len w u j
          have hlen : (iN (F ++ stI w u j)).length ≤ 4000 := by rw [iN_len, List.length_append]; omega
          have x0 := bx.cell 0
          have x1 := bx.cell 1
          cases hbb : u.testBit j with
          | false =>
            rw [if_neg (by simp [hbb])] at hbt
            rw [if_neg (by simp [hbb])] at hsc
            replace hbb := Lib.hid hbb
            replace hsc := Lib.hid hsc
            go_wp2_with fail
            go_roundw
            case rel => exact ⟨j + 1, by omega, by go_num, by rw [hsc.out]; exact own, bel, bx⟩
            case measure => simp [intOf]; omega
          | true =>
            rw [if_pos hbb] at hbt
            rw [if_pos hbb] at hsc
            have hadd : (w : Int) * 32 + (j : Int) = ((32 * w + j : Nat) : Int) := by push_cast; omega
            have hrg : inr .i64 ((32 * w + j : Nat) : Int) := i64_inr (by show _ ≤ ((32 * w + j : Nat) : Int) ∧ ((32 * w + j : Nat) : Int) ≤ _; omega)
            have hnx : iN (F ++ stI w u (j + 1)) = iN (F ++ stI w u j) ++ [((32 * w + j : Nat) : Int)] := by rw [hsc, ← List.append_assoc, iN_app]; rfl
            obtain ⟨N, hN⟩ : ∃ N : Int, ((32 * w + j : Nat) : Int) = N := ⟨_, rfl⟩
            rw [hN] at hadd hrg hnx
            have hrd := Rd.new .i64 wr 3 [N] (by intro y hy; simp at hy; subst hy; exact hrg) #[.int .i64 N] rfl 1 rfl
            have hnb := (own.alloc (.cells #[.int .i64 N] 3)).neB (bx.alloc (.cells #[.int .i64 N] 3)) (by decide)
            have bxa := bx.alloc (.cells #[.int .i64 N] 3)
            replace hbb := Lib.hid hbb
            replace hsc := Lib.hid hsc
            replace hnx := Lib.hid hnx
            replace hN := Lib.hid hN
            go_wp2_with (at_builtin; refine wpList_app _ rfl (.tmp 27) (.tmp 33) 23 rfl .i64 W.heap.size 3 i0 (.int .i64 0) 8 Tryz.underlying23 hi0 hz0 hz1 hz2 rfl _ rfl (iN (F ++ stI w u j)) (own.alloc _) (wr.heap.size + 1) _ 1 1 rfl [N] hrd (by omega) (by decide) (by have := bel.size; simp; omega) ?_; intro v4 w4 own4 hg4 _; have bel4 : Below W.heap.size W w4 := (bel.alloc bel.size _).grown hg4 (by have := bel.size; simp; omega) (fun g h => (own.lt g h).1); have bx4 := bxa.grown hg4 hnb; clear hg4)
            go_roundw
            case rel => exact ⟨j + 1, by omega, by go_num, by rw [hnx.out]; exact own4, bel4, bx4⟩
            case measure => simp [intOf]; omega
        · obtain rfl : j = 32 := by omega
          go_wp2_with fail
          go_roundw
          case rel => exact ⟨k + 1, by omega, by go_num, by rw [hFn.out]; exact own, bel⟩
          case measure => simp [intOf]; omega
    · obtain rfl : k = m := by omega
      have hd1 : decide (k < k) = false := by simp
      have hd3 : decide ((k : Int) < (k : Int)) = false := by simp
      rw [List.take_of_length_le (by rw [hr.len]; exact Nat.le_refl _)] at own
      obtain ⟨q, hq⟩ : ∃ q, (iN (leaf parts)).length = q := ⟨_, rfl⟩
      have hq6 : q ≤ 60000 := by rw [← hq, iN_len]; have := leaf_len parts; rw [hr.len] at this; omega
      obtain ⟨qA, qc, rfl, _, _, _⟩ := own.form hq
      have ks := SortI_any (iN (leaf parts)) qA q qc W.heap.size wr own hq hq6
      have hqA : ∀ b, qA = some ⟨b, 0, none⟩ → W.heap.size ≤ b := fun b e => (own.lt b (by rw [e]; rfl)).1
      replace ks := Lib.hid ks
      replace hq := Lib.hid hq
      clear own
      go_wp2_with fail
      refine ks.out.mono ?_
      rintro e w2 ⟨rfl, S, hS, rdS, huS⟩
      go_wp2_with fail
      go_ret
      exact ⟨_, _, _, S, rfl, hS, rdS, bel.trans (huS.below bel.size (fun b hb e => by have := hqA b e; omega))⟩
end Go.Proofs.YtilhkhnjloplfaaGreatDoor
namespace Go.Proofs.YtilhkhnjloplfaaGreatDoor
set_option linter.unusedVariables false
set_option linter.unusedSimpArgs false
open Go.RowKit
set_option maxRecDepth 100000 in
theorem cLeaving_any (I : Nat → Prop) (W : World) (base gp nw cb : Nat) (k : Wk) (s : St) (sp : Value) (wm : WM I W base gp nw k s cb sp) (hout : (∀ rd seen, s ≠ .back rd seen) → k.parts = []) (hl : k.parts.length ≤ 100) (hp : ∀ x, x ∈ k.parts → x.1 < 100 ∧ x.2 < 18446744073709551616) :
    Calls Tryz.prog 34 #[.pointer (some ⟨cb, 0, none⟩)] W fun e W' => ∃ (A' : Option Addr) (n' c' : Nat) (S : List Int), e = .returned (.slice A' n' c') ∧ S.Perm (iN (leaf k.parts)) ∧ Rd .i64 W' W'.heap.size A' n' S ∧ Below W.heap.size W W' := by
  obtain ⟨ov, cm, st⟩ := wm
  obtain ⟨hic, home, lv, b1, own, b3⟩ := cm
  have s3 := b1.cell 3
  have hno : ov = .pointer none → k.parts = [] → Calls Tryz.prog 34 #[.pointer (some ⟨cb, 0, none⟩)] W fun e W' => ∃ (A' : Option Addr) (n' c' : Nat) (S : List Int), e = .returned (.slice A' n' c') ∧ S.Perm (iN (leaf k.parts)) ∧ Rd .i64 W' W'.heap.size A' n' S ∧ Below W.heap.size W W' := fun h1 h2 => by
    subst h1
    rw [h2]
    clear h2 hout hl hp st
    go_enter Tryz.func34, Tryz.ntmps34
    go_wp2_with fail
    refine (Left_nil _).mono ?_
    rintro e w' ⟨rfl, rfl⟩
    go_wp2_with fail
    go_ret
    exact ⟨none, 0, 0, [], rfl, .refl _, Rd.nil _ _ _ _, Below.refl _ _⟩
  cases s with
  | none => exact hno st.2 (hout (fun _ _ e => by cases e))
  | still => exact hno st.1 (hout (fun _ _ e => by cases e))
  | fill word left rd seen => exact hno st.1 (hout (fun _ _ e => by cases e))
  | back rd seen =>
    obtain ⟨sb, pb, rfl, rfl, _, _, _, A, m, c, bp, hr, _, _, _, _⟩ := st
    have kl := Left_any W pb m c A k.parts (bp.cell 7) hr (by rw [← hr.len]; exact hl) hp
    replace kl := Lib.hid kl
    clear hno hout hl hp hr bp
    go_enter Tryz.func34, Tryz.ntmps34
    go_wp2_with fail
    refine kl.out.mono ?_
    rintro e w' ⟨A', n', c', S, rfl, h1, h2, h3⟩
    go_wp2_with fail
    go_ret
    exact ⟨A', n', c', S, rfl, h1, h2, h3⟩
/-- a pool's words at first -/
def iniW (n : Nat) : List Nat := if n % 32 = 0 then List.replicate (n / 32) 0 else List.replicate (n / 32) 0 ++ [4294967296 - 2 ^ (n % 32)]
theorem iniW_free : ∀ n, n ≤ 60 → frL 0 (iniW n) = List.range n := by decide +kernel
theorem iniW_len : ∀ n, n ≤ 60 → (iniW n).length = (n + 31) / 32 := by decide +kernel
theorem iniW_rng : ∀ n, n ≤ 60 → ∀ m ∈ iniW n, m < 18446744073709551616 := by decide +kernel
theorem pinv_new (n k : Nat) (h : n ≤ 60) : PInv n (iniW n) (List.replicate k Wk.z) := by
  refine ⟨iniW_len n h, iniW_rng n h, ?_, fun x hx => ?_⟩
  · have h1 : (List.replicate k Wk.z).flatMap Wk.all = [] := by
      rw [List.flatMap_eq_nil_iff]
      intro x hx
      rw [(List.mem_replicate.1 hx).2]; rfl
    rw [h1, List.append_nil, iniW_free n h]
  · rw [(List.mem_replicate.1 hx).2]; exact PtOk.nil _
end Go.Proofs.YtilhkhnjloplfaaGreatDoor
namespace Go.Proofs.YtilhkhnjloplfaaGreatDoor
set_option linter.unusedVariables false
set_option linter.unusedSimpArgs false
open Go.RowKit
theorem last_val : ∀ r, r < 32 → 0 < r → bits .andNot .u64 4294967295 (IntKind.u64.wrap (IntKind.u64.wrap ((2 : Int) ^ r) - 1)) = ((4294967296 - 2 ^ r : Nat) : Int) := by decide +kernel
set_option maxRecDepth 100000 in
set_option maxHeartbeats 1000000 in
theorem pNew_any (n : Nat) (W : World) (h1 : 1 ≤ n) (h2 : n ≤ 60) :
    Calls Tryz.prog 4 #[.int .i64 (n : Int)] W fun e W' => ∃ gp gc h, e = .returned (.tuple #[.pointer (some ⟨gp, 0, none⟩), .int .i64 0]) ∧ PoM W' gp gc h n (iniW n) ∧ W.heap.size ≤ gp ∧ W.heap.size ≤ gc ∧ W.heap.size ≤ h ∧ Below W.heap.size W W' := by
  obtain ⟨nw, hnw⟩ : ∃ nw, (n + 31) / 32 = nw := ⟨_, rfl⟩
  obtain ⟨r, hr⟩ : ∃ r, n % 32 = r := ⟨_, rfl⟩
  have kC := fun V => CellsNew_yes nw V (by omega) (by omega)
  have d1 : decide ((n : Int) < 1) = false := by simp; omega
  have d2 : decide (1024 < (n : Int)) = false := by simp; omega
  have e1 : ((n : Int) + 31).tdiv 32 = (nw : Int) := by rw [Int.tdiv_eq_ediv_of_nonneg (by omega)]; omega
  have e2 : ((n : Int) + 31) / 32 = (nw : Int) := by omega
  have e3 : (n : Int) + 32 - 1 = (n : Int) + 31 := by omega
  have e4 : ((n : Int) + 32 - 1) / 32 = (nw : Int) := by omega
  have e5 : ((n : Int) + 32 - 1).tdiv 32 = (nw : Int) := by rw [e3, e1]
  have r1 : (n : Int).tmod 32 = (r : Int) := by rw [Int.tmod_eq_emod_of_nonneg (by omega)]; omega
  have r2 : (n : Int) % 32 = (r : Int) := by omega
  replace kC := Lib.hid kC
  go_enter Tryz.func4, Tryz.ntmps4
  go_wp2_with fail
  refine (kC.out W).mono ?_
  rintro e W1 ⟨gc, h, rfl, hb, hg, hh, cel, _, _⟩
  rcases Nat.eq_zero_or_pos r with rfl | hrp
  · have hz : iniW n = List.replicate nw 0 := by
      unfold iniW
      rw [if_pos hr]
      congr 1; omega
    replace hz := Lib.hid hz
    go_wp2_with fail
    go_ret2
    rw [hz.out]
    have b := Blk.new W1 59 #[.pointer (some ⟨gc, 0, none⟩), .int .i64 (n : Int)]
    have hba := bel_alloc W1 (.cells #[.pointer (some ⟨gc, 0, none⟩), .int .i64 (n : Int)] 59)
    have hs := hb.size
    exact ⟨W1.heap.size, gc, h, rfl, ⟨b, by have := cel.bel hba; unfold iN; rw [List.map_replicate]; exact this⟩, hs, hg, hh, bel_after hb hba⟩
  · have hr32 : r < 32 := by omega
    have hz : iN (iniW n) = celSet (List.replicate nw 0) ((nw : Int) - 1) ((4294967296 - 2 ^ r : Nat) : Int) := by
      have hnz : ¬ n % 32 = 0 := by omega
      unfold iniW
      rw [if_neg hnz, hr]
      have h3 : (nw = 1 ∧ n / 32 = 0) ∨ (nw = 2 ∧ n / 32 = 1) := by omega
      rcases h3 with ⟨rfl, h4⟩ | ⟨rfl, h4⟩ <;> rw [h4] <;> rfl
    have hrn : ((r : Int) != 0) = true := by simp; omega
    have hrn0 : ((r : Int) == 0) = false := by simp; omega
    have hlv := last_val r hr32 hrp
    have rb : (r : Int) < 64 := by omega
    have rb0 : (0 : Int) ≤ (r : Int) := by omega
    go_upto_region 8 with fail
    have kz := fun V (hc : Cel V gc h (List.replicate nw 0)) => Size_any gc h (List.replicate nw 0) V hc
    rw [List.length_replicate] at kz
    have h2r : 2 ^ r < 2 ^ 32 := Nat.pow_lt_pow_right (by decide) hr32
    have kS := fun V (hc : Cel V gc h (List.replicate nw 0)) => Store_any ((nw : Int) - 1) ((4294967296 - 2 ^ r : Nat) : Int) gc h (List.replicate nw 0) V hc (by rw [List.length_replicate]; omega) (u64_inr (by have := Nat.sub_le 4294967296 (2 ^ r); generalize 4294967296 - 2 ^ r = z at *; omega))
    rw [← hz] at kS
    obtain ⟨lastv, hlast⟩ : ∃ lastv : Int, ((4294967296 - 2 ^ r : Nat) : Int) = lastv := ⟨_, rfl⟩
    rw [hlast] at kS hlv
    replace kz := Lib.hid kz
    replace kS := Lib.hid kS
    replace hlast := Lib.hid hlast
    replace hz := Lib.hid hz
    clear h2r
    have zz : Nonempty (Tw (fun w' => Cel w' gc h (List.replicate nw 0))) := ⟨⟨_, cel⟩⟩
    refine wp_region_planT (fun w' => Cel w' gc h (List.replicate nw 0)) [(0, true), (1, true), (4, true), (5, true), (6, true), (7, true), (2, false), (3, true)] [8] (by kernel_rfl) (by kernel_rfl) (by kernel_rfl) (by kernel_rfl) cel.drew ?_
    replace cel := cel.drew
    replace hb := hb.drew
    generalize W1.drew = W2 at *
    refine wpPh_qs 6 _ _ _ (by kernel_rfl) (by kernel_rfl) (by simp) ?_
    unfold clsS
    simp only [List.take_succ_cons, List.take_zero, List.drop_succ_cons, List.drop_zero, List.filterMap_cons, List.filterMap_nil, List.getElem?_toArray, List.getElem?_cons_zero, List.getElem?_cons_succ]
    repeat (first
      | go_big_quiet_skip
      | (go_big_quiet_want; go_big_quiet_op; go_big_quiet_on)
      | (refine id (?_ : wpQuiet _ _ _ _ (_ :: _) _); first | go_big_quiet_skip | (go_big_quiet_want; go_big_quiet_op; go_big_quiet_on)))
    refine wpQuiet_nil ?_
    refine wpPh_e _ (by rfl) (by kernel_rfl) (fun K hK => ?_)
    go_simp
    refine (kz.out W2 cel).mono ?_
    rintro e w' ⟨rfl, rfl⟩
    refine hK _ _ cel ?_
    clear hK K
    refine wpPh_qs 1 _ _ _ (by kernel_rfl) (by kernel_rfl) (by simp) ?_
    unfold clsS
    simp only [List.take_succ_cons, List.take_zero, List.drop_succ_cons, List.drop_zero, List.filterMap_cons, List.filterMap_nil, List.getElem?_toArray, List.getElem?_cons_zero, List.getElem?_cons_succ]
    repeat (first
      | go_big_quiet_skip
      | (go_big_quiet_want; go_big_quiet_op; go_big_quiet_on)
      | (refine id (?_ : wpQuiet _ _ _ _ (_ :: _) _); first | go_big_quiet_skip | (go_big_quiet_want; go_big_quiet_op; go_big_quiet_on)))
    refine wpQuiet_nil ?_
    unfold wpPh
    refine wpPt_e _ (by rfl) (by kernel_rfl) (fun K hK => ?_)
    go_simp
    refine (kS.out W2 cel).mono ?_
    rintro e W3 ⟨rfl, cel3, hu3⟩
    refine hK _ _ ?_
    clear hK K
    unfold wpPt
    refine NoPanic.normal ?_
    have hb3 : Below W.heap.size W W3 := hb.trans (hu3.below hb.size (fun b hb e => by omega))
    go_wp2_with fail
    go_ret2
    have b := Blk.new W3 59 #[.pointer (some ⟨gc, 0, none⟩), .int .i64 (n : Int)]
    have hba := bel_alloc W3 (.cells #[.pointer (some ⟨gc, 0, none⟩), .int .i64 (n : Int)] 59)
    exact ⟨W3.heap.size, gc, h, rfl, ⟨b, cel3.bel hba⟩, hb3.size, hg, hh, bel_after hb3 hba⟩
end Go.Proofs.YtilhkhnjloplfaaGreatDoor
namespace Go.Proofs.YtilhkhnjloplfaaGreatDoor
set_option linter.unusedVariables false
set_option linter.unusedSimpArgs false
open Go.RowKit
/-- the places of n ports: these are made, all others free -/
structure PlI (n : Nat) (L : List Int) (made : Nat → Bool) : Prop where
  w : ∀ i, i < n → ∃ g : Int, 0 ≤ g ∧ g ≤ 65535 ∧ celAt L (2 * (i : Int)) = (Wd.mk (if made i = true then 1 else 0) g 0 0).num
theorem plI_new (n : Nat) : PlI n (List.replicate (2 * n) 0) (fun _ => false) := ⟨fun i hi => ⟨0, by omega, by omega, by
  unfold celAt
  rw [List.length_replicate, if_pos ⟨by omega, by omega⟩, List.getD_eq_getElem?_getD, List.getElem?_replicate]
  split <;> rfl⟩⟩
theorem unW_mk {s g : Int} (hs : 0 ≤ s ∧ s ≤ 3) (hg : 0 ≤ g ∧ g ≤ 65535) : unW ((Wd.mk s g 0 0).num) = ⟨s, g, 0, 0⟩ := by
  unfold Wd.num unW
  simp only [Wd.mk.injEq]
  refine ⟨?_, ?_, ?_, ?_⟩ <;> omega
theorem ptCelAt_set (l : List Int) (i v j : Int) (hi : 0 ≤ i ∧ i < l.length) : celAt (celSet l i v) j = if j = i then v else celAt l j := by
  unfold celSet
  rw [if_pos hi]
  unfold celAt
  rw [List.length_set]
  by_cases hj : 0 ≤ j ∧ j < l.length
  · rw [if_pos hj, if_pos hj]
    by_cases he : j = i
    · rw [if_pos he, he, List.getD_eq_getElem?_getD, List.getElem?_set_self (by omega)]; rfl
    · rw [if_neg he, List.getD_eq_getElem?_getD, List.getElem?_set_ne (by omega), List.getD_eq_getElem?_getD]
  · rw [if_neg hj, if_neg hj, if_neg (by intro e; exact hj (e ▸ hi))]
section
variable {n : Nat} {L : List Int} {made : Nat → Bool} {i : Nat}
/-- what a place's Word is -/
theorem PlI.word (h : PlI n L made) (hi : i < n) : ∃ g : Int, 0 ≤ g ∧ g ≤ 65535 ∧ celAt L (2 * (i : Int)) = (Wd.mk (if made i = true then 1 else 0) g 0 0).num ∧ unW (celAt L (2 * (i : Int))) = ⟨if made i = true then 1 else 0, g, 0, 0⟩ := by
  obtain ⟨g, h1, h2, h3⟩ := h.w i hi
  exact ⟨g, h1, h2, h3, by rw [h3, unW_mk (by split <;> omega) ⟨h1, h2⟩]⟩
/-- a place's Word is another one -/
theorem PlI.set (h : PlI n L made) (hl : L.length = 2 * n) (hi : i < n) (b : Bool) {g : Int} (hg : 0 ≤ g ∧ g ≤ 65535) : PlI n (celSet L (2 * (i : Int)) (Wd.mk (if b = true then 1 else 0) g 0 0).num) (fun j => if j = i then b else made j) := ⟨fun j hj => by
  rw [ptCelAt_set _ _ _ _ ⟨by omega, by omega⟩]
  by_cases e : j = i
  · subst e
    rw [if_pos rfl]
    exact ⟨g, hg.1, hg.2, by simp⟩
  · rw [if_neg (by omega)]
    obtain ⟨g', h1, h2, h3⟩ := h.w j hj
    exact ⟨g', h1, h2, by rw [h3]; simp [e]⟩⟩
theorem may_make {g : Int} (hg : 0 ≤ g ∧ g ≤ 65535) : (Wd.mk 0 g 0 0).may (Wd.mk 1 ((g + 1) % 65536) 0 0) := by
  unfold Wd.may Wd.ok
  refine ⟨?_, ?_, .inl ⟨rfl, rfl, rfl⟩⟩ <;> refine ⟨?_, ?_, ?_, ?_⟩ <;> simp only <;> omega
theorem may_free {g : Int} (hg : 0 ≤ g ∧ g ≤ 65535) : (Wd.mk 1 g 0 0).may (Wd.mk 0 g 0 0) := by
  unfold Wd.may Wd.ok Wd.same
  refine ⟨?_, ?_, .inr (.inl ⟨rfl, .inr rfl, rfl, rfl, rfl⟩)⟩ <;> refine ⟨?_, ?_, ?_, ?_⟩ <;> simp only <;> omega
/-- all are free -/
theorem PlI.count (h : PlI n L made) (hm : ∀ i, i < n → made i = false) : ∀ k, k ≤ n → cntL L 0 k = k
  | 0, _ => rfl
  | k + 1, hk => by
    have ih := PlI.count h hm k (by omega)
    obtain ⟨g, _, _, _, h4⟩ := h.word (i := k) (by omega)
    rw [hm k (by omega)] at h4
    unfold cntL
    rw [ih, h4]
    simp
end
end Go.Proofs.YtilhkhnjloplfaaGreatDoor
namespace Go.Proofs.YtilhkhnjloplfaaGreatDoor
set_option linter.unusedVariables false
set_option linter.unusedSimpArgs false
open Go.RowKit
theorem ptFlat_len {α β : Type} (f : α → List β) : ∀ {l : List α} {x : α}, x ∈ l → (f x).length ≤ (l.flatMap f).length
  | [], x, h => by cases h
  | y :: l, x, h => by
    rw [List.flatMap_cons, List.length_append]
    rcases List.mem_cons.1 h with rfl | h
    · omega
    · have := ptFlat_len f h; omega
theorem PInv.all_len {n : Nat} {ws : List Nat} {ks : List Wk} {k : Wk} (h : PInv n ws ks) (hk : k ∈ ks) : k.all.length ≤ n := by
  have h1 := h.perm.length_eq
  rw [List.length_append, List.length_range] at h1
  have := ptFlat_len Wk.all hk
  omega
theorem PInv.list_len {n : Nat} {ws : List Nat} {ks : List Wk} {k : Wk} (h : PInv n ws ks) (hk : k ∈ ks) : k.list.length ≤ n := by
  have := h.all_len hk
  unfold Wk.all at this
  rw [List.length_append, List.length_append] at this
  omega
theorem cDo_any (I : Nat → Prop) (W : World) (base gp gc h n cb : Nat) (ws : List Nat) (ks : List Wk) (w : Nat) (k : Wk) (s : St) (sp : Value) (pm : PoM W gp gc h n ws) (wm : WM I W base gp ws.length k s cb sp) (hI : ∀ b, I b → b ≠ gp ∧ b ≠ gc ∧ b ≠ h ∧ 0 < b)
    (inv : PInv n ws ks) (hk : ks[w]? = some k) (ok : StOk ws.length k s) (hs : s ≠ .none) (hn : n ≤ 60) (hT : Tab W) (h0 : 0 < h) (hbs : base ≤ W.heap.size) :
    Calls Tryz.prog 7 #[.pointer (some ⟨cb, 0, none⟩), sp] W (CdR I W base gp gc h n ws.length cb sp (doS ws k s).1 (doS ws k s).2.1 (doS ws k s).2.2) := by
  have hkm := List.mem_of_getElem? hk
  have hw := inv.len
  have hl := inv.list_len hkm
  cases s with
  | none => exact absurd rfl hs
  | still => exact cDo_still I W base gp gc h n ws.length cb ws k sp pm wm (fun b hb => ⟨(hI b hb).1, (hI b hb).2.1, (hI b hb).2.2.1⟩)
  | fill word left rd seen => exact cDo_fill I W base gp gc h n ws.length cb ws k word left rd seen sp pm wm hI ok rfl (by omega) inv.rng hT h0 (by omega) hbs
  | back rd seen =>
    refine cDo_back I W base gp gc h n ws.length cb ws k rd seen sp pm wm (fun b hb => ⟨(hI b hb).1, (hI b hb).2.1, (hI b hb).2.2.1⟩) ok rfl (by omega) inv.rng (fun i q r hp => ?_)
    have hpt := inv.pt k hkm
    have h1 := hpt.w (i, q) (by rw [hp]; simp)
    have h2 := hpt.m (i, q) (by rw [hp]; simp)
    exact ⟨h1, h2.2, inv.some_bit hk hp (getD_some h1)⟩
end Go.Proofs.YtilhkhnjloplfaaGreatDoor
namespace Go.Proofs.YtilhkhnjloplfaaGreatDoor
set_option linter.unusedVariables false
set_option linter.unusedSimpArgs false
open Go.RowKit
set_option maxRecDepth 100000 in
theorem plMake_any (i : Nat) (p g h n : Nat) (L : List Int) (made : Nat → Bool) (w : World) (gen : Int) (hp : Pl w p g h n L) (hn : n ≤ 3072) (hI : PlI n L made) (hi : i < n) (hm : made i = false) (hg : 0 ≤ gen ∧ gen ≤ 65535) (hw : celAt L (2 * (i : Int)) = (Wd.mk 0 gen 0 0).num) :
    Calls Tryz.prog 9 #[.pointer (some ⟨p, 0, none⟩), .int .i64 (i : Int), .agg #[.int .i64 0, .int .i64 gen, .int .i64 0, .int .i64 0], .agg #[.int .i64 1, .int .i64 ((gen + 1) % 65536), .int .i64 0, .int .i64 0]] w fun e w' => e = .returned (.bool true) ∧ ∃ L', Pl w' p g h n L' ∧ PlI n L' (fun j => if j = i then true else made j) ∧ Upd (· = h) w w' := by
  have hB : decide (((0 : Int) ≤ (i : Int) ∧ (i : Int) < (n : Int)) ∧ (Wd.mk 0 gen 0 0).may (Wd.mk 1 ((gen + 1) % 65536) 0 0) ∧ celAt L (2 * (i : Int)) = (Wd.mk 0 gen 0 0).num) = true := decide_eq_true ⟨⟨by omega, by omega⟩, may_make hg, hw⟩
  have kc := PlCas_any (i : Int) 0 gen 0 0 1 ((gen + 1) % 65536) 0 0 p g h n L w hp hn true hB
  refine kc.mono ?_
  rintro e w' ⟨rfl, hpl, hu⟩
  exact ⟨rfl, _, hpl, hI.set hp.len hi true (g := (gen + 1) % 65536) (by omega), hu⟩
set_option maxRecDepth 100000 in
theorem plFree_any (i : Nat) (p g h n : Nat) (L : List Int) (made : Nat → Bool) (w : World) (gen : Int) (hp : Pl w p g h n L) (hn : n ≤ 3072) (hI : PlI n L made) (hi : i < n) (hm : made i = true) (hg : 0 ≤ gen ∧ gen ≤ 65535) (hw : celAt L (2 * (i : Int)) = (Wd.mk 1 gen 0 0).num) :
    Calls Tryz.prog 9 #[.pointer (some ⟨p, 0, none⟩), .int .i64 (i : Int), .agg #[.int .i64 1, .int .i64 gen, .int .i64 0, .int .i64 0], .agg #[.int .i64 0, .int .i64 gen, .int .i64 0, .int .i64 0]] w fun e w' => e = .returned (.bool true) ∧ ∃ L', Pl w' p g h n L' ∧ PlI n L' (fun j => if j = i then false else made j) ∧ Upd (· = h) w w' := by
  have hB : decide (((0 : Int) ≤ (i : Int) ∧ (i : Int) < (n : Int)) ∧ (Wd.mk 1 gen 0 0).may (Wd.mk 0 gen 0 0) ∧ celAt L (2 * (i : Int)) = (Wd.mk 1 gen 0 0).num) = true := decide_eq_true ⟨⟨by omega, by omega⟩, may_free hg, hw⟩
  have kc := PlCas_any (i : Int) 1 gen 0 0 0 gen 0 0 p g h n L w hp hn true hB
  refine kc.mono ?_
  rintro e w' ⟨rfl, hpl, hu⟩
  exact ⟨rfl, _, hpl, hI.set hp.len hi false (g := gen) hg, hu⟩
/-- what a Load tells -/
theorem plLoad_any (i : Nat) (p g h n : Nat) (L : List Int) (made : Nat → Bool) (w : World) (hp : Pl w p g h n L) (hn : n ≤ 3072) (hI : PlI n L made) (hi : i < n) : ∃ gen : Int, (0 ≤ gen ∧ gen ≤ 65535) ∧ celAt L (2 * (i : Int)) = (Wd.mk (if made i = true then 1 else 0) gen 0 0).num ∧
    Calls Tryz.prog 8 #[.pointer (some ⟨p, 0, none⟩), .int .i64 (i : Int)] w fun e w' => e = .returned (.agg #[.int .i64 (if made i = true then 1 else 0), .int .i64 gen, .int .i64 0, .int .i64 0]) ∧ Below w.heap.size w w' := by
  obtain ⟨gen, h1, h2, h3, h4⟩ := hI.word hi
  refine ⟨gen, ⟨h1, h2⟩, h3, ?_⟩
  have kl := PlLoad_any (i : Int) p g h n L w hp hn
  rw [h4] at kl
  exact kl
end Go.Proofs.YtilhkhnjloplfaaGreatDoor
