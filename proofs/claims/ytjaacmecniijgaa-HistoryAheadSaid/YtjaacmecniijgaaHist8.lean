/- The law's notes. -/
import Derived.Test.YtjaacmecniijgaaHist7
namespace Go.Proofs.Ytjaacmecniijgaa
set_option linter.unusedVariables false
set_option linter.unusedSimpArgs false
open Go.RowKit
theorem SlR.nil_any {w w' : World} {s : Sl} (h : SlR w s []) : SlR w' s [] := by
  have hn := h.1.len
  exact ⟨⟨hn, by simp, fun h0 => by simp at hn; omega⟩, h.2⟩
theorem SlR.none (w : World) : SlR w ⟨.none, 0, 0⟩ [] := ⟨Rd.nil _ _ _ _, by simp, by simp⟩
theorem HisM.bel {W W' : World} {base gh : Nat} {now : Int} {v : Value} {l : List En} (h : HisM W base gh now v l) (hb : Below W.heap.size W W') : HisM W' base gh now v l := ⟨h.obj.bel hb, h.row.below hb⟩
theorem up_bel {w w0 w' : World} {base gh : Nat} {v : Value} {now : Int} {l : List En} (bel : Below base w0 w) (hm : HisM w base gh now v l) (hg : base ≤ gh) (hb : base ≤ w.heap.size) (hu : Upd (fun k => k = gh ∨ v.ownBlock = some k) w w') : Below base w0 w' :=
  bel.trans (hu.below hb (fun k hk e => by
    rcases e with e | e
    · omega
    · have := (hm.row.lt k e).1; omega))
set_option maxRecDepth 100000 in
set_option maxHeartbeats 4000000 in
theorem hnotes_any (w : World) : Calls Try.prog 7 #[] w fun e w' => e = .returned (.bool true) ∧ Below w.heap.size w w' := by
  go_enter Try.func7, Try.ntmps7
  go_wp2_with fail
  refine (hNew_any w).mono ?_
  rintro e w1 ⟨rfl, hM, bel⟩
  generalize hgh : w.heap.size = gh at *
  have hb0 : gh ≤ w1.heap.size := by have := hM.obj.lt; omega
  replace hgh := Lib.hid hgh
  go_wp2_with fail
  refine (hBegin_any false .none 0 0 0 0 [] gh gh 0 (.slice .none 0 0) [] w1 hM hb0 (by simp) (by omega) (SlR.none _) (by simp)).mono ?_
  rintro e w2 ⟨v2, s1, t1, rfl, hM2, hs1, ht1, up2⟩
  replace bel := up_bel bel hM (Nat.le_refl _) hb0 up2
  replace hs1 := hs1.rd
  replace ht1 := ht1.rd
  have hb2 : gh ≤ w2.heap.size := by have := up2.size; omega
  clear hM up2 hb0
  go_wp2_with fail
  refine (hBegin_any false .none 0 0 0 0 [] gh gh (0 + 1) v2 _ w2 hM2 hb2 (by simp) (by omega) (SlR.none _) (by simp)).mono ?_
  rintro e w3 ⟨v3, s2, t2, rfl, hM3, hs2, ht2, up3⟩
  replace bel := up_bel bel hM2 (Nat.le_refl _) hb2 up3
  replace hs2 := hs2.rd
  replace ht2 := ht2.rd
  have hb3 : gh ≤ w3.heap.size := by have := up3.size; omega
  clear hM2 up3 hb2
  simp only [List.nil_append, List.cons_append, List.length_nil, List.length_cons, Nat.zero_add, Int.zero_add] at hM3 ⊢
  go_wp2_with fail
  have ke := hEnd_any 0 .none 0 0 0 [] gh gh (1 + 1) v3 _ w3 hM3 hb3 (by simp) (by omega) (SlR.none _) (by simp) (x := ⟨1, -1, false, false, s1, 0, 0, t1, 0, 0, 0⟩) rfl rfl rfl rfl rfl (fun _ => rfl)
  refine ke.mono ?_
  rintro e w4 ⟨t3, rfl, hM4, ht3, up4⟩
  replace bel := up_bel bel hM3 (Nat.le_refl _) hb3 up4
  replace ht3 := ht3.rd
  have hb4 : gh ≤ w4.heap.size := by have := up4.size; omega
  clear hM3 up4 hb3 ke
  simp only [List.set_cons_zero] at hM4
  go_wp2_with fail
  refine (hBegin_any false .none 0 0 0 0 [] gh gh (1 + 1 + 1) v3 _ w4 hM4 hb4 (by simp) (by omega) (SlR.none _) (by simp)).mono ?_
  rintro e w5 ⟨v5, s4, t4, rfl, hM5, hs4, ht4, up5⟩
  replace bel := up_bel bel hM4 (Nat.le_refl _) hb4 up5
  replace hs4 := hs4.rd
  replace ht4 := ht4.rd
  have hb5 : gh ≤ w5.heap.size := by have := up5.size; omega
  clear hM4 up5 hb4
  simp only [List.nil_append, List.cons_append, List.length_nil, List.length_cons, Nat.zero_add, Int.zero_add] at hM5 ⊢
  have hall := hAll_any gh gh _ v5 _ (fun _ => []) (fun _ => []) w5 hM5 (by simp) (fun j x hx => by
    match j with
    | 0 => simp at hx; subst hx; exact ⟨hs1.nil_any, ht3.nil_any⟩
    | 1 => simp at hx; subst hx; exact ⟨hs2.nil_any, ht2.nil_any⟩
    | 2 => simp at hx; subst hx; exact ⟨hs4.nil_any, ht4.nil_any⟩
    | k + 3 => simp at hx) (by simp) (by simp)
  replace hall := Lib.hid hall
  go_wp2_with fail
  refine hall.out.mono ?_
  rintro e w6 ⟨v6, l', rfl, own, ⟨hl', hens⟩, hb6⟩
  have hl3 : l'.length = 3 := hl'
  obtain ⟨sa, ta, x0, _⟩ := hens 0 _ (by simp) rfl
  obtain ⟨sb', tb, x1, _⟩ := hens 1 _ (by simp) rfl
  obtain ⟨sc, tc, x2, _⟩ := hens 2 _ (by simp) rfl
  obtain ⟨g, c, rfl, hnc, hcm, hg1, hg2, _⟩ := own.formG hl3 (by omega)
  unfold maxLen at hcm
  replace hM5 := hM5.bel hb6
  replace bel := bel.trans (hb6.mono hb5)
  clear hall hb6 hens
  have hrd := own.rd En.cs_len rfl hl3
  have y0 : ∀ w', (∃ t : Tw (Up w6), w' = t.w) → ∀ j u, ([.int .i64 { endE ⟨1, -1, false, false, s1, 0, 0, t1, 0, 0, 0⟩ (1 + 1 + 1) 0 t3 with f := sa, g := ta }.b, .int .i64 { endE ⟨1, -1, false, false, s1, 0, 0, t1, 0, 0, 0⟩ (1 + 1 + 1) 0 t3 with f := sa, g := ta }.e, .bool { endE ⟨1, -1, false, false, s1, 0, 0, t1, 0, 0, 0⟩ (1 + 1 + 1) 0 t3 with f := sa, g := ta }.ends, .bool { endE ⟨1, -1, false, false, s1, 0, 0, t1, 0, 0, 0⟩ (1 + 1 + 1) 0 t3 with f := sa, g := ta }.out, .slice { endE ⟨1, -1, false, false, s1, 0, 0, t1, 0, 0, 0⟩ (1 + 1 + 1) 0 t3 with f := sa, g := ta }.f.A { endE ⟨1, -1, false, false, s1, 0, 0, t1, 0, 0, 0⟩ (1 + 1 + 1) 0 t3 with f := sa, g := ta }.f.n { endE ⟨1, -1, false, false, s1, 0, 0, t1, 0, 0, 0⟩ (1 + 1 + 1) 0 t3 with f := sa, g := ta }.f.c, .int .i64 { endE ⟨1, -1, false, false, s1, 0, 0, t1, 0, 0, 0⟩ (1 + 1 + 1) 0 t3 with f := sa, g := ta }.tick, .int .i64 { endE ⟨1, -1, false, false, s1, 0, 0, t1, 0, 0, 0⟩ (1 + 1 + 1) 0 t3 with f := sa, g := ta }.port, .slice { endE ⟨1, -1, false, false, s1, 0, 0, t1, 0, 0, 0⟩ (1 + 1 + 1) 0 t3 with f := sa, g := ta }.g.A { endE ⟨1, -1, false, false, s1, 0, 0, t1, 0, 0, 0⟩ (1 + 1 + 1) 0 t3 with f := sa, g := ta }.g.n { endE ⟨1, -1, false, false, s1, 0, 0, t1, 0, 0, 0⟩ (1 + 1 + 1) 0 t3 with f := sa, g := ta }.g.c, .int .i64 { endE ⟨1, -1, false, false, s1, 0, 0, t1, 0, 0, 0⟩ (1 + 1 + 1) 0 t3 with f := sa, g := ta }.err, .int .i64 { endE ⟨1, -1, false, false, s1, 0, 0, t1, 0, 0, 0⟩ (1 + 1 + 1) 0 t3 with f := sa, g := ta }.proto, .int .i64 { endE ⟨1, -1, false, false, s1, 0, 0, t1, 0, 0, 0⟩ (1 + 1 + 1) 0 t3 with f := sa, g := ta }.pt] : List Value)[j]? = some u → w'.cell? ⟨g, 0 + j, none⟩ = some u := fun w' ⟨t, ht⟩ j u hu => ht ▸ ((t.h.cell (p := ⟨g, 0 + j, none⟩) hg2).trans (by have := own.at_ En.cs_len x0 hu; simpa using this))
  have y1 : ∀ w', (∃ t : Tw (Up w6), w' = t.w) → ∀ j u, ([.int .i64 { (⟨1 + 1, -1, false, false, s2, 0, 0, t2, 0, 0, 0⟩ : En) with f := sb', g := tb }.b, .int .i64 { (⟨1 + 1, -1, false, false, s2, 0, 0, t2, 0, 0, 0⟩ : En) with f := sb', g := tb }.e, .bool { (⟨1 + 1, -1, false, false, s2, 0, 0, t2, 0, 0, 0⟩ : En) with f := sb', g := tb }.ends, .bool { (⟨1 + 1, -1, false, false, s2, 0, 0, t2, 0, 0, 0⟩ : En) with f := sb', g := tb }.out, .slice { (⟨1 + 1, -1, false, false, s2, 0, 0, t2, 0, 0, 0⟩ : En) with f := sb', g := tb }.f.A { (⟨1 + 1, -1, false, false, s2, 0, 0, t2, 0, 0, 0⟩ : En) with f := sb', g := tb }.f.n { (⟨1 + 1, -1, false, false, s2, 0, 0, t2, 0, 0, 0⟩ : En) with f := sb', g := tb }.f.c, .int .i64 { (⟨1 + 1, -1, false, false, s2, 0, 0, t2, 0, 0, 0⟩ : En) with f := sb', g := tb }.tick, .int .i64 { (⟨1 + 1, -1, false, false, s2, 0, 0, t2, 0, 0, 0⟩ : En) with f := sb', g := tb }.port, .slice { (⟨1 + 1, -1, false, false, s2, 0, 0, t2, 0, 0, 0⟩ : En) with f := sb', g := tb }.g.A { (⟨1 + 1, -1, false, false, s2, 0, 0, t2, 0, 0, 0⟩ : En) with f := sb', g := tb }.g.n { (⟨1 + 1, -1, false, false, s2, 0, 0, t2, 0, 0, 0⟩ : En) with f := sb', g := tb }.g.c, .int .i64 { (⟨1 + 1, -1, false, false, s2, 0, 0, t2, 0, 0, 0⟩ : En) with f := sb', g := tb }.err, .int .i64 { (⟨1 + 1, -1, false, false, s2, 0, 0, t2, 0, 0, 0⟩ : En) with f := sb', g := tb }.proto, .int .i64 { (⟨1 + 1, -1, false, false, s2, 0, 0, t2, 0, 0, 0⟩ : En) with f := sb', g := tb }.pt] : List Value)[j]? = some u → w'.cell? ⟨g, 11 + j, none⟩ = some u := fun w' ⟨t, ht⟩ j u hu => ht ▸ ((t.h.cell (p := ⟨g, 11 + j, none⟩) hg2).trans (by have := own.at_ En.cs_len x1 hu; simpa using this))
  have y2 : ∀ w', (∃ t : Tw (Up w6), w' = t.w) → ∀ j u, ([.int .i64 { (⟨1 + 1 + 1 + 1, -1, false, false, s4, 0, 0, t4, 0, 0, 0⟩ : En) with f := sc, g := tc }.b, .int .i64 { (⟨1 + 1 + 1 + 1, -1, false, false, s4, 0, 0, t4, 0, 0, 0⟩ : En) with f := sc, g := tc }.e, .bool { (⟨1 + 1 + 1 + 1, -1, false, false, s4, 0, 0, t4, 0, 0, 0⟩ : En) with f := sc, g := tc }.ends, .bool { (⟨1 + 1 + 1 + 1, -1, false, false, s4, 0, 0, t4, 0, 0, 0⟩ : En) with f := sc, g := tc }.out, .slice { (⟨1 + 1 + 1 + 1, -1, false, false, s4, 0, 0, t4, 0, 0, 0⟩ : En) with f := sc, g := tc }.f.A { (⟨1 + 1 + 1 + 1, -1, false, false, s4, 0, 0, t4, 0, 0, 0⟩ : En) with f := sc, g := tc }.f.n { (⟨1 + 1 + 1 + 1, -1, false, false, s4, 0, 0, t4, 0, 0, 0⟩ : En) with f := sc, g := tc }.f.c, .int .i64 { (⟨1 + 1 + 1 + 1, -1, false, false, s4, 0, 0, t4, 0, 0, 0⟩ : En) with f := sc, g := tc }.tick, .int .i64 { (⟨1 + 1 + 1 + 1, -1, false, false, s4, 0, 0, t4, 0, 0, 0⟩ : En) with f := sc, g := tc }.port, .slice { (⟨1 + 1 + 1 + 1, -1, false, false, s4, 0, 0, t4, 0, 0, 0⟩ : En) with f := sc, g := tc }.g.A { (⟨1 + 1 + 1 + 1, -1, false, false, s4, 0, 0, t4, 0, 0, 0⟩ : En) with f := sc, g := tc }.g.n { (⟨1 + 1 + 1 + 1, -1, false, false, s4, 0, 0, t4, 0, 0, 0⟩ : En) with f := sc, g := tc }.g.c, .int .i64 { (⟨1 + 1 + 1 + 1, -1, false, false, s4, 0, 0, t4, 0, 0, 0⟩ : En) with f := sc, g := tc }.err, .int .i64 { (⟨1 + 1 + 1 + 1, -1, false, false, s4, 0, 0, t4, 0, 0, 0⟩ : En) with f := sc, g := tc }.proto, .int .i64 { (⟨1 + 1 + 1 + 1, -1, false, false, s4, 0, 0, t4, 0, 0, 0⟩ : En) with f := sc, g := tc }.pt] : List Value)[j]? = some u → w'.cell? ⟨g, 22 + j, none⟩ = some u := fun w' ⟨t, ht⟩ j u hu => ht ▸ ((t.h.cell (p := ⟨g, 22 + j, none⟩) hg2).trans (by have := own.at_ En.cs_len x2 hu; simpa using this))
  have kn := fun t : Tw (Up w6) => hNow_any gh gh _ v5 _ t.w (hM5.bel t.h)
  have ka1 := fun t : Tw (Up w6) => Ahead_any { endE ⟨1, -1, false, false, s1, 0, 0, t1, 0, 0, 0⟩ (1 + 1 + 1) 0 t3 with f := sa, g := ta } { (⟨1 + 1 + 1 + 1, -1, false, false, s4, 0, 0, t4, 0, 0, 0⟩ : En) with f := sc, g := tc } t.w
  have ka2 := fun t : Tw (Up w6) => Ahead_any { endE ⟨1, -1, false, false, s1, 0, 0, t1, 0, 0, 0⟩ (1 + 1 + 1) 0 t3 with f := sa, g := ta } { (⟨1 + 1, -1, false, false, s2, 0, 0, t2, 0, 0, 0⟩ : En) with f := sb', g := tb } t.w
  simp only [endE, aheadB] at ka1 ka2 y0 y1 y2
  have zz := Up.one w6
  clear own x0 x1 x2 hrd hM5 hl' hl3
  replace kn := Lib.hid kn
  replace ka1 := Lib.hid ka1
  replace ka2 := Lib.hid ka2
  replace y0 := Lib.hid y0
  replace y1 := Lib.hid y1
  replace y2 := Lib.hid y2
  go_upto_region 6 with fail
  refine region_tw (Up w6) (by kernel_rfl) (by kernel_rfl) (Up.rfl_ w6).drew ?_
  unfold clsS
  repeat (first
    | go_big_quiet_skip
    | (go_big_quiet_want; go_big_quiet_op; first | go_big_quiet_on | go_big_quiet_call ((go_at_call 17; exact q_tw_same (kn.out _)))))
  go_big_quiet_want
  refine quiet_ldAt rfl rfl y0.out Try.underlying31 en_size ?_
  go_simp
  go_big_quiet_on
  repeat (first
    | go_big_quiet_skip
    | (go_big_quiet_want; go_big_quiet_op; first | go_big_quiet_on | go_big_quiet_call (fail)))
  go_big_quiet_want
  refine quiet_ldAt rfl rfl y2.out Try.underlying31 en_size ?_
  go_simp
  go_big_quiet_on
  repeat (first
    | go_big_quiet_skip
    | (go_big_quiet_want; go_big_quiet_op; first | go_big_quiet_on | go_big_quiet_call (exact q_tw (Nat.le_refl _) (ka1.out _))))
  go_big_quiet_want
  refine quiet_ldAt rfl rfl y0.out Try.underlying31 en_size ?_
  go_simp
  go_big_quiet_on
  repeat (first
    | go_big_quiet_skip
    | (go_big_quiet_want; go_big_quiet_op; first | go_big_quiet_on | go_big_quiet_call (fail)))
  go_big_quiet_want
  refine quiet_ldAt rfl rfl y1.out Try.underlying31 en_size ?_
  go_simp
  go_big_quiet_on
  repeat (first
    | go_big_quiet_skip
    | (go_big_quiet_want; go_big_quiet_op; first | go_big_quiet_on | go_big_quiet_call (exact q_tw (Nat.le_refl _) (ka2.out _))))
  refine wpQuiet_nil ?_
  intro tq
  go_wp2
  go_ret
  have hb6 : gh ≤ w6.heap.size := by have := bel.size; have := hgh.out; omega
  have hend := bel.trans (tq.h.mono hb6)
  rw [← hgh.out] at hend
  exact ⟨rfl, hend⟩
end Go.Proofs.Ytjaacmecniijgaa
