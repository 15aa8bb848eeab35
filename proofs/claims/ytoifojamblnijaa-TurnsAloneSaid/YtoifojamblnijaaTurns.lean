/- The walks of package turns: a worker's step. -/
import Derived.Test.YtoifojamblnijaaTurnsPlain
import Derived.Test.YtoifojamblnijaaPlan
import Derived.Deep.DeepCutAuto
namespace Go.Proofs.Ytoifojamblnijaa
set_option linter.unusedVariables false
set_option linter.unusedSimpArgs false
open Go.RowKit
/-- a program in memory -/
def PrgAt (w : World) (A : Option Addr) (n : Nat) (ops : List TOp) : Prop :=
  ops.length = n ∧ (∀ x ∈ ops, x.ok) ∧ (0 < n → ∃ b o cs, A = some ⟨b, o, none⟩ ∧ Blk w b 27 cs ∧ ∀ (j : Nat) x, ops[j]? = some x → ∀ (f : Nat) u, x.cs[f]? = some u → cs[o + j * 5 + f]? = some u)
theorem PrgAt.upd {S : Nat → Prop} {w w' : World} {A : Option Addr} {n : Nat} {ops : List TOp} (h : PrgAt w A n ops) (hu : Upd S w w') (hS : ∀ b cs, Blk w b 27 cs → ¬ S b) : PrgAt w' A n ops := by
  refine ⟨h.1, h.2.1, fun h0 => ?_⟩
  obtain ⟨b, o, cs, rfl, hb, hc⟩ := h.2.2 h0
  exact ⟨b, o, cs, rfl, hb.upd hu (hS b cs hb), hc⟩
theorem PrgAt.bel {w w' : World} {A : Option Addr} {n : Nat} {ops : List TOp} (h : PrgAt w A n ops) (hb : Below w.heap.size w w') : PrgAt w' A n ops :=
  h.upd (Upd.of_below hb (fun _ => False)) (fun _ _ _ => id)
/-- a worker in memory -/
structure WkAt (w : World) (b : Nat) (k : Wk) : Prop where
  obj : ∃ A cap, k.prog.length ≤ cap ∧ cap ≤ maxLen ∧ Blk w b 78 #[.slice A k.prog.length cap, .int .i64 k.pos, .int .u64 k.kept] ∧ PrgAt w A k.prog.length k.prog
  pos : k.pos ≤ k.prog.length
  kept : 0 ≤ k.kept ∧ k.kept ≤ 18446744073709551615
set_option maxHeartbeats 400000 in
theorem step_no (b : Nat) (k : Wk) (C : Option Addr) (w : World) (hw : WkAt w b k) (hk : k.pos = k.prog.length) :
    Calls Try.prog 21 #[.pointer (some ⟨b, 0, none⟩), .pointer C] w fun e w' => e = .returned (.tuple #[.int .u64 0, .bool false]) ∧ Below w.heap.size w w' := by
  obtain ⟨A, cap, hc1, hc2, bw, hp⟩ := hw.obj
  have z0 : ∀ t : Tw (fun w' => Below w.heap.size w w'), t.w.cell? ⟨b, 0, none⟩ = some (.slice A k.prog.length cap) := fun t => bw.tw bw.lt t 0
  have z1 : ∀ t : Tw (fun w' => Below w.heap.size w w'), t.w.cell? ⟨b, 1, none⟩ = some (.int .i64 k.prog.length) := fun t => by rw [← hk]; exact bw.tw bw.lt t 1
  have : Nonempty (Tw (fun w' => Below w.heap.size w w')) := ⟨⟨w, Below.refl _ _⟩⟩
  clear hw bw hp hk
  generalize k.prog.length = n at *
  have hd : decide (n ≤ n) = true := by simp
  go_enter Try.func21, Try.ntmps21
  go_wp2_with fail
  refine region_tw (fun w' => Below (w).heap.size (w) w') (by kernel_rfl) (by kernel_rfl) (Below.refl _ _).drew ?_
  unfold clsS
  repeat (first
    | go_big_quiet_skip
    | (go_big_quiet_want; go_big_quiet_op; first | go_big_quiet_on | go_big_quiet_call (
      (first  | (fail)))))
  refine wpQuiet_nil ?_
  intro tq
  go_wp2_with fail
  go_ret2
  exact ⟨rfl, tq.h⟩
/-- a box of an operation: its blocks -/
structure StpS (w : World) (b pb : Nat) (cw cp : Array Value) (W : World) : Prop where
  bw : Blk W b 78 cw
  bp : Blk W pb 27 cp
  bel : Below w.heap.size w W
structure StpC (w W : World) (b g h x pb po n cap i : Nat) (kp : Int) (l : List Int) (o : TOp) : Prop where
  bx : Blk W x 27 #[.int .i64 o.kind, .int .i64 o.cell, .int .u64 (o.arg kp), .int .u64 o.b, .bool o.kept]
  bw : Blk W b 78 #[.slice (some ⟨pb, po, none⟩) n cap, .int .i64 ((i : Int) + 1), .int .u64 kp]
  hc : Cel W g h l
  hu : Upd (fun y => y = b ∨ y = h) w W
set_option maxRecDepth 100000 in
set_option maxHeartbeats 1000000 in
theorem step_yes (b g h : Nat) (k : Wk) (l : List Int) (o : TOp) (w : World) (hw : WkAt w b k) (hc : Cel w g h l) (hl : l.length ≤ 65536) (ho : k.prog[k.pos]? = some o) :
    Calls Try.prog 21 #[.pointer (some ⟨b, 0, none⟩), .pointer (some ⟨g, 0, none⟩)] w fun e w' => e = .returned (.tuple #[.int .u64 (o.got k.kept l), .bool true]) ∧
      WkAt w' b ⟨k.prog, k.pos + 1, o.keep k.kept l⟩ ∧ Cel w' g h (o.put k.kept l) ∧ Upd (fun x => x = b ∨ x = h) w w' := by
  obtain ⟨A, cap, hc1, hc2, bw, hp⟩ := hw.obj
  have bpw := bw
  have hcw := hc
  have hlt : k.pos < k.prog.length := (List.getElem?_eq_some_iff.1 ho).1
  obtain ⟨pb, po, cs, rfl, bp, hcs⟩ := hp.2.2 (by omega)
  have ho0 := hcs _ _ ho 0 _ rfl
  have ho1 := hcs _ _ ho 1 _ rfl
  have ho2 := hcs _ _ ho 2 _ rfl
  have ho3 := hcs _ _ ho 3 _ rfl
  have ho4 := hcs _ _ ho 4 _ rfl
  have hok := hp.2.1 o (List.mem_of_getElem? ho)
  clear hcs
  generalize hn : k.prog.length = n at *
  replace hn := Lib.hid hn
  have hlt' := hlt
  have hd : decide (n ≤ k.pos) = false := by simp; omega
  generalize hpos : k.pos = i at *
  replace hpos := Lib.hid hpos
  have hkpr : inr .u64 k.kept := u64_inr hw.kept
  generalize hkp : k.kept = kp at *
  replace hkp := Lib.hid hkp
  have z0 : ∀ t : Tw (fun w' => Below w.heap.size w w'), t.w.cell? ⟨b, 0, none⟩ = some (.slice (some ⟨pb, po, none⟩) n cap) := fun t => bw.tw bw.lt t 0
  have z1 : ∀ t : Tw (fun w' => Below w.heap.size w w'), t.w.cell? ⟨b, 1, none⟩ = some (.int .i64 i) := fun t => bw.tw bw.lt t 1
  have : Nonempty (Tw (fun w' => Below w.heap.size w w')) := ⟨⟨w, Below.refl _ _⟩⟩
  go_enter Try.func21, Try.ntmps21
  go_wp2_with fail
  refine region_tw (fun w' => Below (w).heap.size (w) w') (by kernel_rfl) (by kernel_rfl) (Below.refl _ _).drew ?_
  unfold clsS
  repeat (first
    | go_big_quiet_skip
    | (go_big_quiet_want; go_big_quiet_op; first | go_big_quiet_on | go_big_quiet_call (
      (first  | (fail)))))
  refine wpQuiet_nil ?_
  intro tq
  have hb := tq.h
  generalize tq.w = w1 at *
  clear z0 z1 this tq
  go_wp2_with fail
  replace bw := bw.bel hb
  replace bp := bp.bel hb
  replace hc := hc.bel hb
  have hpb : pb ≠ b := bp.ne_ bw (by decide)
  have hhb : h ≠ b := hc.row.ne_ bw (by decide)
  have hgb : g ≠ b := by obtain ⟨_, _, _, hx⟩ := hc.obj; exact hx.ne_ bw (by decide)
  have hph : pb ≠ h := bp.ne_ hc.row (by decide)
  have hpg : pb ≠ g := by obtain ⟨_, _, _, hx⟩ := hc.obj; exact bp.ne_ hx (by decide)
  have z0 : ∀ t : Tw (fun W => Blk W b 78 #[.slice (some ⟨pb, po, none⟩) n cap, .int .i64 i, .int .u64 kp] ∧ Blk W pb 27 cs), t.w.cell? ⟨b, 0, none⟩ = some (.slice (some ⟨pb, po, none⟩) n cap) := fun t => t.h.1.cell 0
  have z1 : ∀ t : Tw (fun W => Blk W b 78 #[.slice (some ⟨pb, po, none⟩) n cap, .int .i64 i, .int .u64 kp] ∧ Blk W pb 27 cs), t.w.cell? ⟨b, 1, none⟩ = some (.int .i64 i) := fun t => t.h.1.cell 1
  have y0 : ∀ t : Tw (fun W => Blk W b 78 #[.slice (some ⟨pb, po, none⟩) n cap, .int .i64 i, .int .u64 kp] ∧ Blk W pb 27 cs), t.w.cell? ⟨pb, po + i * 5, none⟩ = some (.int .i64 o.kind) := fun t => (t.h.2.cell _).trans ho0
  have y1 : ∀ t : Tw (fun W => Blk W b 78 #[.slice (some ⟨pb, po, none⟩) n cap, .int .i64 i, .int .u64 kp] ∧ Blk W pb 27 cs), t.w.cell? ⟨pb, po + i * 5 + 1, none⟩ = some (.int .i64 o.cell) := fun t => (t.h.2.cell _).trans ho1
  have y2 : ∀ t : Tw (fun W => Blk W b 78 #[.slice (some ⟨pb, po, none⟩) n cap, .int .i64 i, .int .u64 kp] ∧ Blk W pb 27 cs), t.w.cell? ⟨pb, po + i * 5 + 2, none⟩ = some (.int .u64 o.a) := fun t => (t.h.2.cell _).trans ho2
  have y3 : ∀ t : Tw (fun W => Blk W b 78 #[.slice (some ⟨pb, po, none⟩) n cap, .int .i64 i, .int .u64 kp] ∧ Blk W pb 27 cs), t.w.cell? ⟨pb, po + i * 5 + 3, none⟩ = some (.int .u64 o.b) := fun t => (t.h.2.cell _).trans ho3
  have y4 : ∀ t : Tw (fun W => Blk W b 78 #[.slice (some ⟨pb, po, none⟩) n cap, .int .i64 i, .int .u64 kp] ∧ Blk W pb 27 cs), t.w.cell? ⟨pb, po + i * 5 + 4, none⟩ = some (.bool o.kept) := fun t => (t.h.2.cell _).trans ho4
  have : Nonempty (Tw (fun W => Blk W b 78 #[.slice (some ⟨pb, po, none⟩) n cap, .int .i64 i, .int .u64 kp] ∧ Blk W pb 27 cs)) := ⟨⟨w1, bw, bp⟩⟩
  refine wp_region_plan (fun W => Blk W b 78 #[.slice (some ⟨pb, po, none⟩) n cap, .int .i64 i, .int .u64 kp] ∧ Blk W pb 27 cs) [(0, true), (1, true), (2, true), (3, true), (4, true), (5, true), (6, true), (7, true), (8, true), (9, true), (10, false), (11, false)] (by kernel_rfl) (by kernel_rfl) (by kernel_rfl) (by kernel_rfl) ⟨bw.drew, bp.drew⟩ ?_
  refine wpPl_qs 10 _ _ _ (by kernel_rfl) (by kernel_rfl) (by simp) ?_
  unfold clsS
  simp only [List.take_succ_cons, List.take_zero, List.drop_succ_cons, List.drop_zero, List.filterMap_cons, List.filterMap_nil, List.getElem?_toArray, List.getElem?_cons_zero, List.getElem?_cons_succ]
  repeat (first
    | go_big_quiet_skip
    | (go_big_quiet_want; go_big_quiet_op; go_big_quiet_on)
    | (refine id (?_ : wpQuiet _ _ _ _ (_ :: _) _); first | go_big_quiet_skip | (go_big_quiet_want; go_big_quiet_op; go_big_quiet_on)))
  refine wpQuiet_nil ?_
  refine wpPl_e _ (by rfl) (by kernel_rfl) (fun K hK => ?_)
  go_simp
  have bx : Blk (w1.alloc (.cells #[.int .i64 0, .int .i64 0, .int .u64 0, .int .u64 0, .bool false] 27)).drew w1.heap.size 27 #[.int .i64 0, .int .i64 0, .int .u64 0, .int .u64 0, .bool false] := (Blk.new w1 _ _).drew
  have hxb : b ≠ w1.heap.size := by have := bw.lt; omega
  have hxp : pb ≠ w1.heap.size := by have := bp.lt; omega
  have hxh : h ≠ w1.heap.size := by have := hc.row.lt; omega
  have hxg : g ≠ w1.heap.size := by obtain ⟨_, _, _, hx⟩ := hc.obj; have := hx.lt; omega
  have hbl : Below w.heap.size w ((w1.alloc (.cells #[.int .i64 0, .int .i64 0, .int .u64 0, .int .u64 0, .bool false] 27)).drew) := (bel_after hb (bel_alloc _ _)).drew
  have hc2' : Cel ((w1.alloc (.cells #[.int .i64 0, .int .i64 0, .int .u64 0, .int .u64 0, .bool false] 27)).drew) g h l := (hc.alloc _).drew
  have bw2 : Blk ((w1.alloc (.cells #[.int .i64 0, .int .i64 0, .int .u64 0, .int .u64 0, .bool false] 27)).drew) b 78 #[.slice (some ⟨pb, po, none⟩) n cap, .int .i64 i, .int .u64 kp] := (bw.alloc _).drew
  have bp2 : Blk ((w1.alloc (.cells #[.int .i64 0, .int .i64 0, .int .u64 0, .int .u64 0, .bool false] 27)).drew) pb 27 cs := (bp.alloc _).drew
  have hwx : w.heap.size ≤ w1.heap.size := hb.size
  refine hK _ _ ⟨bw2, bp2⟩ ?_
  clear hK K bw bp hc hb
  generalize w1.heap.size = x at *
  generalize (w1.alloc (.cells #[.int .i64 0, .int .i64 0, .int .u64 0, .int .u64 0, .bool false] 27)).drew = W2 at *
  refine wpPl_e _ (by rfl) (by kernel_rfl) (fun K hK => ?_)
  refine wp_store_row 27 _ _ (by rfl) x #[.int .i64 o.kind, .int .i64 o.cell, .int .u64 o.a, .int .u64 o.b, .bool o.kept] (by rfl) (by rfl) 27 _ bx (by kernel_rfl) (by rfl) (by simp [Value.oneCell']) ?_
  have bx3 : Blk (W2.setRow x #[.int .i64 o.kind, .int .i64 o.cell, .int .u64 o.a, .int .u64 o.b, .bool o.kept]) x 27 #[.int .i64 o.kind, .int .i64 o.cell, .int .u64 o.a, .int .u64 o.b, .bool o.kept] := setRow_heap W2 x _ _ _ _ bx
  have up3 : Upd (· = x) W2 (W2.setRow x #[.int .i64 o.kind, .int .i64 o.cell, .int .u64 o.a, .int .u64 o.b, .bool o.kept]) := ⟨rfl, rfl, rfl, by simp [World.setRow], fun j _ hj => setRow_other _ _ _ _ hj⟩
  replace hc := hc2'.upd up3 hxg hxh
  replace bw := bw2.upd up3 hxb
  replace bp := bp2.upd up3 hxp
  replace hb : Below w.heap.size w (W2.setRow x #[.int .i64 o.kind, .int .i64 o.cell, .int .u64 o.a, .int .u64 o.b, .bool o.kept]) := hbl.trans (up3.below hbl.size (fun k hk e => by subst e; omega))
  clear bw2 bp2 hc2' hbl up3 bx
  generalize W2.setRow x #[.int .i64 o.kind, .int .i64 o.cell, .int .u64 o.a, .int .u64 o.b, .bool o.kept] = W3 at *
  go_simp
  refine hK _ _ ⟨bw, bp⟩ ?_
  clear hK K
  unfold wpPl
  refine NoPanic.normal ?_
  clear z0 z1 y0 y1 y2 y3 y4 this
  have e1 := bw.cell 1
  have f1 := bw.frozen 1
  have x4 := bx3.cell 4
  have hwr : wrap64 ((i : Int) + 1) = ((i : Int) + 1) := by unfold maxLen at hc2; exact IntWalk.wrap64_in _ (by omega)
  have hfin : ∀ W kept' l', Blk W b 78 #[.slice (some ⟨pb, po, none⟩) n cap, .int .i64 ((i : Int) + 1), .int .u64 kept'] → Cel W g h l' → Upd (fun y => y = b ∨ y = h) w W → inr .u64 kept' → kept' = o.keep kp l → l' = o.put kp l →
      WkAt W b ⟨k.prog, i + 1, o.keep kp l⟩ ∧ Cel W g h (o.put kp l) ∧ Upd (fun x => x = b ∨ x = h) w W := by
    intro W kept' l' h1 h2 h3 h4 h5 h6
    have hn' := hn.out
    subst h5 h6
    refine ⟨⟨⟨some ⟨pb, po, none⟩, cap, by simp only; omega, hc2, ?_, ?_⟩, by simp only; omega, inr_u64 h4⟩, h2, h3⟩
    · simp only [hn']; exact h1
    · simp only [hn']
      exact hp.upd h3 (fun b' cs' hb' e => by
        have hb2 := h3
        rcases e with e | e
        · subst e; exact absurd (bpw.ne_ hb' (by decide)) (by simp)
        · subst e; exact absurd (hcw.row.ne_ hb' (by decide)) (by simp))
  replace hfin := Lib.hid hfin
  clear hp
  go_upto_if 36 with fail
  have bw4 : Blk (W3.setCell ⟨b, 1, none⟩ (.int .i64 ((i : Int) + 1))) b 78 #[.slice (some ⟨pb, po, none⟩) n cap, .int .i64 ((i : Int) + 1), .int .u64 kp] := bw.set_ 1 _
  have bx4 : Blk (W3.setCell ⟨b, 1, none⟩ (.int .i64 ((i : Int) + 1))) x 27 #[.int .i64 o.kind, .int .i64 o.cell, .int .u64 o.a, .int .u64 o.b, .bool o.kept] := bx3.far (Ne.symm hxb) _
  have up4 := Upd.one W3 b 1 (.int .i64 ((i : Int) + 1))
  have hc4 := Cel.upd (S := (· = b)) hc up4 hgb hhb
  have hu4 : Upd (fun y => y = b ∨ y = h) w (W3.setCell ⟨b, 1, none⟩ (.int .i64 ((i : Int) + 1))) := (Upd.of_below hb _).trans (up4.mono fun k _ e => .inl e)
  clear up4 bw bp bx3 hc hb e1 f1 x4 ho0 ho1 ho2 ho3 ho4
  generalize W3.setCell ⟨b, 1, none⟩ (.int .i64 ((i : Int) + 1)) = W4 at *
  go_cut [] (fun W => StpC w W b g h x pb po n cap i kp l o)
  case first =>
    have e2 := bw4.cell 2
    have f2 := bx4.frozen 2
    have x2 := bx4.cell 2
    cases hkept : o.kept with
    | false =>
      go_wp2_with fail
      go_meet
      exact ⟨by unfold TOp.arg; rw [if_neg (by simp [hkept])]; rw [hkept] at bx4 ⊢; exact bx4, bw4, hc4, hu4⟩
    | true =>
      go_wp2_with fail
      go_meet
      have up5 := Upd.one W4 x 2 (.int .u64 kp)
      exact ⟨by unfold TOp.arg; rw [if_pos (by simp [hkept])]; rw [hkept] at bx4 ⊢; exact bx4.set_ 2 _, Blk.upd (S := (· = x)) bw4 up5 hxb, Cel.upd (S := (· = x)) hc4 up5 hxg hxh, hu4.setCell (fun hh => by simp only at hh; omega) _⟩
  case rest =>
    clear bw4 bx4 hc4 hu4
    obtain ⟨bx, bw, hc, hu⟩ := hcut
    have x0 := bx.cell 0
    have x1 := bx.cell 1
    have x2 := bx.cell 2
    have x3 := bx.cell 3
    have e2 := bw.cell 2
    have f2 := bw.frozen 2
    have hin : Below w.heap.size w w → True := fun _ => trivial
    clear hin
    have harg : inr .u64 (o.arg kp) := by unfold TOp.arg; split; exact hkpr; exact u64_inr hok.1
    have hob : inr .u64 o.b := u64_inr hok.2
    obtain ⟨K1, hK1⟩ : ∃ K1, K1 = o.arg kp := ⟨_, rfl⟩
    rw [← hK1] at x2 bx harg
    obtain ⟨K0, hK0⟩ : ∃ y, y = o.kind := ⟨_, rfl⟩
    rw [← hK0] at x0
    replace hK0 := Lib.hid hK0
    replace hK1 := Lib.hid hK1
    by_cases k0 : K0 = 0
    · subst k0
      go_wp2_with fail
      refine (Load_any _ _ _ _ _ hc hl).mono ?_
      rintro e w' ⟨rfl, rfl⟩
      go_wp2_with fail
      go_ret2
      obtain ⟨g1, g2, g3⟩ := TOp.load hK0.out.symm kp l
      exact ⟨by rw [g1]; rfl, hfin.out _ _ _ (bw.set_ 2 _) (Cel.upd (S := (· = b)) hc (Upd.one _ _ _ _) hgb hhb) (hu.setCell (fun _ => .inl rfl) _) (u64_inr (celRng hc _)) g2.symm g3.symm⟩
    · have d0 : decide (K0 = 0) = false := by simpa using k0
      by_cases k1 : K0 = 1
      · subst k1
        go_wp2_with fail
        refine (Store_any _ _ _ _ _ _ hc hl harg).mono ?_
        rintro e w5 ⟨rfl, hc5, hu5⟩
        go_wp2_with fail
        go_ret2
        obtain ⟨g1, g2, g3⟩ := TOp.store hK0.out.symm kp l
        rw [← hK1.out] at g3
        exact ⟨by rw [g1]; rfl, hfin.out _ _ _ (bw.upd hu5 (Ne.symm hhb)) hc5 (hu.trans (hu5.mono fun k _ e => .inr e)) hkpr g2.symm g3.symm⟩
      · by_cases k2 : K0 = 2
        · subst k2
          go_wp2_with fail
          refine (Cas_any _ _ _ _ _ _ _ hc hl hob).mono ?_
          intro e w5
          rintro ⟨rfl, hc5, hu5⟩
          obtain ⟨g1, g2, g3⟩ := TOp.cas hK0.out.symm kp l
          rw [← hK1.out] at g1 g3
          by_cases hw : inl l o.cell ∧ celAt l o.cell = K1
          · rw [if_pos hw] at g1 g3
            rw [if_pos ⟨hw.1.1, hw.1.2, hw.2⟩] at hc5
            rw [decide_eq_true (show 0 ≤ o.cell ∧ o.cell < l.length ∧ celAt l o.cell = K1 from ⟨hw.1.1, hw.1.2, hw.2⟩)]
            replace g1 := Lib.hid g1
            replace g2 := Lib.hid g2
            replace g3 := Lib.hid g3
            go_wp2_with fail
            go_ret2
            exact ⟨by rw [g1.out]; rfl, hfin.out _ _ _ (bw.upd hu5 (Ne.symm hhb)) hc5 (hu.trans (hu5.mono fun k _ e => .inr e)) hkpr g2.out.symm g3.out.symm⟩
          · rw [if_neg hw] at g1 g3
            rw [if_neg (fun hh => hw ⟨⟨hh.1, hh.2.1⟩, hh.2.2⟩)] at hc5
            rw [decide_eq_false (show ¬ (0 ≤ o.cell ∧ o.cell < l.length ∧ celAt l o.cell = K1) from fun hh => hw ⟨⟨hh.1, hh.2.1⟩, hh.2.2⟩)]
            replace g1 := Lib.hid g1
            replace g2 := Lib.hid g2
            replace g3 := Lib.hid g3
            go_wp2_with fail
            go_ret2
            exact ⟨by rw [g1.out]; rfl, hfin.out _ _ _ (bw.upd hu5 (Ne.symm hhb)) hc5 (hu.trans (hu5.mono fun k _ e => .inr e)) hkpr g2.out.symm g3.out.symm⟩
        · by_cases k3 : K0 = 3
          · subst k3
            go_wp2_with fail
            refine (Add_any _ _ _ _ _ _ hc hl).mono ?_
            rintro e w5 ⟨he, hc5, hu5⟩
            obtain ⟨g1, g2, g3⟩ := TOp.add hK0.out.symm kp l
            rw [← hK1.out] at g1 g3
            have he2 : e = .returned (.int .u64 (o.got kp l)) := by rw [he, g1]; rfl
            clear he g1
            obtain ⟨G, hG⟩ : ∃ G, G = o.got kp l := ⟨_, rfl⟩
            rw [← hG] at he2
            replace hG := Lib.hid hG
            replace g2 := Lib.hid g2
            replace g3 := Lib.hid g3
            subst he2
            go_wp2_with fail
            go_ret2
            exact ⟨by rw [hG.out]; rfl, hfin.out _ _ _ (bw.upd hu5 (Ne.symm hhb)) hc5 (hu.trans (hu5.mono fun k _ e => .inr e)) hkpr g2.out.symm g3.out.symm⟩
          · go_wp2_with fail
            go_ret2
            have ho0 := hK0.out
            obtain ⟨g1, g2, g3⟩ := TOp.none (o := o) (by rw [← ho0]; exact k0) (by rw [← ho0]; exact k1) (by rw [← ho0]; exact k2) (by rw [← ho0]; exact k3) kp l
            exact ⟨by rw [g1]; rfl, hfin.out _ _ _ bw hc hu hkpr g2.symm g3.symm⟩
end Go.Proofs.Ytoifojamblnijaa
