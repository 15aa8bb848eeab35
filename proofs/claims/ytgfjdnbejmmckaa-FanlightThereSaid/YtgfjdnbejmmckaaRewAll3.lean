import Derived.Test.YtgfjdnbejmmckaaRewAll1
import Derived.Test.YtgfjdnbejmmckaaBytes
import Derived.Lib.LazyBuf
import Derived.Test.YtgfjdnbejmmckaaPlan
import Derived.Test.YtgfjdnbejmmckaaPart9
import Derived.Test.YtgfjdnbejmmckaaRewAll2
import Derived.Test.YtgfjdnbejmmckaaPart25
namespace Go.Proofs.Ytgfjdnbejmmckaa
set_option linter.unusedVariables false
set_option linter.unusedSimpArgs false
open Go.RowKit
/- bytes.Clone of a row that isn't nil. -/
set_option maxRecDepth 100000 in
set_option maxHeartbeats 1000000 in
theorem Clone_any (l : List Int) (b o len c B : Nat) (w : World) (hr : Rd .u8 w B (some ⟨b, o, none⟩) len l) (hB : B ≤ w.heap.size) (hl : len ≤ 60000) :
    Calls Try.prog 28 #[.slice (some ⟨b, o, none⟩) len c] w fun e w' => ∃ v', e = .returned v' ∧ Own .u8 5 w' w.heap.size v' l ∧ Below w.heap.size w w' := by
  obtain ⟨i0, hi, hz0, hz1, hz2⟩ := info_parts info_u8_
  have own0 := Own.new .u8 w 5 w.heap.size (Nat.le_refl _) [] (by simp) #[] rfl 0 rfl (by simp)
  have hr2 := (hr.alloc hB (.cells #[] 5))
  have bel0 := bel_alloc w (.cells #[] 5)
  have hnil := run_eql_slice_nil (P := Try.prog) w 24 5 (some ⟨b, o, none⟩) len c Try.underlying24
  go_enter Try.func28, Try.ntmps28
  go_wp2_with (at_builtin; refine wpList_app _ rfl (.tmp 5) (.tmp 6) 24 rfl .u8 w.heap.size 5 i0 (.int .u8 0) 1 Try.underlying24 hi hz0 hz1 hz2 rfl (.slice (some ⟨w.heap.size, 0, none⟩) 0 0) rfl [] own0 B _ _ _ rfl l hr2 (by simp; omega) (by decide) (by simp) ?_; intro v1 w1 own1 hg1 hv1; rw [List.nil_append] at own1; have bel1 : Below w.heap.size w w1 := bel0.grown hg1 (by simp) (fun k h => by simp [Value.ownBlock] at h; omega))
  go_ret
  exact ⟨_, rfl, own1, bel1⟩
/- The writer of rewrite: inner. -/
/-- a step of the writer, beside the box of the part -/
structure WBx (W0 W : World) (base gw g n c : Nat) (out : Bool) (X : List Int) (pv : Array Value) : Prop where
  wr : Wr W base gw g n c out X
  bx : Blk W W0.heap.size 39 pv
  up : Upd (fun k => k = g) W0 W
  lt : g < W0.heap.size ∧ gw < W0.heap.size
theorem WBx.step {W0 W w' : World} {base gw g n c : Nat} {out : Bool} {X Y : List Int} {pv : Array Value} (h : WBx W0 W base gw g n c out X pv) (h1 : Wr w' base gw g n c out Y) (h2 : Upd (fun k => k = g) W w') : WBx W0 w' base gw g n c out Y pv :=
  ⟨h1, h.bx.upd h2 (by have := h.lt; omega), h.up.trans (h2.mono (fun _ _ h => h)), h.lt⟩
theorem WBx.drew {W0 W : World} {base gw g n c : Nat} {out : Bool} {X : List Int} {pv : Array Value} (h : WBx W0 W base gw g n c out X pv) : WBx W0 W.drew base gw g n c out X pv :=
  ⟨⟨h.wr.1.drew, h.wr.2.1.drew, h.wr.2.2⟩, h.bx.drew, h.up.drew, h.lt⟩
set_option maxRecDepth 100000 in
set_option maxHeartbeats 4000000 in
theorem winner_any (base gw g n c : Nat) (out : Bool) (X : List Int) (pa isz size : Nat) (pr sr ds fl ki co i1 i2 ip i4 i5 : Int) (er ba : Bool) (addr port : Int) (W0 : World) (h : Wr W0 base gw g n c out X) (hp : pa + isz + 8 ≤ n) (h20 : 20 ≤ isz) (hs0 : 20 ≤ size) (hs : size + 8 ≤ pa + isz) (hn : n ≤ 10000) (hnc : n ≤ c) (hcm : c ≤ 9223372036854775807) (ha : 0 ≤ addr ∧ addr ≤ 4294967295) (hport : 0 ≤ port ∧ port ≤ 65535) :
    Calls Try.prog 30 #[.pointer (some ⟨gw, 0, none⟩), .agg #[.int .i64 pr, .int .u16 sr, .int .u16 ds, .int .i64 fl, .int .i64 ki, .int .i64 co, .bool er, .int .i64 isz, .int .i64 i1, .int .i64 i2, .int .i64 ip, .int .u32 i4, .int .u32 i5, .int .i64 pa, .bool ba], .int .i64 size, .int .u32 addr, .int .u16 port] W0 (WStep W0 base gw g n c out (innerW X pa isz ip size (!out) addr port) (.tuple #[])) := by
  have hl := h.len
  have hb := addrAt_bd pa (!out)
  have ho := n4_bd h.bd (i := addrAt pa (!out)) (by omega)
  have g1 := fun W' (h' : Wr W' base gw g n c out X) => waddr_any base gw g n c out X pa (!out) addr W' h' (by omega) ha
  unfold innerW
  simp only []
  have hlt : g < W0.heap.size ∧ gw < W0.heap.size := ⟨(h.2.1.lt g rfl).2, h.1.lt⟩
  obtain ⟨q, hq⟩ : ∃ q, pa + isz = q := ⟨_, rfl⟩
  have hqI : (pa : Int) + (isz : Int) = (q : Int) := by omega
  obtain ⟨s2, hs2⟩ : ∃ s, size + 2 = s := ⟨_, rfl⟩
  have hs2I : (size : Int) + 2 = (s2 : Int) := by omega
  rw [hq, hs2]
  have g5 := fun Y W' (h' : Wr W' base gw g n c out Y) => wset_any base gw g n c out Y s2 0 W' h' (by omega) (by omega)
  have g6 := fun Y W' (h' : Wr W' base gw g n c out Y) (v : Int) (hv : 0 ≤ v ∧ v ≤ 65535) => wset_any base gw g n c out Y s2 v W' h' (by omega) hv
  have g7 := fun (Y : List Int) W' (h' : Wr W' base gw g n c out Y) => Of_any (Y.drop size) (some ⟨g, size, none⟩) (n - size) (c - size) _ W' (by omega) (by
    have := (h'.2.1.rd h'.2.2.1).drop (m := size) (cap := c) (by omega) (by omega)
    rw [if_neg (by omega)] at this
    simpa [Addr.add, show size ≠ 0 by omega] using this)
  have hcs : ((c : Int) = (size : Int)) = False := eq_false (by omega)
  have hcs2 : (c = size) = False := eq_false (by omega)
  have hc0 : (0 : Int) ≤ (size : Int) := by omega
  have hc1 : (size : Int) ≤ (n : Int) := by omega
  have hc2 : (n : Int) - (size : Int) = ((n - size : Nat) : Int) := by omega
  have hbd : ∀ Y : List Int, (∀ x, x ∈ Y → 0 ≤ x ∧ x ≤ 255) → 0 ≤ sumOf (Y.drop size) ∧ sumOf (Y.drop size) ≤ 65535 := fun Y hY => sumOf_bd (fun x hx => hY x (List.mem_of_mem_drop hx))
  generalize addrL X pa (!out) addr = X1 at *
  generalize n4 X (addrAt pa (!out)) = old at *
  replace g1 := Lib.hid g1
  replace g5 := Lib.hid g5
  replace g6 := Lib.hid g6
  replace g7 := Lib.hid g7
  replace hq := Lib.hid hq
  replace hs2 := Lib.hid hs2
  by_cases hip : ip = 1
  · subst hip
    simp only [if_true]
    have g2 := fun W' (h' : Wr W' base gw g n c out X1) => wecho_any base gw g n c out X1 q port W' h' (by omega) hport
    replace g2 := Lib.hid g2
    go_enter Try.func30, Try.ntmps30
    go_upto_region 1 with fail
    have hx : WBx W0 (W0.alloc (.cells #[.int .i64 pr, .int .u16 sr, .int .u16 ds, .int .i64 fl, .int .i64 ki, .int .i64 co, .bool er, .int .i64 isz, .int .i64 i1, .int .i64 i2, .int .i64 1, .int .u32 i4, .int .u32 i5, .int .i64 pa, .bool ba] 39)) base gw g n c out X #[.int .i64 pr, .int .u16 sr, .int .u16 ds, .int .i64 fl, .int .i64 ki, .int .i64 co, .bool er, .int .i64 isz, .int .i64 i1, .int .i64 i2, .int .i64 1, .int .u32 i4, .int .u32 i5, .int .i64 pa, .bool ba] := ⟨h.bel (bel_alloc _ _), Blk.new _ _ _, (Upd.refl _ _).alloc _, hlt⟩
    replace hx := hx.drew
    have z1 : ∀ t : Tw (fun w' => w'.cell? ⟨W0.heap.size, 13, none⟩ = some (.int .i64 pa) ∧ w'.cell? ⟨gw, 1, none⟩ = some (.bool out) ∧ w'.cell? ⟨W0.heap.size, 10, none⟩ = some (.int .i64 1)), t.w.cell? ⟨W0.heap.size, 13, none⟩ = some (.int .i64 pa) := fun t => t.h.1
    have z2 : ∀ t : Tw (fun w' => w'.cell? ⟨W0.heap.size, 13, none⟩ = some (.int .i64 pa) ∧ w'.cell? ⟨gw, 1, none⟩ = some (.bool out) ∧ w'.cell? ⟨W0.heap.size, 10, none⟩ = some (.int .i64 1)), t.w.cell? ⟨gw, 1, none⟩ = some (.bool out) := fun t => t.h.2.1
    have ne : Nonempty (Tw (fun w' => w'.cell? ⟨W0.heap.size, 13, none⟩ = some (.int .i64 pa) ∧ w'.cell? ⟨gw, 1, none⟩ = some (.bool out) ∧ w'.cell? ⟨W0.heap.size, 10, none⟩ = some (.int .i64 1))) := ⟨⟨_, hx.bx.cell 13, hx.wr.1.cell 1, hx.bx.cell 10⟩⟩
    refine wp_region_plan (fun w' => w'.cell? ⟨W0.heap.size, 13, none⟩ = some (.int .i64 pa) ∧ w'.cell? ⟨gw, 1, none⟩ = some (.bool out) ∧ w'.cell? ⟨W0.heap.size, 10, none⟩ = some (.int .i64 1)) [(0, true), (1, true), (2, true), (3, true), (4, true), (5, true), (6, true), (7, true), (8, true), (9, false), (10, true)] (by kernel_rfl) (by kernel_rfl) (by kernel_rfl) (by kernel_rfl) ⟨hx.bx.cell 13, hx.wr.1.cell 1, hx.bx.cell 10⟩ ?_
    generalize (W0.alloc (.cells #[.int .i64 pr, .int .u16 sr, .int .u16 ds, .int .i64 fl, .int .i64 ki, .int .i64 co, .bool er, .int .i64 isz, .int .i64 i1, .int .i64 i2, .int .i64 1, .int .u32 i4, .int .u32 i5, .int .i64 pa, .bool ba] 39)).drew = W1 at *
    refine wpPl_qs 9 _ _ _ (by kernel_rfl) (by kernel_rfl) (by simp) ?_
    unfold clsS
    simp only [List.take_succ_cons, List.take_zero, List.drop_succ_cons, List.drop_zero, List.filterMap_cons, List.filterMap_nil, List.getElem?_toArray, List.getElem?_cons_zero, List.getElem?_cons_succ]
    repeat (first
      | go_big_quiet_skip
      | (go_big_quiet_want; go_big_quiet_op; go_big_quiet_on)
      | (refine id (?_ : wpQuiet _ _ _ _ (_ :: _) _); first | go_big_quiet_skip | (go_big_quiet_want; go_big_quiet_op; go_big_quiet_on)))
    refine wpQuiet_nil ?_
    refine wpPl_e _ (by rfl) (by kernel_rfl) (fun K hK => ?_)
    go_simp
    refine (g1.out _ hx.wr).mono ?_
    rintro e w1 ⟨rfl, h1, u1⟩
    replace hx := hx.step h1 u1
    clear h1 u1
    refine hK _ _ ⟨hx.bx.cell 13, hx.wr.1.cell 1, hx.bx.cell 10⟩ ?_
    clear hK K
    refine wpPl_qs 1 _ _ _ (by kernel_rfl) (by kernel_rfl) (by simp) ?_
    unfold clsS
    simp only [List.take_succ_cons, List.take_zero, List.drop_succ_cons, List.drop_zero, List.filterMap_cons, List.filterMap_nil, List.getElem?_toArray, List.getElem?_cons_zero, List.getElem?_cons_succ]
    repeat (first
      | go_big_quiet_skip
      | (go_big_quiet_want; go_big_quiet_op; go_big_quiet_on)
      | (refine id (?_ : wpQuiet _ _ _ _ (_ :: _) _); first | go_big_quiet_skip | (go_big_quiet_want; go_big_quiet_op; go_big_quiet_on)))
    refine wpQuiet_nil ?_
    unfold wpPl
    refine NoPanic.normal ?_
    have q13 := hx.bx.cell 13
    have q7 := hx.bx.cell 7
    have q10 := hx.bx.cell 10
    go_wp2_with fail
    refine (g2.out _ hx.wr).mono ?_
    rintro e w2 ⟨rfl, h2, u2⟩
    replace hx := hx.step h2 u2
    clear h2 u2 q13 q7 q10
    go_wp2_with fail
    refine (g5.out _ _ hx.wr).mono ?_
    rintro e w3 ⟨rfl, h3, u3⟩
    replace hx := hx.step h3 u3
    clear h3 u3
    have r0 := hx.wr.1.cell 0
    go_wp2_with fail
    refine (g7.out _ _ hx.wr).mono ?_
    rintro e w4 ⟨rfl, rfl⟩
    go_wp2_with fail
    refine (g6.out _ _ hx.wr _ (hbd _ hx.wr.bd)).mono ?_
    rintro e w5 ⟨rfl, h5, u5⟩
    replace hx := hx.step h5 u5
    clear h5 u5 r0
    go_wp2
    go_end0
    exact ⟨rfl, hx.wr, hx.up⟩
  · rw [if_neg hip]
    have d1 : (ip == 1) = false := by simpa using hip
    have g2 := fun W' (h' : Wr W' base gw g n c out X1) => wcar_any base gw g n c out X1 q ip (!out) port old addr W' h' (by omega) hport ho ha (by omega)
    replace g2 := Lib.hid g2
    replace hip := Lib.hid hip
    go_enter Try.func30, Try.ntmps30
    go_upto_region 1 with fail
    have hx : WBx W0 (W0.alloc (.cells #[.int .i64 pr, .int .u16 sr, .int .u16 ds, .int .i64 fl, .int .i64 ki, .int .i64 co, .bool er, .int .i64 isz, .int .i64 i1, .int .i64 i2, .int .i64 ip, .int .u32 i4, .int .u32 i5, .int .i64 pa, .bool ba] 39)) base gw g n c out X #[.int .i64 pr, .int .u16 sr, .int .u16 ds, .int .i64 fl, .int .i64 ki, .int .i64 co, .bool er, .int .i64 isz, .int .i64 i1, .int .i64 i2, .int .i64 ip, .int .u32 i4, .int .u32 i5, .int .i64 pa, .bool ba] := ⟨h.bel (bel_alloc _ _), Blk.new _ _ _, (Upd.refl _ _).alloc _, hlt⟩
    replace hx := hx.drew
    have z1 : ∀ t : Tw (fun w' => w'.cell? ⟨W0.heap.size, 13, none⟩ = some (.int .i64 pa) ∧ w'.cell? ⟨gw, 1, none⟩ = some (.bool out) ∧ w'.cell? ⟨W0.heap.size, 10, none⟩ = some (.int .i64 ip)), t.w.cell? ⟨W0.heap.size, 13, none⟩ = some (.int .i64 pa) := fun t => t.h.1
    have z2 : ∀ t : Tw (fun w' => w'.cell? ⟨W0.heap.size, 13, none⟩ = some (.int .i64 pa) ∧ w'.cell? ⟨gw, 1, none⟩ = some (.bool out) ∧ w'.cell? ⟨W0.heap.size, 10, none⟩ = some (.int .i64 ip)), t.w.cell? ⟨gw, 1, none⟩ = some (.bool out) := fun t => t.h.2.1
    have ne : Nonempty (Tw (fun w' => w'.cell? ⟨W0.heap.size, 13, none⟩ = some (.int .i64 pa) ∧ w'.cell? ⟨gw, 1, none⟩ = some (.bool out) ∧ w'.cell? ⟨W0.heap.size, 10, none⟩ = some (.int .i64 ip))) := ⟨⟨_, hx.bx.cell 13, hx.wr.1.cell 1, hx.bx.cell 10⟩⟩
    refine wp_region_plan (fun w' => w'.cell? ⟨W0.heap.size, 13, none⟩ = some (.int .i64 pa) ∧ w'.cell? ⟨gw, 1, none⟩ = some (.bool out) ∧ w'.cell? ⟨W0.heap.size, 10, none⟩ = some (.int .i64 ip)) [(0, true), (1, true), (2, true), (3, true), (4, true), (5, true), (6, true), (7, true), (8, true), (9, false), (10, true)] (by kernel_rfl) (by kernel_rfl) (by kernel_rfl) (by kernel_rfl) ⟨hx.bx.cell 13, hx.wr.1.cell 1, hx.bx.cell 10⟩ ?_
    generalize (W0.alloc (.cells #[.int .i64 pr, .int .u16 sr, .int .u16 ds, .int .i64 fl, .int .i64 ki, .int .i64 co, .bool er, .int .i64 isz, .int .i64 i1, .int .i64 i2, .int .i64 ip, .int .u32 i4, .int .u32 i5, .int .i64 pa, .bool ba] 39)).drew = W1 at *
    refine wpPl_qs 9 _ _ _ (by kernel_rfl) (by kernel_rfl) (by simp) ?_
    unfold clsS
    simp only [List.take_succ_cons, List.take_zero, List.drop_succ_cons, List.drop_zero, List.filterMap_cons, List.filterMap_nil, List.getElem?_toArray, List.getElem?_cons_zero, List.getElem?_cons_succ]
    repeat (first
      | go_big_quiet_skip
      | (go_big_quiet_want; go_big_quiet_op; go_big_quiet_on)
      | (refine id (?_ : wpQuiet _ _ _ _ (_ :: _) _); first | go_big_quiet_skip | (go_big_quiet_want; go_big_quiet_op; go_big_quiet_on)))
    refine wpQuiet_nil ?_
    refine wpPl_e _ (by rfl) (by kernel_rfl) (fun K hK => ?_)
    go_simp
    refine (g1.out _ hx.wr).mono ?_
    rintro e w1 ⟨rfl, h1, u1⟩
    replace hx := hx.step h1 u1
    clear h1 u1
    refine hK _ _ ⟨hx.bx.cell 13, hx.wr.1.cell 1, hx.bx.cell 10⟩ ?_
    clear hK K
    refine wpPl_qs 1 _ _ _ (by kernel_rfl) (by kernel_rfl) (by simp) ?_
    unfold clsS
    simp only [List.take_succ_cons, List.take_zero, List.drop_succ_cons, List.drop_zero, List.filterMap_cons, List.filterMap_nil, List.getElem?_toArray, List.getElem?_cons_zero, List.getElem?_cons_succ]
    repeat (first
      | go_big_quiet_skip
      | (go_big_quiet_want; go_big_quiet_op; go_big_quiet_on)
      | (refine id (?_ : wpQuiet _ _ _ _ (_ :: _) _); first | go_big_quiet_skip | (go_big_quiet_want; go_big_quiet_op; go_big_quiet_on)))
    refine wpQuiet_nil ?_
    unfold wpPl
    refine NoPanic.normal ?_
    have q13 := hx.bx.cell 13
    have q7 := hx.bx.cell 7
    have q10 := hx.bx.cell 10
    go_upto_region 5 with fail
    have z1 : ∀ t : Tw (fun w' => w'.cell? ⟨W0.heap.size, 13, none⟩ = some (.int .i64 pa) ∧ w'.cell? ⟨gw, 1, none⟩ = some (.bool out) ∧ w'.cell? ⟨W0.heap.size, 10, none⟩ = some (.int .i64 ip)), t.w.cell? ⟨W0.heap.size, 10, none⟩ = some (.int .i64 ip) := fun t => t.h.2.2
    have z2 : ∀ t : Tw (fun w' => w'.cell? ⟨W0.heap.size, 13, none⟩ = some (.int .i64 pa) ∧ w'.cell? ⟨gw, 1, none⟩ = some (.bool out) ∧ w'.cell? ⟨W0.heap.size, 10, none⟩ = some (.int .i64 ip)), t.w.cell? ⟨gw, 1, none⟩ = some (.bool out) := fun t => t.h.2.1
    have ne : Nonempty (Tw (fun w' => w'.cell? ⟨W0.heap.size, 13, none⟩ = some (.int .i64 pa) ∧ w'.cell? ⟨gw, 1, none⟩ = some (.bool out) ∧ w'.cell? ⟨W0.heap.size, 10, none⟩ = some (.int .i64 ip))) := ⟨⟨_, q13, hx.wr.1.cell 1, q10⟩⟩
    replace hx := hx.drew
    refine wp_region_plan (fun w' => w'.cell? ⟨W0.heap.size, 13, none⟩ = some (.int .i64 pa) ∧ w'.cell? ⟨gw, 1, none⟩ = some (.bool out) ∧ w'.cell? ⟨W0.heap.size, 10, none⟩ = some (.int .i64 ip)) [(0, true), (1, true), (2, true), (3, true), (4, true), (5, true), (6, true), (7, true), (8, true), (9, true), (10, true), (11, true), (12, true), (13, false)] (by kernel_rfl) (by kernel_rfl) (by kernel_rfl) (by kernel_rfl) ⟨hx.bx.cell 13, hx.wr.1.cell 1, hx.bx.cell 10⟩ ?_
    refine wpPl_qs 13 _ _ _ (by kernel_rfl) (by kernel_rfl) (by simp) ?_
    unfold clsS
    simp only [List.take_succ_cons, List.take_zero, List.drop_succ_cons, List.drop_zero, List.filterMap_cons, List.filterMap_nil, List.getElem?_toArray, List.getElem?_cons_zero, List.getElem?_cons_succ]
    repeat (first
      | go_big_quiet_skip
      | (go_big_quiet_want; go_big_quiet_op; go_big_quiet_on)
      | (refine id (?_ : wpQuiet _ _ _ _ (_ :: _) _); first | go_big_quiet_skip | (go_big_quiet_want; go_big_quiet_op; go_big_quiet_on)))
    refine wpQuiet_nil ?_
    refine wpPl_e _ (by rfl) (by kernel_rfl) (fun K hK => ?_)
    go_simp
    refine (g2.out _ hx.wr).mono ?_
    rintro e w2 ⟨rfl, h2, u2⟩
    have hy := hx.step h2 u2
    refine hK _ _ ⟨hy.bx.cell 13, hy.wr.1.cell 1, hy.bx.cell 10⟩ ?_
    clear hK K hy z1 z2 ne
    unfold wpPl
    refine NoPanic.normal ?_
    replace hx := hx.step h2 u2
    clear h2 u2 q13 q7 q10
    go_wp2_with fail
    refine (g5.out _ _ hx.wr).mono ?_
    rintro e w3 ⟨rfl, h3, u3⟩
    replace hx := hx.step h3 u3
    clear h3 u3
    have r0 := hx.wr.1.cell 0
    go_wp2_with fail
    refine (g7.out _ _ hx.wr).mono ?_
    rintro e w4 ⟨rfl, rfl⟩
    go_wp2_with fail
    refine (g6.out _ _ hx.wr _ (hbd _ hx.wr.bd)).mono ?_
    rintro e w5 ⟨rfl, h5, u5⟩
    replace hx := hx.step h5 u5
    clear h5 u5 r0
    go_wp2
    go_end0
    exact ⟨rfl, hx.wr, hx.up⟩
/- The rewrite of a frame: change, Out, In. -/
theorem rwhd_size : (Try.prog.info? 35).map (·.size) = some 6 := by kernel_rfl
theorem Own.lower {k : IntKind} {e : TypeId} {w : World} {base base' : Nat} {v : Value} {l : List Int} (h : Own k e w base v l) (hb : base' ≤ base) : Own k e w base' v l := by
  refine ⟨⟨h.row.1, ?_⟩, h.rng⟩
  rcases h.row.2 with hn | ⟨g, cap, cur, hv, hg, rest⟩
  · exact .inl hn
  · exact .inr ⟨g, cap, cur, hv, by omega, rest⟩
theorem rw_bds {l : List Int} (hl : ∀ x, x ∈ l → 0 ≤ x ∧ x ≤ 255) (h : getE l = 0) : (0 ≤ (hdIf l 0).src ∧ (hdIf l 0).src ≤ 4294967295) ∧ (0 ≤ (hdIf l 0).dst ∧ (hdIf l 0).dst ≤ 4294967295) := by
  have h20 : 20 ≤ l.length := by
    rcases Nat.lt_or_ge l.length 20 with hh | hh
    · exfalso
      unfold getE shapeE at h
      rw [if_pos hh] at h
      simp at h
    · exact hh
  unfold hdIf
  rw [if_pos rfl]
  exact ⟨n4_bd hl (by omega), n4_bd hl (by omega)⟩
/-- what a rewrite tells -/
def ChgR (w : World) (E : Int) (L : List Int) (e : Ending) (w' : World) : Prop :=
  (∃ v, e = .returned (.tuple #[v, .int .i64 E]) ∧ (E = 0 → Own .u8 5 w' w.heap.size v L) ∧ (E ≠ 0 → v = .slice none 0 0)) ∧ Below w.heap.size w w'
section
variable (out : Bool) (l : List Int) (A : Option Addr) (len c B : Nat) (addr port : Int) (w : World) (hr : Rd .u8 w B A len l) (hB : B ≤ w.heap.size) (hlc : len ≤ c) (hcm : c ≤ 9223372036854775807) (hl : len ≤ 60000)
include hr hB hlc hcm hl
set_option maxRecDepth 100000 in
set_option maxHeartbeats 1000000 in
theorem change_head (hE : getE l ≠ 0) :
    Calls Try.prog 13 #[.slice A len c, .bool out, .int .u32 addr, .int .u16 port] w (ChgR w (getE l) []) := by
  have hget := fun W (h : Below w.heap.size w W) => Get_any l _ len c w.heap.size W ((hr.more hB).below h) h.size hlc hcm (by omega)
  have hz : hdIf l (getE l) = Hd.z := by unfold hdIf; rw [if_neg hE]
  rw [hz] at hget
  simp only [Hd.z, Hd.val] at hget
  clear hz
  have d1 : (getE l != 0) = true := by simpa using hE
  generalize getE l = E at *
  replace hget := Lib.hid hget
  replace hE := Lib.hid hE
  go_enter Try.func13, Try.ntmps13
  go_wp2_with fail
  refine (hget.out _ (Below.refl _ _)).mono ?_
  rintro e w1 ⟨rfl, hb1⟩
  go_wp2_with (refine wpList_stRow rfl rfl rfl rfl rfl (Blk.new w1 _ _) rwhd_size rfl (by simp [Value.oneCell']) ?_)
  go_ret2
  exact ⟨⟨_, rfl, fun h => absurd h hE.out, fun _ => rfl⟩, below_setRow (hb1.alloc hb1.size _) hb1.size _⟩
set_option maxRecDepth 100000 in
set_option maxHeartbeats 1000000 in
theorem change_part (hE : getE l = 0) (hE2 : (getR (hdIf l 0) l).1 ≠ 0) :
    Calls Try.prog 13 #[.slice A len c, .bool out, .int .u32 addr, .int .u16 port] w (ChgR w (getR (hdIf l 0) l).1 []) := by
  have hb := rw_bds (fun x hx => inr_u8 (hr.rng x hx)) hE
  have hget := fun W (h : Below w.heap.size w W) => Get_any l _ len c w.heap.size W ((hr.more hB).below h) h.size hlc hcm (by omega)
  have hpg := fun W (h : Below w.heap.size w W) => PGet_any (hdIf l 0) l _ len c w.heap.size W ((hr.more hB).below h) h.size hlc hcm (by omega) hb.1 hb.2
  rw [hE] at hget
  clear hb hE
  generalize getR (hdIf l 0) l = R at *
  generalize hdIf l 0 = H at *
  obtain ⟨h0, h1, h2, h3, h4, h5⟩ := H
  obtain ⟨E, ⟨pr, sr, ds, fl, ki, co, er, ⟨i0, i1, i2, i3, i4, i5⟩, pa, ba⟩⟩ := R
  simp only [Hd.val, Tells, Pt.val] at hget hpg
  replace hget := Lib.hid hget
  replace hpg := Lib.hid hpg
  simp only at hE2 ⊢
  have hE3 : (E != 0) = true := by simpa using hE2
  replace hE2 := Lib.hid hE2
  go_enter Try.func13, Try.ntmps13
  go_wp2_with fail
  refine (hget.out _ (Below.refl _ _)).mono ?_
  rintro e w1 ⟨rfl, hb1⟩
  have bel := hb1
  clear hb1 hget
  have bh := (Blk.new w1 35 #[.int .i64 0, .int .i64 0, .int .i64 0, .int .i64 0, .int .u32 0, .int .u32 0]).setRow #[.int .i64 h0, .int .i64 h1, .int .i64 h2, .int .i64 h3, .int .u32 h4, .int .u32 h5]
  replace bel := below_setRow (bel.alloc bel.size (.cells #[.int .i64 0, .int .i64 0, .int .i64 0, .int .i64 0, .int .u32 0, .int .u32 0] 35)) bel.size #[.int .i64 h0, .int .i64 h1, .int .i64 h2, .int .i64 h3, .int .u32 h4, .int .u32 h5]
  go_wp2_with (first
    | (refine wpList_stRow rfl rfl rfl rfl rfl (Blk.new w1 _ _) rwhd_size rfl (by simp [Value.oneCell']) ?_; generalize (w1.alloc (.cells #[.int .i64 0, .int .i64 0, .int .i64 0, .int .i64 0, .int .u32 0, .int .u32 0] 35)).setRow w1.heap.size #[.int .i64 h0, .int .i64 h1, .int .i64 h2, .int .i64 h3, .int .u32 h4, .int .u32 h5] = W1 at *; generalize w1.heap.size = g6 at *)
    | (refine wpList_ldRow rfl rfl rfl bh Try.underlying35 rwhd_size ?_))
  refine (hpg.out _ bel).mono ?_
  rintro e w2 ⟨rfl, hb2⟩
  replace bh := bh.bel hb2
  replace bel := bel_after bel hb2
  clear hb2 hpg
  have hhl := bh.lt
  have bp := (Blk.new w2 39 #[.int .i64 0, .int .u16 0, .int .u16 0, .int .i64 0, .int .i64 0, .int .i64 0, .bool false, .int .i64 0, .int .i64 0, .int .i64 0, .int .i64 0, .int .u32 0, .int .u32 0, .int .i64 0, .bool false]).setRow #[.int .i64 pr, .int .u16 sr, .int .u16 ds, .int .i64 fl, .int .i64 ki, .int .i64 co, .bool er, .int .i64 i0, .int .i64 i1, .int .i64 i2, .int .i64 i3, .int .u32 i4, .int .u32 i5, .int .i64 pa, .bool ba]
  replace bh := (bh.alloc (.cells #[.int .i64 0, .int .u16 0, .int .u16 0, .int .i64 0, .int .i64 0, .int .i64 0, .bool false, .int .i64 0, .int .i64 0, .int .i64 0, .int .i64 0, .int .u32 0, .int .u32 0, .int .i64 0, .bool false] 39)).setRow_far (g' := w2.heap.size) (by omega) #[.int .i64 pr, .int .u16 sr, .int .u16 ds, .int .i64 fl, .int .i64 ki, .int .i64 co, .bool er, .int .i64 i0, .int .i64 i1, .int .i64 i2, .int .i64 i3, .int .u32 i4, .int .u32 i5, .int .i64 pa, .bool ba]
  replace bel := below_setRow (bel.alloc bel.size (.cells #[.int .i64 0, .int .u16 0, .int .u16 0, .int .i64 0, .int .i64 0, .int .i64 0, .bool false, .int .i64 0, .int .i64 0, .int .i64 0, .int .i64 0, .int .u32 0, .int .u32 0, .int .i64 0, .bool false] 39)) bel.size #[.int .i64 pr, .int .u16 sr, .int .u16 ds, .int .i64 fl, .int .i64 ki, .int .i64 co, .bool er, .int .i64 i0, .int .i64 i1, .int .i64 i2, .int .i64 i3, .int .u32 i4, .int .u32 i5, .int .i64 pa, .bool ba]
  go_wp2_with (refine wpList_stRow rfl rfl rfl rfl rfl (Blk.new w2 _ _) pt_size rfl (by simp [Value.oneCell']) ?_)
  go_ret2
  exact ⟨⟨_, rfl, fun h => absurd h hE2.out, fun _ => rfl⟩, bel⟩
end
/-- the writer, beside the boxes of head and part -/
structure ChS (w W : World) (gw g n c gh gp : Nat) (out : Bool) (X : List Int) (hv pv : Array Value) : Prop where
  wr : Wr W w.heap.size gw g n c out X
  bh : Blk W gh 35 hv
  bp : Blk W gp 39 pv
  bel : Below w.heap.size w W
  ne : gh ≠ g ∧ gp ≠ g
theorem ChS.step {w W w' : World} {gw g n c gh gp : Nat} {out : Bool} {X Y : List Int} {hv pv : Array Value} (h : ChS w W gw g n c gh gp out X hv pv) (h1 : Wr w' w.heap.size gw g n c out Y) (h2 : Upd (fun k => k = g) W w') : ChS w w' gw g n c gh gp out Y hv pv :=
  ⟨h1, h.bh.upd h2 h.ne.1, h.bp.upd h2 h.ne.2, h.bel.trans (h2.below (B := w.heap.size) h.bel.size (fun k hk e => by have := h1.2.2.2.1; omega)), h.ne⟩
section
variable (out : Bool) (l : List Int) (A : Option Addr) (len c B : Nat) (addr port : Int) (w : World) (hr : Rd .u8 w B A len l) (hB : B ≤ w.heap.size) (hlc : len ≤ c) (hcm : c ≤ 9223372036854775807) (hl : len ≤ 60000)
  (sz m : Nat) (h2 h3 h4 h5 : Int) (ha : 0 ≤ addr ∧ addr ≤ 4294967295) (hport : 0 ≤ port ∧ port ≤ 65535) (Y : List Int)
include hr hB hlc hcm hl
set_option maxRecDepth 100000 in
set_option maxHeartbeats 4000000 in
theorem change_ok (pr sr ds fl ki co i0 i1 i2 i3 i4 i5 pa : Int) (er ba : Bool) (hE : getE l = 0) (hH : hdIf l 0 = ⟨sz, m, h2, h3, h4, h5⟩) (hR : getR (hdIf l 0) l = (0, ⟨pr, sr, ds, fl, ki, co, er, ⟨i0, i1, i2, i3, i4, i5⟩, pa, ba⟩)) (hm : m ≤ len) (hm2 : m ≤ 1500) (hsz : 20 ≤ sz) (hszm : sz + 8 ≤ m)
    (herr : er = true → ∃ isz pat : Nat, i0 = isz ∧ pa = pat ∧ pat + isz + 8 ≤ m ∧ 20 ≤ isz ∧ sz + 8 ≤ pat + isz) (hY : Hid (chgW (l.take m) ⟨sz, m, h2, h3, h4, h5⟩ ⟨pr, sr, ds, fl, ki, co, er, ⟨i0, i1, i2, i3, i4, i5⟩, pa, ba⟩ out addr port = Y)) (ha : 0 ≤ addr ∧ addr ≤ 4294967295) (hport : 0 ≤ port ∧ port ≤ 65535) :
    Calls Try.prog 13 #[.slice A len c, .bool out, .int .u32 addr, .int .u16 port] w (ChgR w 0 Y) := by
  obtain ⟨b, o, rfl, _, _⟩ := hr.cel (by omega)
  have hb := rw_bds (fun x hx => inr_u8 (hr.rng x hx)) hE
  have hget := fun W (h : Below w.heap.size w W) => Get_any l _ len c w.heap.size W ((hr.more hB).below h) h.size hlc hcm (by omega)
  have hpg := fun W (h : Below w.heap.size w W) => PGet_any (hdIf l 0) l _ len c w.heap.size W ((hr.more hB).below h) h.size hlc hcm (by omega) hb.1 hb.2
  rw [hE] at hget
  rw [hR] at hpg
  rw [hH] at hget hpg
  clear hb hE hH hR
  simp only [Hd.val, Tells, Pt.val] at hget hpg
  have hcl := fun W (h : Below w.heap.size w W) => Clone_any (l.take m) b o m c w.heap.size W (((hr.take hm).more hB).below h) h.size (by omega)
  have hXm : Hid ((l.take m).length = m) := Lib.hid (by rw [List.length_take, hr.len]; omega)
  have hl8 : ∀ x, x ∈ l.take m → 0 ≤ x ∧ x ≤ 255 := fun x hx => inr_u8 (hr.rng x (List.mem_of_mem_take hx))
  clear hr
  generalize l.take m = X at *
  have hadr := fun gw g c1 W' (h : Wr W' w.heap.size gw g m c1 out X) => waddr_any w.heap.size gw g m c1 out X 0 out addr W' h (by omega) ha
  have hb := addrAt_bd 0 out
  have ho := n4_bd hl8 (i := addrAt 0 out) (by rw [hXm.out]; omega)
  unfold chgW at hY
  simp only [] at hY
  generalize addrL X 0 out addr = X1 at *
  generalize n4 X (addrAt 0 out) = old at *
  clear hl8 hb
  replace hget := Lib.hid hget
  replace hpg := Lib.hid hpg
  replace hcl := Lib.hid hcl
  replace hadr := Lib.hid hadr
  cases er with
  | true =>
    obtain ⟨isz, pat, rfl, rfl, e1, e2, e3⟩ := herr rfl
    have hin := fun gw g c1 W' (h : Wr W' w.heap.size gw g m c1 out X1) (hc1 : m ≤ c1) (hc2 : c1 ≤ 9223372036854775807) => winner_any w.heap.size gw g m c1 out X1 pat isz sz pr sr ds fl ki co i1 i2 i3 i4 i5 true ba addr port W' h (by omega) e2 hsz e3 (by omega) hc1 hc2 ha hport
    simp only [if_true, Int.toNat_natCast] at hY
    replace hin := Lib.hid hin
    clear herr
    have h1m : (0 : Int) ≤ (m : Int) := by omega
    have h2m : (m : Int) ≤ (c : Int) := by omega
    have h3m : m ≤ c := by omega
    go_enter Try.func13, Try.ntmps13
    go_wp2_with fail
    refine (hget.out _ (Below.refl _ _)).mono ?_
    rintro e w1 ⟨rfl, hb1⟩
    have bel := hb1
    clear hb1 hget
    have bh := (Blk.new w1 35 #[.int .i64 0, .int .i64 0, .int .i64 0, .int .i64 0, .int .u32 0, .int .u32 0]).setRow #[.int .i64 sz, .int .i64 m, .int .i64 h2, .int .i64 h3, .int .u32 h4, .int .u32 h5]
    replace bel := below_setRow (bel.alloc bel.size (.cells #[.int .i64 0, .int .i64 0, .int .i64 0, .int .i64 0, .int .u32 0, .int .u32 0] 35)) bel.size #[.int .i64 sz, .int .i64 m, .int .i64 h2, .int .i64 h3, .int .u32 h4, .int .u32 h5]
    go_wp2_with (first
      | (refine wpList_stRow rfl rfl rfl rfl rfl (Blk.new w1 _ _) rwhd_size rfl (by simp [Value.oneCell']) ?_; generalize (w1.alloc (.cells #[.int .i64 0, .int .i64 0, .int .i64 0, .int .i64 0, .int .u32 0, .int .u32 0] 35)).setRow w1.heap.size #[.int .i64 sz, .int .i64 m, .int .i64 h2, .int .i64 h3, .int .u32 h4, .int .u32 h5] = W1 at *; generalize w1.heap.size = g6 at *)
      | (refine wpList_ldRow rfl rfl rfl bh Try.underlying35 rwhd_size ?_))
    refine (hpg.out _ bel).mono ?_
    rintro e w2 ⟨rfl, hb2⟩
    replace bh := bh.bel hb2
    replace bel := bel_after bel hb2
    clear hb2 hpg
    have hhl := bh.lt
    have bp := (Blk.new w2 39 #[.int .i64 0, .int .u16 0, .int .u16 0, .int .i64 0, .int .i64 0, .int .i64 0, .bool false, .int .i64 0, .int .i64 0, .int .i64 0, .int .i64 0, .int .u32 0, .int .u32 0, .int .i64 0, .bool false]).setRow #[.int .i64 pr, .int .u16 sr, .int .u16 ds, .int .i64 fl, .int .i64 ki, .int .i64 co, .bool true, .int .i64 isz, .int .i64 i1, .int .i64 i2, .int .i64 i3, .int .u32 i4, .int .u32 i5, .int .i64 pat, .bool ba]
    replace bh := (bh.alloc (.cells #[.int .i64 0, .int .u16 0, .int .u16 0, .int .i64 0, .int .i64 0, .int .i64 0, .bool false, .int .i64 0, .int .i64 0, .int .i64 0, .int .i64 0, .int .u32 0, .int .u32 0, .int .i64 0, .bool false] 39)).setRow_far (g' := w2.heap.size) (by omega) #[.int .i64 pr, .int .u16 sr, .int .u16 ds, .int .i64 fl, .int .i64 ki, .int .i64 co, .bool true, .int .i64 isz, .int .i64 i1, .int .i64 i2, .int .i64 i3, .int .u32 i4, .int .u32 i5, .int .i64 pat, .bool ba]
    replace bel := below_setRow (bel.alloc bel.size (.cells #[.int .i64 0, .int .u16 0, .int .u16 0, .int .i64 0, .int .i64 0, .int .i64 0, .bool false, .int .i64 0, .int .i64 0, .int .i64 0, .int .i64 0, .int .u32 0, .int .u32 0, .int .i64 0, .bool false] 39)) bel.size #[.int .i64 pr, .int .u16 sr, .int .u16 ds, .int .i64 fl, .int .i64 ki, .int .i64 co, .bool true, .int .i64 isz, .int .i64 i1, .int .i64 i2, .int .i64 i3, .int .u32 i4, .int .u32 i5, .int .i64 pat, .bool ba]
    have q1 := bh.cell 1
    have hgl2 := bp.lt
    go_wp2_with (refine wpList_stRow rfl rfl rfl rfl rfl (Blk.new w2 _ _) pt_size rfl (by simp [Value.oneCell']) ?_; generalize (w2.alloc (.cells #[.int .i64 0, .int .u16 0, .int .u16 0, .int .i64 0, .int .i64 0, .int .i64 0, .bool false, .int .i64 0, .int .i64 0, .int .i64 0, .int .i64 0, .int .u32 0, .int .u32 0, .int .i64 0, .bool false] 39)).setRow w2.heap.size #[.int .i64 pr, .int .u16 sr, .int .u16 ds, .int .i64 fl, .int .i64 ki, .int .i64 co, .bool true, .int .i64 isz, .int .i64 i1, .int .i64 i2, .int .i64 i3, .int .u32 i4, .int .u32 i5, .int .i64 pat, .bool ba] = W2 at *; generalize w2.heap.size = g8 at *)
    refine (hcl.out _ bel).mono ?_
    rintro e w3 ⟨v3, rfl, own3, hb3⟩
    replace own3 := own3.lower bel.size
    replace bh := bh.bel hb3
    replace bp := bp.bel hb3
    replace bel := bel_after bel hb3
    have hgl := bh.lt
    clear hb3 hcl q1
    obtain ⟨g, c1, rfl, hc1, hc2, hg1, hg2⟩ := own3.formG hXm.out (by omega)
    unfold maxLen at hc2
    have hne1 := own3.ne bh (by decide)
    have hne2 := own3.ne bp (by decide)
    have hs : ChS w (w3.alloc (.cells #[.slice (some ⟨g, 0, none⟩) m c1, .bool out] 62)) w3.heap.size g m c1 g6 g8 out X #[.int .i64 sz, .int .i64 m, .int .i64 h2, .int .i64 h3, .int .u32 h4, .int .u32 h5] #[.int .i64 pr, .int .u16 sr, .int .u16 ds, .int .i64 fl, .int .i64 ki, .int .i64 co, .bool true, .int .i64 isz, .int .i64 i1, .int .i64 i2, .int .i64 i3, .int .u32 i4, .int .u32 i5, .int .i64 pat, .bool ba] :=
      ⟨⟨Blk.new _ _ _, own3.alloc _, hXm.out, hg1, by omega⟩, bh.alloc _, bp.alloc _, bel.alloc bel.size _, hne1, hne2⟩
    clear bh bp bel own3 hne1 hne2 hgl hhl hgl2 h1m h2m h3m
    go_upto_region 8 with fail
    generalize w3.alloc (.cells #[.slice (some ⟨g, 0, none⟩) m c1, .bool out] 62) = W3 at *
    generalize w3.heap.size = gw at *
    go_wp2_with fail
    refine (hadr.out _ _ _ _ hs.wr).mono ?_
    rintro e w4 ⟨rfl, h4', u4⟩
    replace hs := hs.step h4' u4
    clear h4' u4 hadr
    have q0 := hs.bh.cell 0
    have p0 := hs.bp.cell 0
    have p6 := hs.bp.cell 6
    go_wp2_with (refine wpList_ldRow rfl rfl rfl hs.bp Try.underlying39 pt_size ?_)
    refine (hin.out _ _ _ _ hs.wr hc1 hc2).mono ?_
    rintro e w5 ⟨rfl, h5', u5⟩
    replace hs := hs.step h5' u5
    have r0 := hs.wr.1.cell 0
    have hown := hs.wr.2.1
    have hbel := hs.bel
    clear q0 p0 p6 h5' u5
    go_wp2
    go_ret2
    exact ⟨⟨_, rfl, fun _ => hY.out ▸ hown, fun h => absurd rfl h⟩, hbel⟩
  | false =>
    clear herr
    simp only [Bool.false_eq_true, if_false, Int.toNat_natCast] at hY
    by_cases h1 : pr = 1
    · subst h1
      have hin := fun gw g c1 W' (h : Wr W' w.heap.size gw g m c1 out X1) => wecho_any w.heap.size gw g m c1 out X1 sz port W' h (by omega) hport
      simp only [if_true] at hY
      replace hin := Lib.hid hin
      have h1m : (0 : Int) ≤ (m : Int) := by omega
      have h2m : (m : Int) ≤ (c : Int) := by omega
      have h3m : m ≤ c := by omega
      go_enter Try.func13, Try.ntmps13
      go_wp2_with fail
      refine (hget.out _ (Below.refl _ _)).mono ?_
      rintro e w1 ⟨rfl, hb1⟩
      have bel := hb1
      clear hb1 hget
      have bh := (Blk.new w1 35 #[.int .i64 0, .int .i64 0, .int .i64 0, .int .i64 0, .int .u32 0, .int .u32 0]).setRow #[.int .i64 sz, .int .i64 m, .int .i64 h2, .int .i64 h3, .int .u32 h4, .int .u32 h5]
      replace bel := below_setRow (bel.alloc bel.size (.cells #[.int .i64 0, .int .i64 0, .int .i64 0, .int .i64 0, .int .u32 0, .int .u32 0] 35)) bel.size #[.int .i64 sz, .int .i64 m, .int .i64 h2, .int .i64 h3, .int .u32 h4, .int .u32 h5]
      go_wp2_with (first
        | (refine wpList_stRow rfl rfl rfl rfl rfl (Blk.new w1 _ _) rwhd_size rfl (by simp [Value.oneCell']) ?_; generalize (w1.alloc (.cells #[.int .i64 0, .int .i64 0, .int .i64 0, .int .i64 0, .int .u32 0, .int .u32 0] 35)).setRow w1.heap.size #[.int .i64 sz, .int .i64 m, .int .i64 h2, .int .i64 h3, .int .u32 h4, .int .u32 h5] = W1 at *; generalize w1.heap.size = g6 at *)
        | (refine wpList_ldRow rfl rfl rfl bh Try.underlying35 rwhd_size ?_))
      refine (hpg.out _ bel).mono ?_
      rintro e w2 ⟨rfl, hb2⟩
      replace bh := bh.bel hb2
      replace bel := bel_after bel hb2
      clear hb2 hpg
      have hhl := bh.lt
      have bp := (Blk.new w2 39 #[.int .i64 0, .int .u16 0, .int .u16 0, .int .i64 0, .int .i64 0, .int .i64 0, .bool false, .int .i64 0, .int .i64 0, .int .i64 0, .int .i64 0, .int .u32 0, .int .u32 0, .int .i64 0, .bool false]).setRow #[.int .i64 1, .int .u16 sr, .int .u16 ds, .int .i64 fl, .int .i64 ki, .int .i64 co, .bool false, .int .i64 i0, .int .i64 i1, .int .i64 i2, .int .i64 i3, .int .u32 i4, .int .u32 i5, .int .i64 pa, .bool ba]
      replace bh := (bh.alloc (.cells #[.int .i64 0, .int .u16 0, .int .u16 0, .int .i64 0, .int .i64 0, .int .i64 0, .bool false, .int .i64 0, .int .i64 0, .int .i64 0, .int .i64 0, .int .u32 0, .int .u32 0, .int .i64 0, .bool false] 39)).setRow_far (g' := w2.heap.size) (by omega) #[.int .i64 1, .int .u16 sr, .int .u16 ds, .int .i64 fl, .int .i64 ki, .int .i64 co, .bool false, .int .i64 i0, .int .i64 i1, .int .i64 i2, .int .i64 i3, .int .u32 i4, .int .u32 i5, .int .i64 pa, .bool ba]
      replace bel := below_setRow (bel.alloc bel.size (.cells #[.int .i64 0, .int .u16 0, .int .u16 0, .int .i64 0, .int .i64 0, .int .i64 0, .bool false, .int .i64 0, .int .i64 0, .int .i64 0, .int .i64 0, .int .u32 0, .int .u32 0, .int .i64 0, .bool false] 39)) bel.size #[.int .i64 1, .int .u16 sr, .int .u16 ds, .int .i64 fl, .int .i64 ki, .int .i64 co, .bool false, .int .i64 i0, .int .i64 i1, .int .i64 i2, .int .i64 i3, .int .u32 i4, .int .u32 i5, .int .i64 pa, .bool ba]
      have q1 := bh.cell 1
      have hgl2 := bp.lt
      go_wp2_with (refine wpList_stRow rfl rfl rfl rfl rfl (Blk.new w2 _ _) pt_size rfl (by simp [Value.oneCell']) ?_; generalize (w2.alloc (.cells #[.int .i64 0, .int .u16 0, .int .u16 0, .int .i64 0, .int .i64 0, .int .i64 0, .bool false, .int .i64 0, .int .i64 0, .int .i64 0, .int .i64 0, .int .u32 0, .int .u32 0, .int .i64 0, .bool false] 39)).setRow w2.heap.size #[.int .i64 1, .int .u16 sr, .int .u16 ds, .int .i64 fl, .int .i64 ki, .int .i64 co, .bool false, .int .i64 i0, .int .i64 i1, .int .i64 i2, .int .i64 i3, .int .u32 i4, .int .u32 i5, .int .i64 pa, .bool ba] = W2 at *; generalize w2.heap.size = g8 at *)
      refine (hcl.out _ bel).mono ?_
      rintro e w3 ⟨v3, rfl, own3, hb3⟩
      replace own3 := own3.lower bel.size
      replace bh := bh.bel hb3
      replace bp := bp.bel hb3
      replace bel := bel_after bel hb3
      have hgl := bh.lt
      clear hb3 hcl q1
      obtain ⟨g, c1, rfl, hc1, hc2, hg1, hg2⟩ := own3.formG hXm.out (by omega)
      unfold maxLen at hc2
      have hne1 := own3.ne bh (by decide)
      have hne2 := own3.ne bp (by decide)
      have hs : ChS w (w3.alloc (.cells #[.slice (some ⟨g, 0, none⟩) m c1, .bool out] 62)) w3.heap.size g m c1 g6 g8 out X #[.int .i64 sz, .int .i64 m, .int .i64 h2, .int .i64 h3, .int .u32 h4, .int .u32 h5] #[.int .i64 1, .int .u16 sr, .int .u16 ds, .int .i64 fl, .int .i64 ki, .int .i64 co, .bool false, .int .i64 i0, .int .i64 i1, .int .i64 i2, .int .i64 i3, .int .u32 i4, .int .u32 i5, .int .i64 pa, .bool ba] :=
        ⟨⟨Blk.new _ _ _, own3.alloc _, hXm.out, hg1, by omega⟩, bh.alloc _, bp.alloc _, bel.alloc bel.size _, hne1, hne2⟩
      clear bh bp bel own3 hne1 hne2 hgl hhl hgl2 h1m h2m h3m
      go_upto_region 8 with fail
      generalize w3.alloc (.cells #[.slice (some ⟨g, 0, none⟩) m c1, .bool out] 62) = W3 at *
      generalize w3.heap.size = gw at *
      go_wp2_with fail
      refine (hadr.out _ _ _ _ hs.wr).mono ?_
      rintro e w4 ⟨rfl, h4', u4⟩
      replace hs := hs.step h4' u4
      clear h4' u4 hadr
      have q0 := hs.bh.cell 0
      have p0 := hs.bp.cell 0
      have p6 := hs.bp.cell 6
      go_wp2_with fail
      refine (hin.out _ _ _ _ hs.wr).mono ?_
      rintro e w5 ⟨rfl, h5', u5⟩
      replace hs := hs.step h5' u5
      have r0 := hs.wr.1.cell 0
      have hown := hs.wr.2.1
      have hbel := hs.bel
      clear q0 p0 p6 h5' u5
      go_wp2
      go_ret2
      exact ⟨⟨_, rfl, fun _ => hY.out ▸ hown, fun h => absurd rfl h⟩, hbel⟩
    · rw [if_neg h1] at hY
      have d1 : (pr == 1) = false := by simpa using h1
      have hin := fun gw g c1 W' (h : Wr W' w.heap.size gw g m c1 out X1) => wcar_any w.heap.size gw g m c1 out X1 sz pr out port old addr W' h (by omega) hport ho ha (by omega)
      replace hin := Lib.hid hin
      replace h1 := Lib.hid h1
      have h1m : (0 : Int) ≤ (m : Int) := by omega
      have h2m : (m : Int) ≤ (c : Int) := by omega
      have h3m : m ≤ c := by omega
      go_enter Try.func13, Try.ntmps13
      go_wp2_with fail
      refine (hget.out _ (Below.refl _ _)).mono ?_
      rintro e w1 ⟨rfl, hb1⟩
      have bel := hb1
      clear hb1 hget
      have bh := (Blk.new w1 35 #[.int .i64 0, .int .i64 0, .int .i64 0, .int .i64 0, .int .u32 0, .int .u32 0]).setRow #[.int .i64 sz, .int .i64 m, .int .i64 h2, .int .i64 h3, .int .u32 h4, .int .u32 h5]
      replace bel := below_setRow (bel.alloc bel.size (.cells #[.int .i64 0, .int .i64 0, .int .i64 0, .int .i64 0, .int .u32 0, .int .u32 0] 35)) bel.size #[.int .i64 sz, .int .i64 m, .int .i64 h2, .int .i64 h3, .int .u32 h4, .int .u32 h5]
      go_wp2_with (first
        | (refine wpList_stRow rfl rfl rfl rfl rfl (Blk.new w1 _ _) rwhd_size rfl (by simp [Value.oneCell']) ?_; generalize (w1.alloc (.cells #[.int .i64 0, .int .i64 0, .int .i64 0, .int .i64 0, .int .u32 0, .int .u32 0] 35)).setRow w1.heap.size #[.int .i64 sz, .int .i64 m, .int .i64 h2, .int .i64 h3, .int .u32 h4, .int .u32 h5] = W1 at *; generalize w1.heap.size = g6 at *)
        | (refine wpList_ldRow rfl rfl rfl bh Try.underlying35 rwhd_size ?_))
      refine (hpg.out _ bel).mono ?_
      rintro e w2 ⟨rfl, hb2⟩
      replace bh := bh.bel hb2
      replace bel := bel_after bel hb2
      clear hb2 hpg
      have hhl := bh.lt
      have bp := (Blk.new w2 39 #[.int .i64 0, .int .u16 0, .int .u16 0, .int .i64 0, .int .i64 0, .int .i64 0, .bool false, .int .i64 0, .int .i64 0, .int .i64 0, .int .i64 0, .int .u32 0, .int .u32 0, .int .i64 0, .bool false]).setRow #[.int .i64 pr, .int .u16 sr, .int .u16 ds, .int .i64 fl, .int .i64 ki, .int .i64 co, .bool false, .int .i64 i0, .int .i64 i1, .int .i64 i2, .int .i64 i3, .int .u32 i4, .int .u32 i5, .int .i64 pa, .bool ba]
      replace bh := (bh.alloc (.cells #[.int .i64 0, .int .u16 0, .int .u16 0, .int .i64 0, .int .i64 0, .int .i64 0, .bool false, .int .i64 0, .int .i64 0, .int .i64 0, .int .i64 0, .int .u32 0, .int .u32 0, .int .i64 0, .bool false] 39)).setRow_far (g' := w2.heap.size) (by omega) #[.int .i64 pr, .int .u16 sr, .int .u16 ds, .int .i64 fl, .int .i64 ki, .int .i64 co, .bool false, .int .i64 i0, .int .i64 i1, .int .i64 i2, .int .i64 i3, .int .u32 i4, .int .u32 i5, .int .i64 pa, .bool ba]
      replace bel := below_setRow (bel.alloc bel.size (.cells #[.int .i64 0, .int .u16 0, .int .u16 0, .int .i64 0, .int .i64 0, .int .i64 0, .bool false, .int .i64 0, .int .i64 0, .int .i64 0, .int .i64 0, .int .u32 0, .int .u32 0, .int .i64 0, .bool false] 39)) bel.size #[.int .i64 pr, .int .u16 sr, .int .u16 ds, .int .i64 fl, .int .i64 ki, .int .i64 co, .bool false, .int .i64 i0, .int .i64 i1, .int .i64 i2, .int .i64 i3, .int .u32 i4, .int .u32 i5, .int .i64 pa, .bool ba]
      have q1 := bh.cell 1
      have hgl2 := bp.lt
      go_wp2_with (refine wpList_stRow rfl rfl rfl rfl rfl (Blk.new w2 _ _) pt_size rfl (by simp [Value.oneCell']) ?_; generalize (w2.alloc (.cells #[.int .i64 0, .int .u16 0, .int .u16 0, .int .i64 0, .int .i64 0, .int .i64 0, .bool false, .int .i64 0, .int .i64 0, .int .i64 0, .int .i64 0, .int .u32 0, .int .u32 0, .int .i64 0, .bool false] 39)).setRow w2.heap.size #[.int .i64 pr, .int .u16 sr, .int .u16 ds, .int .i64 fl, .int .i64 ki, .int .i64 co, .bool false, .int .i64 i0, .int .i64 i1, .int .i64 i2, .int .i64 i3, .int .u32 i4, .int .u32 i5, .int .i64 pa, .bool ba] = W2 at *; generalize w2.heap.size = g8 at *)
      refine (hcl.out _ bel).mono ?_
      rintro e w3 ⟨v3, rfl, own3, hb3⟩
      replace own3 := own3.lower bel.size
      replace bh := bh.bel hb3
      replace bp := bp.bel hb3
      replace bel := bel_after bel hb3
      have hgl := bh.lt
      clear hb3 hcl q1
      obtain ⟨g, c1, rfl, hc1, hc2, hg1, hg2⟩ := own3.formG hXm.out (by omega)
      unfold maxLen at hc2
      have hne1 := own3.ne bh (by decide)
      have hne2 := own3.ne bp (by decide)
      have hs : ChS w (w3.alloc (.cells #[.slice (some ⟨g, 0, none⟩) m c1, .bool out] 62)) w3.heap.size g m c1 g6 g8 out X #[.int .i64 sz, .int .i64 m, .int .i64 h2, .int .i64 h3, .int .u32 h4, .int .u32 h5] #[.int .i64 pr, .int .u16 sr, .int .u16 ds, .int .i64 fl, .int .i64 ki, .int .i64 co, .bool false, .int .i64 i0, .int .i64 i1, .int .i64 i2, .int .i64 i3, .int .u32 i4, .int .u32 i5, .int .i64 pa, .bool ba] :=
        ⟨⟨Blk.new _ _ _, own3.alloc _, hXm.out, hg1, by omega⟩, bh.alloc _, bp.alloc _, bel.alloc bel.size _, hne1, hne2⟩
      clear bh bp bel own3 hne1 hne2 hgl hhl hgl2 h1m h2m h3m
      go_upto_region 8 with fail
      generalize w3.alloc (.cells #[.slice (some ⟨g, 0, none⟩) m c1, .bool out] 62) = W3 at *
      generalize w3.heap.size = gw at *
      go_wp2_with fail
      refine (hadr.out _ _ _ _ hs.wr).mono ?_
      rintro e w4 ⟨rfl, h4', u4⟩
      replace hs := hs.step h4' u4
      clear h4' u4 hadr
      have q0 := hs.bh.cell 0
      have p0 := hs.bp.cell 0
      have p6 := hs.bp.cell 6
      go_wp2_with fail
      refine (hin.out _ _ _ _ hs.wr).mono ?_
      rintro e w5 ⟨rfl, h5', u5⟩
      replace hs := hs.step h5' u5
      have r0 := hs.wr.1.cell 0
      have hown := hs.wr.2.1
      have hbel := hs.bel
      clear q0 p0 p6 h5' u5
      go_wp2
      go_ret2
      exact ⟨⟨_, rfl, fun _ => hY.out ▸ hown, fun h => absurd rfl h⟩, hbel⟩
end
/- The walk of law 4's same. -/
theorem quiet_look {o : Oper} {a : Act} {C : World → Prop} {K : Act → Prop} (m x : Operand) (ho : o.op = .lookup 76 m x false) (b n : Nat) (F : Int → Int) (hm : a.eval m = .map (some b)) (h : ∀ w, C w → MapI w b n F) (key : Int) (hx : a.eval x = .int .i64 key) (h1 : inr .i64 key)
    (hk : K (a.put o.dst (.int .i64 (F key)))) : o.quiet Try.prog a C K :=
  quiet_run _ (fun w hw => by
    unfold execOp
    simp [ho, hm, hx, (h w hw).look h1, Result.andThen]) hk
theorem got_proto {X A B : List Int} {p : Pt} (hp : Pieces X A B) (hR : getR (hdOf X) X = (0, p)) : p.proto = (hdOf X).proto := by
  rw [hp.getR] at hR
  obtain ⟨c1, c2, c3, c4, _, _⟩ := ch_bds (a := 0) hp true (by omega)
  rcases getX_to hR with ⟨h1, h2⟩ | ⟨h1, h2⟩ | ⟨h1, h2⟩
  · rw [h1]
    unfold udpR at h2
    split at h2
    · cases h2
    split at h2
    · cases h2
    split at h2
    · cases h2
    simp only [Prod.mk.injEq, true_and] at h2
    rw [← h2]; rfl
  · rw [h1]
    unfold tcpR at h2
    split at h2
    · cases h2
    split at h2
    · cases h2
    split at h2
    · cases h2
    simp only [Prod.mk.injEq, true_and] at h2
    rw [← h2]; rfl
  · rw [h1]
    cases he : p.err with
    | false => exact (echo_again (h' := hdOf X) (src := true) (port := 0) hp.b8 (by omega) h2 he).2.1
    | true =>
      obtain ⟨E, I, J, _, _, _, _, _, _, _, _, _, _, _, h, _⟩ := err_of hp.b8 h2 he
      exact h
/-- what a walk wants to know of a frame that is got -/
theorem got_pre {X : List Int} {p : Pt} (h8 : Bytes8 X) (hE : getE X = 0) (hR : getR (hdOf X) X = (0, p)) : ∃ sz m : Nat, (hdOf X).size = sz ∧ (hdOf X).len = m ∧ 20 ≤ sz ∧ sz ≤ 60 ∧ sz + 8 ≤ m ∧ m ≤ 1500 ∧ m ≤ X.length ∧ p.proto = (hdOf X).proto ∧
    ((hdOf X).proto = 17 ∨ (hdOf X).proto = 6 ∨ (hdOf X).proto = 1) ∧
    (p.err = true → ∃ isz pat : Nat, p.inner.size = isz ∧ p.pat = pat ∧ pat + isz + 8 ≤ m ∧ 20 ≤ isz ∧ isz ≤ 60 ∧ sz + 8 ≤ pat + isz ∧ pat = sz + 8 ∧ p.proto = 1 ∧ (p.inner.proto = 17 ∨ p.inner.proto = 6 ∨ p.inner.proto = 1)) ∧
    (p.err = false → p.inner = Hd.z ∧ p.pat = 0) := by
  obtain ⟨A, B, hp⟩ := pieces h8 hE
  have hpr := got_proto hp hR
  rw [hp.getR] at hR
  have h15 := hp.ok.2.2.2.2.2.1
  obtain ⟨c1, c2, c3, c4, hs, hn⟩ := ch_bds (a := 0) hp true (by omega)
  have h20 := hp.ok.2.1
  have hle := hp.le
  have hsz := hp.sz
  have hB : 8 ≤ B.length ∧ ((hdOf X).proto = 17 ∨ (hdOf X).proto = 6 ∨ (hdOf X).proto = 1) ∧ (p.err = false → p.inner = Hd.z ∧ p.pat = 0) ∧ (p.err = true → icmpR (hdOf X) B = (0, p)) := by
    rcases getX_to hR with ⟨h1, h2⟩ | ⟨h1, h2⟩ | ⟨h1, h2⟩
    · unfold udpR at h2
      split at h2
      · cases h2
      split at h2
      · cases h2
      split at h2
      · cases h2
      simp only [Prod.mk.injEq, true_and] at h2
      subst h2
      exact ⟨by omega, .inl h1, fun _ => ⟨rfl, rfl⟩, fun h => by cases h⟩
    · unfold tcpR at h2
      split at h2
      · cases h2
      split at h2
      · cases h2
      split at h2
      · cases h2
      simp only [Prod.mk.injEq, true_and] at h2
      subst h2
      exact ⟨by omega, .inr (.inl h1), fun _ => ⟨rfl, rfl⟩, fun h => by cases h⟩
    · obtain ⟨hl, _⟩ := icmp_len h2
      refine ⟨hl, .inr (.inr h1), fun he => ?_, fun _ => h2⟩
      obtain ⟨_, hz⟩ := icmp_len h2
      unfold icmpR at h2
      rw [if_neg (by omega), if_neg (by simp [hz])] at h2
      split at h2
      · split at h2
        · cases h2
        · simp only [Prod.mk.injEq, true_and] at h2
          subst h2
          exact ⟨rfl, rfl⟩
      · split at h2
        · have := fault_err h2
          rw [he] at this; cases this
        · cases h2
  refine ⟨A.length, A.length + B.length, hs, by rw [hn]; omega, h20, hsz, by omega, h15, hle, hpr, hB.2.1, fun he => ?_, hB.2.2.1⟩
  obtain ⟨E, I, J, hBe, lE, lI, lI2, lJ, bE, bI, bJ, _, i1, i2, i3, i4, i5, i6, i7, i8, _⟩ := err_of hp.b8 (hB.2.2.2 he) he
  have hll : B.length = 8 + I.length + J.length := by rw [hBe, List.length_append, List.length_append]; omega
  exact ⟨I.length, A.length + 8, i1, by rw [i2, hs]; omega, by omega, lI, lI2, by omega, rfl, i3, by omega⟩
/- What a rewrite tells of all bytes, plain. -/
/-- a rewrite's error, and its frame -/
def rwE (l : List Int) : Int := if getE l ≠ 0 then getE l else (getR (hdOf l) l).1
def rwL (l : List Int) (out : Bool) (a port : Int) : List Int := if rwE l = 0 then chgW (l.take (hdOf l).len.toNat) (hdOf l) (getR (hdOf l) l).2 out a port else []
theorem rw_ok {l : List Int} (h : rwE l = 0) : getE l = 0 ∧ getR (hdOf l) l = (0, (getR (hdOf l) l).2) := by
  unfold rwE at h
  split at h
  · rename_i h1; exact absurd h h1
  · rename_i h1
    refine ⟨?_, by rw [← h]⟩
    rcases Decidable.em (getE l = 0) with e | e
    · exact e
    · exact absurd e h1
/-- what a rewrite tells of a frame that is got -/
theorem rw_again {l : List Int} (h8 : Bytes8 l) (h : rwE l = 0) (out : Bool) {a port : Int} (ha : 0 ≤ a ∧ a ≤ 4294967295) (hp : 0 ≤ port ∧ port ≤ 65535) : Again l (rwL l out a port) (hdOf l) (getR (hdOf l) l).2 out a port := by
  obtain ⟨h1, h2⟩ := rw_ok h
  unfold rwL
  rw [if_pos h]
  exact chg_got h8 h1 h2 ha hp
/- A frame rewritten, and back, plain; frames with more behind them. -/
theorem n2_inj {l l' : List Int} (h8 : Bytes8 l) (h8' : Bytes8 l') {i : Nat} (hi : i + 2 ≤ l.length) (hi' : i + 2 ≤ l'.length) (h : n2 l i = n2 l' i) {k : Nat} (hk : i ≤ k) (hk2 : k < i + 2) : l.getD k 0 = l'.getD k 0 := by
  rw [n2_eq _ _ hi, n2_eq _ _ hi'] at h
  have a0 := b0 h8 (k := i) (by omega)
  have a1 := b0 h8 (k := i + 1) (by omega)
  have c0 := b0 h8' (k := i) (by omega)
  have c1 := b0 h8' (k := i + 1) (by omega)
  rcases (by omega : k = i ∨ k = i + 1) with rfl | rfl <;> omega
theorem n4_inj {l l' : List Int} (h8 : Bytes8 l) (h8' : Bytes8 l') {i : Nat} (hi : i + 4 ≤ l.length) (hi' : i + 4 ≤ l'.length) (h : n4 l i = n4 l' i) {k : Nat} (hk : i ≤ k) (hk2 : k < i + 4) : l.getD k 0 = l'.getD k 0 := by
  rw [← n4_of hi, ← n4_of hi'] at h
  have a1 := n2_bd h8 (i := i) (by omega)
  have a2 := n2_bd h8 (i := i + 2) (by omega)
  have c1 := n2_bd h8' (i := i) (by omega)
  have c2 := n2_bd h8' (i := i + 2) (by omega)
  rcases Nat.lt_or_ge k (i + 2) with h1 | h1
  · exact n2_inj h8 h8' (by omega) (by omega) (i := i) (by omega) hk h1
  · exact n2_inj h8 h8' (by omega) (by omega) (i := i + 2) (by omega) h1 (by omega)
theorem Pieces.n2 {X A B : List Int} (h : Pieces X A B) {j : Nat} (hj : j + 2 ≤ B.length) : n2 B j = n2 X (A.length + j) := by
  rw [← n2_right A B j, n2_eq _ _ (by rw [List.length_append]; omega), n2_eq _ _ (by have := h.le; omega), h.at_ (by omega), h.at_ (by omega)]
theorem Pieces.n4 {X A B : List Int} (h : Pieces X A B) {j : Nat} (hj : j + 4 ≤ B.length) : n4 B j = n4 X (A.length + j) := by
  rw [← n4_right A B j, n4_eq _ _ (by rw [List.length_append]; omega), n4_eq _ _ (by have := h.le; omega), h.at_ (by omega), h.at_ (by omega), h.at_ (by omega), h.at_ (by omega)]
/-- where ports and inner addresses stand -/
theorem ports_at {X : List Int} {p : Pt} (h8 : Bytes8 X) (hE : getE X = 0) (hR : getR (hdOf X) X = (0, p)) :
    (p.err = false → p.proto ≠ 1 → p.src = n2 X ((hdOf X).size.toNat) ∧ p.dst = n2 X ((hdOf X).size.toNat + 2)) ∧
    (p.err = false → p.proto = 1 → p.src = n2 X ((hdOf X).size.toNat + 4) ∧ p.dst = n2 X ((hdOf X).size.toNat + 4)) ∧
    (p.err = true → p.inner.proto ≠ 1 → p.src = n2 X (p.pat.toNat + p.inner.size.toNat) ∧ p.dst = n2 X (p.pat.toNat + p.inner.size.toNat + 2)) ∧
    (p.err = true → p.inner.proto = 1 → p.src = n2 X (p.pat.toNat + p.inner.size.toNat + 4) ∧ p.dst = n2 X (p.pat.toNat + p.inner.size.toNat + 4)) ∧
    (p.err = true → p.inner.src = n4 X (p.pat.toNat + 12) ∧ p.inner.dst = n4 X (p.pat.toNat + 16)) := by
  obtain ⟨A, B, hp⟩ := pieces h8 hE
  obtain ⟨c1, c2, c3, c4, hs, hn⟩ := ch_bds (a := 0) hp true (by omega)
  have hsz : (hdOf X).size.toNat = A.length := by omega
  have hpr := got_proto hp hR
  rw [hp.getR] at hR
  rw [hsz]
  rcases getX_to hR with ⟨h1, h2⟩ | ⟨h1, h2⟩ | ⟨h1, h2⟩
  · obtain ⟨_, q2, q3, q4, _, q6, q7⟩ := udp_again (h' := hdOf X) (src := true) (port := 0) (o := 0) (a := 0) hp.b8 (by omega) (by omega) (by omega) c1 c2 c1 c2 (by unfold wd; omega) h2
    refine ⟨fun _ _ => ?_, (fun _ h => by omega), (fun h => by rw [q2] at h; cases h), (fun h => by rw [q2] at h; cases h), (fun h => by rw [q2] at h; cases h)⟩
    rw [q6, q7, hp.n2 (by omega), hp.n2 (by omega)]
    exact ⟨rfl, rfl⟩
  · obtain ⟨_, q2, q3, q4, q6, q7⟩ := tcp_again (h' := hdOf X) (src := true) (port := 0) (o := 0) (a := 0) hp.b8 (by omega) (by omega) (by omega) c1 c2 c1 c2 (by unfold wd; omega) h2
    refine ⟨fun _ _ => ?_, (fun _ h => by omega), (fun h => by rw [q2] at h; cases h), (fun h => by rw [q2] at h; cases h), (fun h => by rw [q2] at h; cases h)⟩
    rw [q6, q7, hp.n2 (by omega), hp.n2 (by omega)]
    exact ⟨rfl, rfl⟩
  · cases he : p.err with
    | false =>
      obtain ⟨hl, _⟩ := icmp_len h2
      obtain ⟨q1, q3, q4⟩ := echo_again (h' := hdOf X) (src := true) (port := 0) hp.b8 (by omega) h2 he
      refine ⟨fun _ h => absurd q3 h, fun _ _ => ?_, (fun h => by cases h), (fun h => by cases h), (fun h => by cases h)⟩
      have hd : p.dst = p.src := by
        obtain ⟨_, hz⟩ := icmp_len h2
        unfold icmpR at h2
        rw [if_neg (by omega), if_neg (by simp [hz])] at h2
        split at h2
        · split at h2
          · cases h2
          · simp only [Prod.mk.injEq, true_and] at h2
            subst h2; rfl
        · split at h2
          · have := fault_err h2
            rw [he] at this; cases this
          · cases h2
      rw [hd, q4, hp.n2 (by omega)]
      exact ⟨rfl, rfl⟩
    | true =>
      obtain ⟨E, I, J, hBe, lE, lI, lI2, lJ, bE, bI, bJ, _, i1, i2, i3, i4, i5, i6, i7, i8, _⟩ := err_of hp.b8 h2 he
      have hll : B.length = 8 + I.length + J.length := by rw [hBe, List.length_append, List.length_append]; omega
      have hpat : p.pat.toNat = A.length + 8 := by rw [i2, hs]; omega
      have hinr : p.inner.size.toNat = I.length := by rw [i1]; rfl
      have eJ : ∀ j, j + 2 ≤ J.length → Go.Proofs.Ytgfjdnbejmmckaa.n2 J j = Go.Proofs.Ytgfjdnbejmmckaa.n2 X (A.length + 8 + I.length + j) := fun j hj => by
        rw [← n2_right I J j, ← n2_right E (I ++ J) (I.length + j), ← hBe, hp.n2 (by omega), lE]
        congr 1; omega
      have eI : ∀ j, j + 4 ≤ I.length → Go.Proofs.Ytgfjdnbejmmckaa.n4 (I ++ J) j = Go.Proofs.Ytgfjdnbejmmckaa.n4 X (A.length + 8 + j) := fun j hj => by
        rw [← n4_right E (I ++ J) j, ← hBe, hp.n4 (by omega), lE]
        congr 1; omega
      refine ⟨(fun h => by cases h), (fun h => by cases h), fun _ h => ?_, fun _ h => ?_, fun _ => ?_⟩
      · rcases i8 with ⟨_, a1, a2⟩ | ⟨a1, _⟩
        · rw [a1, a2, eJ 0 (by omega), eJ 2 (by omega), hpat, hinr]; exact ⟨rfl, rfl⟩
        · exact absurd a1 h
      · rcases i8 with ⟨a1, _⟩ | ⟨_, _, a1, a2⟩
        · omega
        · rw [a1, a2, eJ 4 (by omega), hpat, hinr]; exact ⟨rfl, rfl⟩
      · rw [i6, hpat]
        exact ⟨eI 12 (by omega), eI 16 (by omega)⟩
theorem freeF_ch (h : Hd) (p : Pt) (a port : Int) : freeF (chH h true a) (chP p true a port) true = freeF h p true := by
  obtain ⟨pr, sr, ds, fl, ki, co, er, ⟨i0, i1, i2, i3, i4, i5⟩, pa, ba⟩ := p
  unfold chP
  cases er <;> rfl
theorem putF_ne {F : Int → Int} {a n v k : Int} (h : putF F a n v k ≠ v) : ¬ (a ≤ k ∧ k < a + n) ∧ putF F a n v k = F k := by
  unfold putF at h ⊢
  split
  · rename_i hc; rw [if_pos hc] at h; exact absurd rfl h
  · rename_i hc; exact ⟨hc, rfl⟩
theorem putF_or (F : Int → Int) (a n v k : Int) : (a ≤ k ∧ k < a + n) ∨ putF F a n v k = F k := by
  unfold putF
  split
  · rename_i hc; exact .inl hc
  · exact .inr rfl
/-- a byte that is no sum's: it is an address's or a port's, or it may be no other one -/
theorem free_places {h : Hd} {p : Pt} {k : Int} (hpr : h.proto = 17 ∨ h.proto = 6 ∨ h.proto = 1) (hpe : p.err = true → h.proto = 1) (hin : p.err = true → p.inner.proto = 17 ∨ p.inner.proto = 6 ∨ p.inner.proto = 1) (hk : freeF h p true k ≠ 3) : freeF h p true k = 0 ∨ (12 ≤ k ∧ k < 16) ∨
    (p.err = false ∧ h.proto ≠ 1 ∧ h.size ≤ k ∧ k < h.size + 2) ∨ (p.err = false ∧ h.proto = 1 ∧ h.size + 4 ≤ k ∧ k < h.size + 6) ∨
    (p.err = true ∧ p.pat + 16 ≤ k ∧ k < p.pat + 20) ∨ (p.err = true ∧ p.inner.proto ≠ 1 ∧ p.pat + p.inner.size + 2 ≤ k ∧ k < p.pat + p.inner.size + 4) ∨ (p.err = true ∧ p.inner.proto = 1 ∧ p.pat + p.inner.size + 4 ≤ k ∧ k < p.pat + p.inner.size + 6) := by
  have hf0 : f0 true k ≠ 3 → f0 true k = 0 ∨ (12 ≤ k ∧ k < 16) := by
    intro h
    unfold f0 at h ⊢
    rcases putF_or (fun k => if k = 11 then 3 else if k = 10 then 3 else 0) (if true = true then 12 else 16) 4 1 k with h1 | h1
    · exact .inr (by simpa using h1)
    · rw [h1] at h ⊢
      left
      split
      · rename_i hc; rw [if_pos hc] at h; exact absurd rfl h
      · rename_i hc; rw [if_neg hc] at h
        split
        · rename_i hc; rw [if_pos hc] at h; exact absurd rfl h
        · rfl
  cases he : p.err with
  | false =>
    rcases hpr with h1 | h1 | h1
    · cases hb : p.bare with
      | true =>
        rw [freeF_bare h1 hb] at hk ⊢
        rcases putF_or (f0 true) (h.size + (if true = true then 0 else 2)) 2 2 k with e | e
        · simp only [if_true] at e; exact .inr (.inr (.inl ⟨rfl, by omega, by omega, by omega⟩))
        · rw [e] at hk ⊢; exact (hf0 hk).imp id .inl
      | false =>
        rw [freeF_udp h1 hb] at hk ⊢
        obtain ⟨_, e⟩ := putF_ne hk
        rw [e] at hk ⊢
        rcases putF_or (f0 true) (h.size + (if true = true then 0 else 2)) 2 2 k with e | e
        · simp only [if_true] at e; exact .inr (.inr (.inl ⟨rfl, by omega, by omega, by omega⟩))
        · rw [e] at hk ⊢; exact (hf0 hk).imp id .inl
    · rw [freeF_tcp h1] at hk ⊢
      obtain ⟨_, e⟩ := putF_ne hk
      rw [e] at hk ⊢
      rcases putF_or (f0 true) (h.size + (if true = true then 0 else 2)) 2 2 k with e | e
      · simp only [if_true] at e; exact .inr (.inr (.inl ⟨rfl, by omega, by omega, by omega⟩))
      · rw [e] at hk ⊢; exact (hf0 hk).imp id .inl
    · rw [freeF_echo h1 he] at hk ⊢
      obtain ⟨_, e⟩ := putF_ne hk
      rw [e] at hk ⊢
      rcases putF_or (f0 true) (h.size + 4) 2 2 k with e | e
      · exact .inr (.inr (.inr (.inl ⟨rfl, h1, by omega, by omega⟩)))
      · rw [e] at hk ⊢; exact (hf0 hk).imp id .inl
  | true =>
    have h1 := hpe he
    have hi := hin he
    rw [freeF_err h1 he hi] at hk ⊢
    obtain ⟨_, e⟩ := putF_ne hk
    rw [e] at hk ⊢
    rcases putF_or (fe h p true) (p.pat + p.inner.size + (if p.inner.proto = 1 then 4 else if true = true then 2 else 0)) 2 2 k with e | e
    · split at e
      · rename_i hi1; exact .inr (.inr (.inr (.inr (.inr (.inr ⟨rfl, hi1, by omega, by omega⟩)))))
      · rename_i hi1; simp only [if_true] at e; exact .inr (.inr (.inr (.inr (.inr (.inl ⟨rfl, hi1, by omega, by omega⟩)))))
    · rw [e] at hk ⊢
      unfold fe at hk ⊢
      obtain ⟨_, e⟩ := putF_ne hk
      rw [e] at hk ⊢
      rcases putF_or (putF (f0 true) (h.size + 2) 2 3) (p.pat + (if true = true then 16 else 12)) 4 1 k with e | e
      · simp only [if_true] at e; exact .inr (.inr (.inr (.inr (.inl ⟨rfl, by omega, by omega⟩))))
      · rw [e] at hk ⊢
        obtain ⟨_, e⟩ := putF_ne hk
        rw [e] at hk ⊢
        exact (hf0 hk).imp id .inl
/-- out, and back to what it was -/
theorem rw_back {X : List Int} (h8 : Bytes8 X) (h : rwE X = 0) {a port : Int} (ha : 0 ≤ a ∧ a ≤ 4294967295) (hp : 0 ≤ port ∧ port ≤ 65535) (p : Pt) (hpe : (getR (hdOf X) X).2 = p) (was : Int) (hw : was = if p.err = true then p.dst else p.src) (hwb : 0 ≤ was ∧ was ≤ 65535) :
    rwE (rwL X true a port) = 0 ∧ ((rwL (rwL X true a port) true (hdOf X).src was).length : Int) = (hdOf X).len ∧
    (¬ (p.err = true ∧ p.inner.dst ≠ (hdOf X).src) → ∀ k : Nat, k < (rwL (rwL X true a port) true (hdOf X).src was).length → freeF (hdOf X) p true k ≠ 3 → (rwL (rwL X true a port) true (hdOf X).src was).getD k 0 = X.getD k 0) := by
  obtain ⟨hE, hR⟩ := rw_ok h
  rw [hpe] at hR
  obtain ⟨A, B, hpc⟩ := pieces h8 hE
  have s12 := n4_bd hpc.ok.1 (i := 12) (by have := hpc.ok.2.1; omega)
  have hsrc : 0 ≤ (hdOf X).src ∧ (hdOf X).src ≤ 4294967295 := by rw [hpc.hd]; exact s12
  have ag := rw_again h8 h true ha hp
  rw [hpe] at ag
  have hY0 : rwE (rwL X true a port) = 0 := by unfold rwE; rw [if_neg (by simp [ag.getE]), ag.part]
  have ag2 := rw_again ag.b8 hY0 true hsrc hwb
  have hq : (getR (hdOf (rwL X true a port)) (rwL X true a port)).2 = chP p true a port := by rw [ag.part]
  rw [hq, ag.hd] at ag2
  obtain ⟨sz, m, t1, t2, t3, t4, t5, t6, t7, t8, t9, t10, _⟩ := got_pre h8 hE hR
  have hl1 : (rwL X true a port).length = m := by have := ag.len; omega
  have hl2 : (rwL (rwL X true a port) true (hdOf X).src was).length = m := by have := ag2.len; have e : (chH (hdOf X) true a).len = (hdOf X).len := rfl; omega
  refine ⟨hY0, by rw [hl2, t2], fun hne k hk hf => ?_⟩
  have hpl := free_places t9 (fun he => by obtain ⟨_, _, _, _, _, _, _, _, _, e, _⟩ := t10 he; omega) (fun he => by obtain ⟨_, _, _, _, _, _, _, _, _, _, e⟩ := t10 he; exact e) hf
  have f1 := ag.far k (by omega)
  have f2 := ag2.far k hk
  rw [freeF_ch] at f2
  have z8 := ag2.b8
  have zhd := ag2.hd
  have zE := ag2.getE
  have zR := ag2.part
  obtain ⟨z1, z2, z3, z4, z5⟩ := ports_at z8 zE zR
  obtain ⟨x1, x2, x3, x4, x5⟩ := ports_at h8 hE hR
  have zs : (hdOf (rwL (rwL X true a port) true (hdOf X).src was)).size = (hdOf X).size := by rw [zhd]; rfl
  have zsrc : n4 (rwL (rwL X true a port) true (hdOf X).src was) 12 = n4 X 12 := by
    have e1 : (hdOf (rwL (rwL X true a port) true (hdOf X).src was)).src = n4 (rwL (rwL X true a port) true (hdOf X).src was) 12 := rfl
    rw [← e1, zhd]; rfl
  rw [zs] at z1 z2
  generalize rwL (rwL X true a port) true (hdOf X).src was = Z at *
  have hsn : (hdOf X).size.toNat = sz := by omega
  rw [hsn] at z1 z2 x1 x2
  rcases hpl with c | c | c | c | c | c | c
  · rw [f2 c, f1 c]
  · exact n4_inj z8 h8 (by omega) (by omega) zsrc (i := 12) (by omega) (by omega)
  · obtain ⟨c1, c2, c3, c4⟩ := c
    have e1 : (chP (chP p true a port) true (hdOf X).src was).err = false := by unfold chP; rw [c1]; simp [chPorts, c1]
    have e2 : (chP (chP p true a port) true (hdOf X).src was).proto ≠ 1 := by unfold chP; rw [c1]; simp [chPorts, c1]; omega
    have e3 : (chP (chP p true a port) true (hdOf X).src was).src = was := by unfold chP; rw [c1]; simp [chPorts, c1]
    have hw' : was = p.src := by rw [hw, if_neg (by simp [c1])]
    refine n2_inj z8 h8 (by omega) (by omega) (i := sz) ?_ (by omega) (by omega)
    rw [← (z1 e1 e2).1, e3, hw', (x1 c1 (by omega)).1]
  · obtain ⟨c1, c2, c3, c4⟩ := c
    have e1 : (chP (chP p true a port) true (hdOf X).src was).err = false := by unfold chP; rw [c1]; simp [chPorts, c1]
    have e2 : (chP (chP p true a port) true (hdOf X).src was).proto = 1 := by unfold chP; rw [c1]; simp [chPorts, c1]; omega
    have e3 : (chP (chP p true a port) true (hdOf X).src was).src = was := by unfold chP; rw [c1]; simp [chPorts, c1]
    have hw' : was = p.src := by rw [hw, if_neg (by simp [c1])]
    refine n2_inj z8 h8 (by omega) (by omega) (i := sz + 4) ?_ (by omega) (by omega)
    rw [← (z2 e1 e2).1, e3, hw', (x2 c1 (by omega)).1]
  · obtain ⟨c1, c3, c4⟩ := c
    obtain ⟨isz, pat, u1, u2, u3, u4, u5, u6, u7, u8, u9⟩ := t10 c1
    have e1 : (chP (chP p true a port) true (hdOf X).src was).err = true := by unfold chP; rw [c1]; simp [chPorts, c1]
    have e2 : (chP (chP p true a port) true (hdOf X).src was).pat = p.pat := by unfold chP; rw [c1]; simp [chPorts, c1]
    have e3 : (chP (chP p true a port) true (hdOf X).src was).inner.dst = (hdOf X).src := by unfold chP; rw [c1]; simp [chPorts, c1, chH]
    have hdst : p.inner.dst = (hdOf X).src := by
      rcases Decidable.em (p.inner.dst = (hdOf X).src) with e | e
      · exact e
      · exact absurd ⟨c1, e⟩ hne
    have hz := (z5 e1).2
    rw [e2, e3, u2, Int.toNat_natCast] at hz
    have hx := (x5 c1).2
    rw [hdst, u2, Int.toNat_natCast] at hx
    exact n4_inj z8 h8 (by omega) (by omega) (i := pat + 16) (by rw [← hz, hx]) (by omega) (by omega)
  · obtain ⟨c1, c2, c3, c4⟩ := c
    obtain ⟨isz, pat, u1, u2, u3, u4, u5, u6, u7, u8, u9⟩ := t10 c1
    have e1 : (chP (chP p true a port) true (hdOf X).src was).err = true := by unfold chP; rw [c1]; simp [chPorts, c1]
    have e2 : (chP (chP p true a port) true (hdOf X).src was).pat = p.pat ∧ (chP (chP p true a port) true (hdOf X).src was).inner.size = p.inner.size ∧ (chP (chP p true a port) true (hdOf X).src was).inner.proto = p.inner.proto := by unfold chP; rw [c1]; simp [chPorts, c1, chH]
    have e3 : (chP (chP p true a port) true (hdOf X).src was).dst = was := by unfold chP; rw [c1]; simp [chPorts, c1, chH]
    have hw' : was = p.dst := by rw [hw, if_pos c1]
    have hz := (z3 e1 (by rw [e2.2.2]; exact c2)).2
    rw [e2.1, e2.2.1, e3, u2, u1, Int.toNat_natCast, Int.toNat_natCast] at hz
    have hx := (x3 c1 c2).2
    rw [u2, u1, Int.toNat_natCast, Int.toNat_natCast] at hx
    exact n2_inj z8 h8 (by omega) (by omega) (i := pat + isz + 2) (by rw [← hz, hw', hx]) (by omega) (by omega)
  · obtain ⟨c1, c2, c3, c4⟩ := c
    obtain ⟨isz, pat, u1, u2, u3, u4, u5, u6, u7, u8, u9⟩ := t10 c1
    have e1 : (chP (chP p true a port) true (hdOf X).src was).err = true := by unfold chP; rw [c1]; simp [chPorts, c1]
    have e2 : (chP (chP p true a port) true (hdOf X).src was).pat = p.pat ∧ (chP (chP p true a port) true (hdOf X).src was).inner.size = p.inner.size ∧ (chP (chP p true a port) true (hdOf X).src was).inner.proto = p.inner.proto := by unfold chP; rw [c1]; simp [chPorts, c1, chH]
    have e3 : (chP (chP p true a port) true (hdOf X).src was).dst = was := by unfold chP; rw [c1]; simp [chPorts, c1, chH]
    have hw' : was = p.dst := by rw [hw, if_pos c1]
    have hz := (z4 e1 (by rw [e2.2.2]; exact c2)).2
    rw [e2.1, e2.2.1, e3, u2, u1, Int.toNat_natCast, Int.toNat_natCast] at hz
    have hx := (x4 c1 c2).2
    rw [u2, u1, Int.toNat_natCast, Int.toNat_natCast] at hx
    exact n2_inj z8 h8 (by omega) (by omega) (i := pat + isz + 4) (by rw [← hz, hw', hx]) (by omega) (by omega)
/-! ### more behind a frame -/
theorem HdOk.got_more {A B : List Int} {m : Nat} (h : HdOk A m) (hB : m ≤ B.length) : getE (A ++ B) = 0 ∧ hdOf (A ++ B) = ⟨A.length, A.length + m, A.getD 8 0, A.getD 9 0, n4 A 12, n4 A 16⟩ := by
  obtain ⟨h8, h20, hs, h4, h2, h15, hsum, h6⟩ := h
  have e0 : (A ++ B).getD 0 0 = A.getD 0 0 := getD_left (by omega)
  have e2 : Go.Proofs.Ytgfjdnbejmmckaa.n2 (A ++ B) 2 = Go.Proofs.Ytgfjdnbejmmckaa.n2 A 2 := n2_left (by omega)
  have e6 : Go.Proofs.Ytgfjdnbejmmckaa.n2 (A ++ B) 6 = Go.Proofs.Ytgfjdnbejmmckaa.n2 A 6 := n2_left (by omega)
  have hl : (A ++ B).length = A.length + B.length := by rw [List.length_append]
  refine ⟨getE_mk (by omega) (by rw [e0]; exact h4) (by rw [e0]; omega) (by rw [e0]; omega) (by rw [e0, e2]; omega) (by rw [e2]; omega) (by rw [e2]; omega) ?_ (by rw [e6]; exact h6), ?_⟩
  · rw [e0, ← hs, Int.toNat_natCast, List.take_left]; exact hsum
  · unfold hdOf
    rw [e0, e2, getD_left (by omega), getD_left (by omega), n4_left (by omega), n4_left (by omega), ← hs, h2]
theorem rw_long {F r : List Int} (h8 : Bytes8 F) (h : rwE F = 0) (hlen : (hdOf F).len = F.length) (out : Bool) (a port : Int) : rwE (F ++ r) = 0 ∧ rwL (F ++ r) out a port = rwL F out a port := by
  obtain ⟨hE, hR⟩ := rw_ok h
  obtain ⟨A, B, hp⟩ := pieces h8 hE
  obtain ⟨c1, c2, c3, c4, hs, hn⟩ := ch_bds (a := 0) hp true (by omega)
  have hF : F = A ++ B := by
    have := hp.cut
    rw [hlen, Int.toNat_natCast, List.take_length] at this
    exact this
  have hl : F.length = A.length + B.length := by rw [hF, List.length_append]
  obtain ⟨g1, g2⟩ := hp.ok.got_more (B := B ++ r) (by rw [List.length_append]; omega)
  have e1 : F ++ r = A ++ (B ++ r) := by rw [hF, List.append_assoc]
  have e2 : hdOf (F ++ r) = hdOf F := by rw [e1, g2, hp.hd]
  have h20 := hp.ok.2.1
  have hsz := hp.sz
  have e3 : getR (hdOf F) (F ++ r) = getR (hdOf F) F := by
    rw [hp.getR]
    refine getR_mid (by omega) (by omega) (by rw [List.length_append]; omega) ?_
    have e : ((hdOf F).len - (hdOf F).size).toNat = B.length := by omega
    rw [e, hs, Int.toNat_natCast, e1, ← List.append_assoc]
    have := seg_app (A := A) (B := B) (C := r) (i := A.length) (n := B.length) rfl rfl
    rw [← List.append_assoc] at this
    exact this
  have e4 : rwE (F ++ r) = 0 := by
    unfold rwE at h ⊢
    rw [e1, if_neg (by simp [g1]), ← e1, e2, e3]
    rw [if_neg (by simp [hE])] at h
    exact h
  refine ⟨e4, ?_⟩
  unfold rwL
  rw [if_pos e4, if_pos h, e2, e3]
  congr 1
  rw [hlen, Int.toNat_natCast, List.take_left, List.take_length]
end Go.Proofs.Ytgfjdnbejmmckaa
