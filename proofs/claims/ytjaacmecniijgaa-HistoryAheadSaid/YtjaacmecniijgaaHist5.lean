/- The law's To. -/
import Derived.Test.YtjaacmecniijgaaHist4
import Derived.Test.YtjaacmecniijgaaFloat2
import Derived.Test.YtjaacmecniijgaaApp0
namespace Go.Proofs.Ytjaacmecniijgaa
set_option linter.unusedVariables false
set_option linter.unusedSimpArgs false
open Go.RowKit
theorem wp_stRow {P : Program} {o : Oper} {a : Act} {K : Act → World → Prop} {Q : Exit → Act → World → Prop} {w : World} (hd : o.dst = none) {t : TypeId} {p v : Operand} (ho : o.op = .store t p v) {g : Nat} (hp : a.eval p = .pointer (some ⟨g, 0, none⟩)) {cs : Array Value} (hv : a.eval v = .agg cs) {tt : TypeId} {old : Array Value}
    (hb : Blk w g tt old) (hi : (P.info? t).map (·.size) = some cs.size) (hs : old.size = cs.size) (h1 : cs.all (·.oneCell') = true) (h : K a (w.setRow g cs)) : o.wp P a w K Q := by
  have hr : (execOp a.eval o).run P w = .ok .skip (w.setRow g cs) := by
    have h2 := run_storeVar_row (P := P) w g tt t old cs hb hi hs h1
    simp only [execOp, ho, hp, hv, Instr.storeAt, Instr.sureAddr, Sem.run_bind, Sem.run_pure, Result.andThen, h2]
  unfold Oper.wp
  rw [hr, Oper.upon_skip, hd]
  exact h
def IsEn (w : World) (g : Nat) : Prop := ∃ cs : Array Value, cs.size = 11 ∧ Blk w g 31 cs
def ToS (W : World) (B : Nat) (w' : World) : Prop := Below B W w' ∧ IsEn w' B ∧ B < w'.heap.size
theorem ToS.alloc {W w' : World} {B : Nat} (h : ToS W B w') (o : Obj) : ToS W B (w'.alloc o) := by
  obtain ⟨h1, ⟨cs, h2, h3⟩, h4⟩ := h
  exact ⟨h1.alloc (by omega) o, ⟨cs, h2, h3.alloc o⟩, by simp; omega⟩
theorem ToS.bel {W w' w2 : World} {B : Nat} (h : ToS W B w') (hb : Below w'.heap.size w' w2) : ToS W B w2 := by
  obtain ⟨h1, ⟨cs, h2, h3⟩, h4⟩ := h
  exact ⟨h1.trans (hb.mono (by omega)), ⟨cs, h2, h3.bel hb⟩, by have := hb.size; omega⟩
theorem KeepO.of_bel {o : Obj} {w w' : World} (h : Below w.heap.size w w') : KeepO o w w' := fun k hk => by
  have hlt : k < w.heap.size := (Array.getElem?_eq_some_iff.1 hk).1
  rw [h.block k hlt]; exact hk
def ToR (w : World) (x : En) (e : Ending) (w' : World) : Prop := ∃ s t : Sl, e = .returned (.agg #[.int .i64 { x with f := s, g := t }.b, .int .i64 { x with f := s, g := t }.e, .bool { x with f := s, g := t }.ends, .bool { x with f := s, g := t }.out, .slice { x with f := s, g := t }.f.A { x with f := s, g := t }.f.n { x with f := s, g := t }.f.c, .int .i64 { x with f := s, g := t }.tick, .int .i64 { x with f := s, g := t }.port, .slice { x with f := s, g := t }.g.A { x with f := s, g := t }.g.n { x with f := s, g := t }.g.c, .int .i64 { x with f := s, g := t }.err, .int .i64 { x with f := s, g := t }.proto, .int .i64 { x with f := s, g := t }.pt]) ∧ Below w.heap.size w w'
set_option maxRecDepth 100000 in
set_option maxHeartbeats 4000000 in
theorem hTo_any (x : En) (F G : List Int) (w : World) (hr : EnR w x F G) (hF : F.length ≤ 140737488355328) (hG : G.length ≤ 140737488355328) :
    Calls Try.prog 6 #[.agg #[.int .i64 x.b, .int .i64 x.e, .bool x.ends, .bool x.out, .slice x.f.A x.f.n x.f.c, .int .i64 x.tick, .int .i64 x.port, .slice x.g.A x.g.n x.g.c, .int .i64 x.err, .int .i64 x.proto, .int .i64 x.pt]] w (ToR w x) := by
  obtain ⟨⟨hf, hf1, hf2⟩, ⟨hg, hg1, hg2⟩⟩ := hr
  have hfl := hf.len
  have hgl := hg.len
  obtain ⟨i0, hi, hz0, hz1, hz2⟩ := info_parts info_u8_
  replace hfl := Lib.hid hfl
  replace hgl := Lib.hid hgl
  go_enter Try.func6, Try.ntmps6
  go_upto_region 1 with fail
  have bx := (Blk.new w 35 #[.int .i64 x.b, .int .i64 x.e, .bool x.ends, .bool x.out, .slice x.f.A x.f.n x.f.c, .int .i64 x.tick, .int .i64 x.port, .slice x.g.A x.g.n x.g.c, .int .i64 x.err, .int .i64 x.proto, .int .i64 x.pt]).alloc (.cells #[.int .i64 0, .int .i64 0, .bool false, .bool false, .slice none 0 0, .int .i64 0, .int .i64 0, .slice none 0 0, .int .i64 0, .int .i64 0, .int .i64 0] 31)
  have br := Blk.new (w.alloc (.cells #[.int .i64 x.b, .int .i64 x.e, .bool x.ends, .bool x.out, .slice x.f.A x.f.n x.f.c, .int .i64 x.tick, .int .i64 x.port, .slice x.g.A x.g.n x.g.c, .int .i64 x.err, .int .i64 x.proto, .int .i64 x.pt] 35)) 31 #[.int .i64 0, .int .i64 0, .bool false, .bool false, .slice none 0 0, .int .i64 0, .int .i64 0, .slice none 0 0, .int .i64 0, .int .i64 0, .int .i64 0]
  rw [show (w.alloc (.cells #[.int .i64 x.b, .int .i64 x.e, .bool x.ends, .bool x.out, .slice x.f.A x.f.n x.f.c, .int .i64 x.tick, .int .i64 x.port, .slice x.g.A x.g.n x.g.c, .int .i64 x.err, .int .i64 x.proto, .int .i64 x.pt] 35)).heap.size = w.heap.size + 1 by simp] at br
  have bel : Below w.heap.size w ((w.alloc (.cells #[.int .i64 x.b, .int .i64 x.e, .bool x.ends, .bool x.out, .slice x.f.A x.f.n x.f.c, .int .i64 x.tick, .int .i64 x.port, .slice x.g.A x.g.n x.g.c, .int .i64 x.err, .int .i64 x.proto, .int .i64 x.pt] 35)).alloc (.cells #[.int .i64 0, .int .i64 0, .bool false, .bool false, .slice none 0 0, .int .i64 0, .int .i64 0, .slice none 0 0, .int .i64 0, .int .i64 0, .int .i64 0] 31)) := (bel_alloc _ _).alloc (by simp) _
  generalize (w.alloc (.cells #[.int .i64 x.b, .int .i64 x.e, .bool x.ends, .bool x.out, .slice x.f.A x.f.n x.f.c, .int .i64 x.tick, .int .i64 x.port, .slice x.g.A x.g.n x.g.c, .int .i64 x.err, .int .i64 x.proto, .int .i64 x.pt] 35)).alloc (.cells #[.int .i64 0, .int .i64 0, .bool false, .bool false, .slice none 0 0, .int .i64 0, .int .i64 0, .slice none 0 0, .int .i64 0, .int .i64 0, .int .i64 0] 31) = W at *
  have z : ∀ (t : Tw (ToS W (w.heap.size + 1))) (i : Nat), t.w.cell? ⟨w.heap.size, i, none⟩ = (#[.int .i64 x.b, .int .i64 x.e, .bool x.ends, .bool x.out, .slice x.f.A x.f.n x.f.c, .int .i64 x.tick, .int .i64 x.port, .slice x.g.A x.g.n x.g.c, .int .i64 x.err, .int .i64 x.proto, .int .i64 x.pt] : Array Value)[i]? := fun t i => (bx.below t.h.1 (by omega)).cell i
  have zz : Nonempty (Tw (ToS W (w.heap.size + 1))) := ⟨⟨W, Below.refl _ _, ⟨_, rfl, br⟩, br.lt⟩⟩
  have hS0 : ToS W (w.heap.size + 1) W.drew := ⟨(Below.refl _ _).drew, ⟨_, rfl, br.drew⟩, br.lt⟩
  refine wp_region_float (ToS W (w.heap.size + 1)) (.cells #[] 5) (w.heap.size + 2) (fun h => .slice (some ⟨h, 0, none⟩) 0 0) 21 _ [(0, true), (1, true), (2, true), (3, true), (4, true), (5, true), (6, true), (7, true), (8, true), (10, true), (11, true), (12, true), (14, true), (15, true), (16, true), (17, true), (18, true), (19, true), (22, true), (23, true), (25, true), (26, true), (28, true), (29, true), (30, true), (31, true), (9, false), (13, false), (20, true)] [(24, false), (27, true), (32, true), (33, false)] (by kernel_rfl) (by kernel_rfl) (by rfl) (by rfl) (by kernel_rfl) (by kernel_rfl) hS0 (fun w h => h.alloc _) (fun w h => by have := h.2.2; omega) (by intro a w; simp [execOp, go_sem]) ?_
  clear hS0
  have bel0 := bel
  replace bx := bx.drew
  replace br := br.drew
  replace bel := bel.drew
  have z0 := fun t => z t 0
  have z1 := fun t => z t 1
  have z2 := fun t => z t 2
  have z3 := fun t => z t 3
  have z4 := fun t => z t 4
  have z5 := fun t => z t 5
  have z6 := fun t => z t 6
  have z7 := fun t => z t 7
  have z8 := fun t => z t 8
  have z9 := fun t => z t 9
  have z10 := fun t => z t 10
  clear z
  refine wpFl_qs 26 _ _ _ (by kernel_rfl) (by kernel_rfl) (by simp) ?_
  unfold clsS
  simp only [List.take_succ_cons, List.take_zero, List.drop_succ_cons, List.drop_zero, List.filterMap_cons, List.filterMap_nil, List.getElem?_toArray, List.getElem?_cons_zero, List.getElem?_cons_succ]
  repeat (first
    | go_big_quiet_skip
    | (go_big_quiet_want; go_big_quiet_op; go_big_quiet_on)
    | (refine id (?_ : wpQuiet _ _ _ _ (_ :: _) _); first | go_big_quiet_skip | (go_big_quiet_want; go_big_quiet_op; go_big_quiet_on)))
  refine wpQuiet_nil ?_
  refine wpFl_e (fun _ => True) _ (by rfl) (by kernel_rfl) trivial (fun _ _ => trivial) (fun w1 _ hS1 K hK => ?_)
  go_simp
  refine hK _ _ (hS1.alloc _) (KeepO.of_bel (bel_alloc _ _)) ?_
  clear hK K
  replace hS1 := hS1.alloc (.cells #[] 5)
  generalize w1.alloc (.cells #[] 5) = w2 at *
  generalize w1.heap.size = g9 at *
  refine wpFl_e (fun _ => True) _ (by rfl) (by kernel_rfl) trivial (fun _ _ => trivial) (fun w3 _ hS3 K hK => ?_)
  refine wp_app0 w3 (.tmp 12) (.tmp 15) 24 rfl 5 i0 (.int .u8 0) Try.underlying24 hi hz0 hz1 hz2 g9 w.heap.size x.f.A x.f.n x.f.c rfl rfl F ((hf.below bel0).below (hS3.1.mono (by omega))) (by rw [← hfl.out]; omega) ?_
  intro sA sn sc w4 hb4
  go_simp
  replace hS3 := hS3.bel hb4
  refine hK _ _ hS3 (KeepO.of_bel hb4) ?_
  clear hK K hb4 hS1
  refine wpFl_qs 1 _ _ _ (by kernel_rfl) (by kernel_rfl) (by simp) ?_
  unfold clsS
  simp only [List.take_succ_cons, List.take_zero, List.drop_succ_cons, List.drop_zero, List.filterMap_cons, List.filterMap_nil, List.getElem?_toArray, List.getElem?_cons_zero, List.getElem?_cons_succ]
  repeat (first
    | go_big_quiet_skip
    | (go_big_quiet_want; go_big_quiet_op; go_big_quiet_on)
    | (refine id (?_ : wpQuiet _ _ _ _ (_ :: _) _); first | go_big_quiet_skip | (go_big_quiet_want; go_big_quiet_op; go_big_quiet_on)))
  refine wpQuiet_nil ?_
  unfold wpFl
  refine ⟨fun _ => True, trivial, fun _ _ => trivial, fun w5 g21 _ hS5 _ _ => ?_⟩
  clear hS3
  go_simp
  refine wpPl_e _ (by rfl) (by kernel_rfl) (fun K hK => ?_)
  refine wp_app0 w5 (.tmp 24) (.tmp 26) 24 rfl 5 i0 (.int .u8 0) Try.underlying24 hi hz0 hz1 hz2 g21 w.heap.size x.g.A x.g.n x.g.c rfl rfl G ((hg.below bel0).below (hS5.1.mono (by omega))) (by rw [← hgl.out]; omega) ?_
  intro tA tn tc w6 hb6
  go_simp
  replace hS5 := hS5.bel hb6
  refine hK _ _ hS5 ?_
  clear hK K hb6
  refine wpPl_qs 2 _ _ _ (by kernel_rfl) (by kernel_rfl) (by simp) ?_
  unfold clsS
  simp only [List.take_succ_cons, List.take_zero, List.drop_succ_cons, List.drop_zero, List.filterMap_cons, List.filterMap_nil, List.getElem?_toArray, List.getElem?_cons_zero, List.getElem?_cons_succ]
  repeat (first
    | go_big_quiet_skip
    | (go_big_quiet_want; go_big_quiet_op; go_big_quiet_on)
    | (refine id (?_ : wpQuiet _ _ _ _ (_ :: _) _); first | go_big_quiet_skip | (go_big_quiet_want; go_big_quiet_op; go_big_quiet_on)))
  refine wpQuiet_nil ?_
  obtain ⟨h1, ⟨cs, h2, h3⟩, h4⟩ := hS5
  refine wpPl_e _ (by rfl) (by kernel_rfl) (fun K hK => ?_)
  refine wp_stRow rfl rfl rfl rfl h3 en_size h2 (by simp [Value.oneCell']) ?_
  have br2 := h3.setRow #[.int .i64 { x with f := ⟨sA, sn, sc⟩, g := ⟨tA, tn, tc⟩ }.b, .int .i64 { x with f := ⟨sA, sn, sc⟩, g := ⟨tA, tn, tc⟩ }.e, .bool { x with f := ⟨sA, sn, sc⟩, g := ⟨tA, tn, tc⟩ }.ends, .bool { x with f := ⟨sA, sn, sc⟩, g := ⟨tA, tn, tc⟩ }.out, .slice { x with f := ⟨sA, sn, sc⟩, g := ⟨tA, tn, tc⟩ }.f.A { x with f := ⟨sA, sn, sc⟩, g := ⟨tA, tn, tc⟩ }.f.n { x with f := ⟨sA, sn, sc⟩, g := ⟨tA, tn, tc⟩ }.f.c, .int .i64 { x with f := ⟨sA, sn, sc⟩, g := ⟨tA, tn, tc⟩ }.tick, .int .i64 { x with f := ⟨sA, sn, sc⟩, g := ⟨tA, tn, tc⟩ }.port, .slice { x with f := ⟨sA, sn, sc⟩, g := ⟨tA, tn, tc⟩ }.g.A { x with f := ⟨sA, sn, sc⟩, g := ⟨tA, tn, tc⟩ }.g.n { x with f := ⟨sA, sn, sc⟩, g := ⟨tA, tn, tc⟩ }.g.c, .int .i64 { x with f := ⟨sA, sn, sc⟩, g := ⟨tA, tn, tc⟩ }.err, .int .i64 { x with f := ⟨sA, sn, sc⟩, g := ⟨tA, tn, tc⟩ }.proto, .int .i64 { x with f := ⟨sA, sn, sc⟩, g := ⟨tA, tn, tc⟩ }.pt]
  have belz : Below w.heap.size w (w6.setRow (w.heap.size + 1) #[.int .i64 { x with f := ⟨sA, sn, sc⟩, g := ⟨tA, tn, tc⟩ }.b, .int .i64 { x with f := ⟨sA, sn, sc⟩, g := ⟨tA, tn, tc⟩ }.e, .bool { x with f := ⟨sA, sn, sc⟩, g := ⟨tA, tn, tc⟩ }.ends, .bool { x with f := ⟨sA, sn, sc⟩, g := ⟨tA, tn, tc⟩ }.out, .slice { x with f := ⟨sA, sn, sc⟩, g := ⟨tA, tn, tc⟩ }.f.A { x with f := ⟨sA, sn, sc⟩, g := ⟨tA, tn, tc⟩ }.f.n { x with f := ⟨sA, sn, sc⟩, g := ⟨tA, tn, tc⟩ }.f.c, .int .i64 { x with f := ⟨sA, sn, sc⟩, g := ⟨tA, tn, tc⟩ }.tick, .int .i64 { x with f := ⟨sA, sn, sc⟩, g := ⟨tA, tn, tc⟩ }.port, .slice { x with f := ⟨sA, sn, sc⟩, g := ⟨tA, tn, tc⟩ }.g.A { x with f := ⟨sA, sn, sc⟩, g := ⟨tA, tn, tc⟩ }.g.n { x with f := ⟨sA, sn, sc⟩, g := ⟨tA, tn, tc⟩ }.g.c, .int .i64 { x with f := ⟨sA, sn, sc⟩, g := ⟨tA, tn, tc⟩ }.err, .int .i64 { x with f := ⟨sA, sn, sc⟩, g := ⟨tA, tn, tc⟩ }.proto, .int .i64 { x with f := ⟨sA, sn, sc⟩, g := ⟨tA, tn, tc⟩ }.pt]) := below_setRow (bel0.trans (h1.mono (by omega))) (by omega) _
  refine hK _ _ ⟨below_setRow h1 (Nat.le_refl _) _, ⟨_, rfl, br2⟩, by simpa using h4⟩ ?_
  clear hK K
  unfold wpPl
  refine NoPanic.normal ?_
  go_wp2
  exact bodyPost_ret (results_row rfl _ rfl br2 Try.underlying31 en_size) rfl ⟨⟨sA, sn, sc⟩, ⟨tA, tn, tc⟩, rfl, belz⟩
end Go.Proofs.Ytjaacmecniijgaa
