/- The law's helpers: From, parts. -/
import Derived.Test.YtfkmallagficfaaPart16
import Derived.Test.YtfkmallagficfaaPart3
namespace Go.Proofs.Ytfkmallagficfaa
set_option linter.unusedVariables false
set_option linter.unusedSimpArgs false
open Go.RowKit
section
variable {P : Program}
theorem quiet_ldRow {o : Oper} {a : Act} {C : World → Prop} {K : Act → Prop} {t : TypeId} {p : Operand} (ho : o.op = .load t p) {g : Nat} (hp : a.eval p = .pointer (some ⟨g, 0, none⟩)) {tt : TypeId} {cs : Array Value} (h : ∀ w, C w → Blk w g tt cs) {fs : Array Field} (hu : P.underlying t = some (.struct fs)) (hi : (P.info? t).map (·.size) = some cs.size)
    (hk : K (a.put o.dst (.agg cs))) : o.quiet P a C K :=
  quiet_run _ (fun w hw => by
    have h2 := run_loadVar_row (P := P) w g tt t cs (0, 0) (.struct fs) (h w hw) hu rfl hi
    simp only [execOp, ho, hp, Instr.loadAt, Instr.sureAddr, Sem.run_bind, Sem.run_pure, Result.andThen, h2]) hk
end
set_option maxRecDepth 100000 in
set_option maxHeartbeats 1000000 in
theorem PFrom_any (p : Pt) (w : World) :
    Calls Try.prog 15 #[p.val] w fun r w' => r = .returned p.val ∧ Below w.heap.size w w' := by
  obtain ⟨pr, sr, ds, fl, ki, co, er, ⟨i0, i1, i2, i3, i4, i5⟩, pa, ba⟩ := p
  unfold Pt.val
  simp only
  go_enter Try.func15, Try.ntmps15
  go_upto_region 1 with fail
  have bp := (Blk.new w 37 #[.int .i64 pr, .int .u16 sr, .int .u16 ds, .int .i64 fl, .int .i64 ki, .int .i64 co, .bool er, .int .i64 i0, .int .i64 i1, .int .i64 i2, .int .i64 i3, .int .u32 i4, .int .u32 i5, .int .i64 pa, .bool ba]).alloc (.cells #[.int .i64 0, .int .u16 0, .int .u16 0, .int .i64 0, .int .i64 0, .int .i64 0, .bool false, .int .i64 0, .int .i64 0, .int .i64 0, .int .i64 0, .int .u32 0, .int .u32 0, .int .i64 0, .bool false] 42)
  have bk := Blk.new (w.alloc (.cells #[.int .i64 pr, .int .u16 sr, .int .u16 ds, .int .i64 fl, .int .i64 ki, .int .i64 co, .bool er, .int .i64 i0, .int .i64 i1, .int .i64 i2, .int .i64 i3, .int .u32 i4, .int .u32 i5, .int .i64 pa, .bool ba] 37)) 42 #[.int .i64 0, .int .u16 0, .int .u16 0, .int .i64 0, .int .i64 0, .int .i64 0, .bool false, .int .i64 0, .int .i64 0, .int .i64 0, .int .i64 0, .int .u32 0, .int .u32 0, .int .i64 0, .bool false]
  rw [show (w.alloc (.cells #[.int .i64 pr, .int .u16 sr, .int .u16 ds, .int .i64 fl, .int .i64 ki, .int .i64 co, .bool er, .int .i64 i0, .int .i64 i1, .int .i64 i2, .int .i64 i3, .int .u32 i4, .int .u32 i5, .int .i64 pa, .bool ba] 37)).heap.size = w.heap.size + 1 by simp] at bk
  have bel : Below w.heap.size w ((w.alloc (.cells #[.int .i64 pr, .int .u16 sr, .int .u16 ds, .int .i64 fl, .int .i64 ki, .int .i64 co, .bool er, .int .i64 i0, .int .i64 i1, .int .i64 i2, .int .i64 i3, .int .u32 i4, .int .u32 i5, .int .i64 pa, .bool ba] 37)).alloc (.cells #[.int .i64 0, .int .u16 0, .int .u16 0, .int .i64 0, .int .i64 0, .int .i64 0, .bool false, .int .i64 0, .int .i64 0, .int .i64 0, .int .i64 0, .int .u32 0, .int .u32 0, .int .i64 0, .bool false] 42)) := (bel_alloc _ _).alloc (by simp) _
  generalize ((w.alloc (.cells #[.int .i64 pr, .int .u16 sr, .int .u16 ds, .int .i64 fl, .int .i64 ki, .int .i64 co, .bool er, .int .i64 i0, .int .i64 i1, .int .i64 i2, .int .i64 i3, .int .u32 i4, .int .u32 i5, .int .i64 pa, .bool ba] 37)).alloc (.cells #[.int .i64 0, .int .u16 0, .int .u16 0, .int .i64 0, .int .i64 0, .int .i64 0, .bool false, .int .i64 0, .int .i64 0, .int .i64 0, .int .i64 0, .int .u32 0, .int .u32 0, .int .i64 0, .bool false] 42)) = W at *
  have z0 : ∀ t : Tw (fun w' => Blk w' w.heap.size 37 #[.int .i64 pr, .int .u16 sr, .int .u16 ds, .int .i64 fl, .int .i64 ki, .int .i64 co, .bool er, .int .i64 i0, .int .i64 i1, .int .i64 i2, .int .i64 i3, .int .u32 i4, .int .u32 i5, .int .i64 pa, .bool ba]), t.w.cell? ⟨w.heap.size, 0, none⟩ = some (.int .i64 pr) := fun t => t.h.cell 0
  have z1 : ∀ t : Tw (fun w' => Blk w' w.heap.size 37 #[.int .i64 pr, .int .u16 sr, .int .u16 ds, .int .i64 fl, .int .i64 ki, .int .i64 co, .bool er, .int .i64 i0, .int .i64 i1, .int .i64 i2, .int .i64 i3, .int .u32 i4, .int .u32 i5, .int .i64 pa, .bool ba]), t.w.cell? ⟨w.heap.size, 1, none⟩ = some (.int .u16 sr) := fun t => t.h.cell 1
  have z2 : ∀ t : Tw (fun w' => Blk w' w.heap.size 37 #[.int .i64 pr, .int .u16 sr, .int .u16 ds, .int .i64 fl, .int .i64 ki, .int .i64 co, .bool er, .int .i64 i0, .int .i64 i1, .int .i64 i2, .int .i64 i3, .int .u32 i4, .int .u32 i5, .int .i64 pa, .bool ba]), t.w.cell? ⟨w.heap.size, 2, none⟩ = some (.int .u16 ds) := fun t => t.h.cell 2
  have z3 : ∀ t : Tw (fun w' => Blk w' w.heap.size 37 #[.int .i64 pr, .int .u16 sr, .int .u16 ds, .int .i64 fl, .int .i64 ki, .int .i64 co, .bool er, .int .i64 i0, .int .i64 i1, .int .i64 i2, .int .i64 i3, .int .u32 i4, .int .u32 i5, .int .i64 pa, .bool ba]), t.w.cell? ⟨w.heap.size, 3, none⟩ = some (.int .i64 fl) := fun t => t.h.cell 3
  have z4 : ∀ t : Tw (fun w' => Blk w' w.heap.size 37 #[.int .i64 pr, .int .u16 sr, .int .u16 ds, .int .i64 fl, .int .i64 ki, .int .i64 co, .bool er, .int .i64 i0, .int .i64 i1, .int .i64 i2, .int .i64 i3, .int .u32 i4, .int .u32 i5, .int .i64 pa, .bool ba]), t.w.cell? ⟨w.heap.size, 4, none⟩ = some (.int .i64 ki) := fun t => t.h.cell 4
  have z5 : ∀ t : Tw (fun w' => Blk w' w.heap.size 37 #[.int .i64 pr, .int .u16 sr, .int .u16 ds, .int .i64 fl, .int .i64 ki, .int .i64 co, .bool er, .int .i64 i0, .int .i64 i1, .int .i64 i2, .int .i64 i3, .int .u32 i4, .int .u32 i5, .int .i64 pa, .bool ba]), t.w.cell? ⟨w.heap.size, 5, none⟩ = some (.int .i64 co) := fun t => t.h.cell 5
  have z6 : ∀ t : Tw (fun w' => Blk w' w.heap.size 37 #[.int .i64 pr, .int .u16 sr, .int .u16 ds, .int .i64 fl, .int .i64 ki, .int .i64 co, .bool er, .int .i64 i0, .int .i64 i1, .int .i64 i2, .int .i64 i3, .int .u32 i4, .int .u32 i5, .int .i64 pa, .bool ba]), t.w.cell? ⟨w.heap.size, 6, none⟩ = some (.bool er) := fun t => t.h.cell 6
  have z7 : ∀ t : Tw (fun w' => Blk w' w.heap.size 37 #[.int .i64 pr, .int .u16 sr, .int .u16 ds, .int .i64 fl, .int .i64 ki, .int .i64 co, .bool er, .int .i64 i0, .int .i64 i1, .int .i64 i2, .int .i64 i3, .int .u32 i4, .int .u32 i5, .int .i64 pa, .bool ba]), t.w.cell? ⟨w.heap.size, 7, none⟩ = some (.int .i64 i0) := fun t => t.h.cell 7
  have z8 : ∀ t : Tw (fun w' => Blk w' w.heap.size 37 #[.int .i64 pr, .int .u16 sr, .int .u16 ds, .int .i64 fl, .int .i64 ki, .int .i64 co, .bool er, .int .i64 i0, .int .i64 i1, .int .i64 i2, .int .i64 i3, .int .u32 i4, .int .u32 i5, .int .i64 pa, .bool ba]), t.w.cell? ⟨w.heap.size, 8, none⟩ = some (.int .i64 i1) := fun t => t.h.cell 8
  have z9 : ∀ t : Tw (fun w' => Blk w' w.heap.size 37 #[.int .i64 pr, .int .u16 sr, .int .u16 ds, .int .i64 fl, .int .i64 ki, .int .i64 co, .bool er, .int .i64 i0, .int .i64 i1, .int .i64 i2, .int .i64 i3, .int .u32 i4, .int .u32 i5, .int .i64 pa, .bool ba]), t.w.cell? ⟨w.heap.size, 9, none⟩ = some (.int .i64 i2) := fun t => t.h.cell 9
  have z10 : ∀ t : Tw (fun w' => Blk w' w.heap.size 37 #[.int .i64 pr, .int .u16 sr, .int .u16 ds, .int .i64 fl, .int .i64 ki, .int .i64 co, .bool er, .int .i64 i0, .int .i64 i1, .int .i64 i2, .int .i64 i3, .int .u32 i4, .int .u32 i5, .int .i64 pa, .bool ba]), t.w.cell? ⟨w.heap.size, 10, none⟩ = some (.int .i64 i3) := fun t => t.h.cell 10
  have z11 : ∀ t : Tw (fun w' => Blk w' w.heap.size 37 #[.int .i64 pr, .int .u16 sr, .int .u16 ds, .int .i64 fl, .int .i64 ki, .int .i64 co, .bool er, .int .i64 i0, .int .i64 i1, .int .i64 i2, .int .i64 i3, .int .u32 i4, .int .u32 i5, .int .i64 pa, .bool ba]), t.w.cell? ⟨w.heap.size, 11, none⟩ = some (.int .u32 i4) := fun t => t.h.cell 11
  have z12 : ∀ t : Tw (fun w' => Blk w' w.heap.size 37 #[.int .i64 pr, .int .u16 sr, .int .u16 ds, .int .i64 fl, .int .i64 ki, .int .i64 co, .bool er, .int .i64 i0, .int .i64 i1, .int .i64 i2, .int .i64 i3, .int .u32 i4, .int .u32 i5, .int .i64 pa, .bool ba]), t.w.cell? ⟨w.heap.size, 12, none⟩ = some (.int .u32 i5) := fun t => t.h.cell 12
  have z13 : ∀ t : Tw (fun w' => Blk w' w.heap.size 37 #[.int .i64 pr, .int .u16 sr, .int .u16 ds, .int .i64 fl, .int .i64 ki, .int .i64 co, .bool er, .int .i64 i0, .int .i64 i1, .int .i64 i2, .int .i64 i3, .int .u32 i4, .int .u32 i5, .int .i64 pa, .bool ba]), t.w.cell? ⟨w.heap.size, 13, none⟩ = some (.int .i64 pa) := fun t => t.h.cell 13
  have z14 : ∀ t : Tw (fun w' => Blk w' w.heap.size 37 #[.int .i64 pr, .int .u16 sr, .int .u16 ds, .int .i64 fl, .int .i64 ki, .int .i64 co, .bool er, .int .i64 i0, .int .i64 i1, .int .i64 i2, .int .i64 i3, .int .u32 i4, .int .u32 i5, .int .i64 pa, .bool ba]), t.w.cell? ⟨w.heap.size, 14, none⟩ = some (.bool ba) := fun t => t.h.cell 14
  have : Nonempty (Tw (fun w' => Blk w' w.heap.size 37 #[.int .i64 pr, .int .u16 sr, .int .u16 ds, .int .i64 fl, .int .i64 ki, .int .i64 co, .bool er, .int .i64 i0, .int .i64 i1, .int .i64 i2, .int .i64 i3, .int .u32 i4, .int .u32 i5, .int .i64 pa, .bool ba])) := ⟨⟨_, bp⟩⟩
  refine wp_region_plan (fun w' => Blk w' w.heap.size 37 #[.int .i64 pr, .int .u16 sr, .int .u16 ds, .int .i64 fl, .int .i64 ki, .int .i64 co, .bool er, .int .i64 i0, .int .i64 i1, .int .i64 i2, .int .i64 i3, .int .u32 i4, .int .u32 i5, .int .i64 pa, .bool ba]) [(0, true), (1, true), (2, true), (3, true), (4, true), (5, true), (6, true), (7, true), (8, true), (9, true), (10, true), (11, true), (12, true), (13, true), (14, true), (15, true), (17, true), (18, true), (19, true), (20, true), (16, false), (21, true), (22, false)] (by kernel_rfl) (by kernel_rfl) (by kernel_rfl) (by kernel_rfl) bp.drew ?_
  replace bp := bp.drew
  replace bk := bk.drew
  replace bel := bel.drew
  generalize W.drew = W1 at *
  refine wpPl_qs 20 _ _ _ (by kernel_rfl) (by kernel_rfl) (by simp) ?_
  unfold clsS
  simp only [List.take_succ_cons, List.take_zero, List.drop_succ_cons, List.drop_zero, List.filterMap_cons, List.filterMap_nil, List.getElem?_toArray, List.getElem?_cons_zero, List.getElem?_cons_succ]
  repeat (first
    | go_big_quiet_skip
    | (go_big_quiet_want; go_big_quiet_op; go_big_quiet_on)
    | (refine id (?_ : wpQuiet _ _ _ _ (_ :: _) _); first | go_big_quiet_skip | (go_big_quiet_want; go_big_quiet_op; go_big_quiet_on)))
  refine wpQuiet_nil ?_
  refine wpPl_e _ (by rfl) (by kernel_rfl) (fun K hK => ?_)
  go_simp
  refine (From_any _ _ _ _ _ _ _).mono ?_
  rintro e w' ⟨rfl, hb⟩
  replace bk := bk.bel hb
  replace bp := bp.bel hb
  replace bel := bel_after bel hb
  clear hb
  refine hK _ _ bp ?_
  clear hK K
  refine wpPl_qs 1 _ _ _ (by kernel_rfl) (by kernel_rfl) (by simp) ?_
  unfold clsS
  simp only [List.take_succ_cons, List.take_zero, List.drop_succ_cons, List.drop_zero, List.filterMap_cons, List.filterMap_nil, List.getElem?_toArray, List.getElem?_cons_zero, List.getElem?_cons_succ]
  repeat (first
    | go_big_quiet_skip
    | (go_big_quiet_want; go_big_quiet_op; go_big_quiet_on)
    | (refine id (?_ : wpQuiet _ _ _ _ (_ :: _) _); first | go_big_quiet_skip | (go_big_quiet_want; go_big_quiet_op; go_big_quiet_on)))
  refine wpQuiet_nil ?_
  refine wpPl_e _ (by rfl) (by kernel_rfl) (fun K hK => ?_)
  refine wp_stRow rfl rfl rfl rfl bk rpt_size rfl (by simp [Value.oneCell']) ?_
  refine hK _ _ (bp.setRow_far (by omega) _) ?_
  clear hK K
  unfold wpPl
  refine NoPanic.normal ?_
  go_wp2
  refine bodyPost_ret (results_row rfl _ rfl (bk.setRow _) Try.underlying42 rpt_size) rfl ⟨?_, below_setRow bel (by omega) _⟩
  rfl
end Go.Proofs.Ytfkmallagficfaa
