/- What the laws' proofs lean on: plain facts and contracts of the program's functions, laid together (8). -/
import Derived.Test.YtilhkhnjloplfaaGreatDoorPp05
namespace Go.Proofs.YtilhkhnjloplfaaGreatDoor
set_option linter.unusedVariables false
set_option linter.unusedSimpArgs false
open Go.RowKit
section
variable {P : Program} {Q : Exit → Act → World → Prop} {K : Act → World → Prop} {a : Act} {w : World} {o : Oper}
theorem wp_stRow (hd : o.dst = none) {t : TypeId} {p v : Operand} (ho : o.op = .store t p v) {g : Nat} (hp : a.eval p = .pointer (some ⟨g, 0, none⟩)) {cs : Array Value} (hv : a.eval v = .agg cs) {tt : TypeId} {old : Array Value}
    (hb : Blk w g tt old) (hi : (P.info? t).map (·.size) = some cs.size) (hs : old.size = cs.size) (h1 : cs.all (·.oneCell') = true) (h : K a (w.setRow g cs)) : o.wp P a w K Q := by
  have hr : (execOp a.eval o).run P w = .ok .skip (w.setRow g cs) := by
    have h2 := run_storeVar_row (P := P) w g tt t old cs hb hi hs h1
    simp only [execOp, ho, hp, hv, Instr.storeAt, Instr.sureAddr, Sem.run_bind, Sem.run_pure, Result.andThen, h2]
  unfold Oper.wp
  rw [hr, Oper.upon_skip, hd]
  exact h
end
def Pt.cells (p : Pt) : Array Value := #[.int .i64 p.proto, .int .u16 p.src, .int .u16 p.dst, .int .i64 p.flags, .int .i64 p.kind, .int .i64 p.code, .bool p.err, .int .i64 p.inner.size, .int .i64 p.inner.len, .int .i64 p.inner.ttl, .int .i64 p.inner.proto, .int .u32 p.inner.src, .int .u32 p.inner.dst, .int .i64 p.pat, .bool p.bare]
theorem icmpR_cases (h : Hd) (x : List Int) {R : PR} (hR : icmpR h x = R) :
    (x.length < 8 ∧ R = (2, Pt.z)) ∨ (8 ≤ x.length ∧ (sumOf x ≠ 0 ∧ R = (4, Pt.z) ∨ sumOf x = 0 ∧
      ((x.getD 0 0 = 0 ∨ x.getD 0 0 = 8) ∧ (x.getD 1 0 ≠ 0 ∧ R = (3, Pt.z) ∨ x.getD 1 0 = 0 ∧ R = (0, portsP { Pt.z with proto := 1, kind := x.getD 0 0, code := x.getD 1 0 } x 4 4)) ∨
       (x.getD 0 0 = 3 ∨ x.getD 0 0 = 11 ∨ x.getD 0 0 = 12) ∧ R = faultR { Pt.z with proto := 1, kind := x.getD 0 0, code := x.getD 1 0 } (h.size + 8) (x.drop 8) ∨
       x.getD 0 0 ≠ 0 ∧ x.getD 0 0 ≠ 8 ∧ x.getD 0 0 ≠ 3 ∧ x.getD 0 0 ≠ 11 ∧ x.getD 0 0 ≠ 12 ∧ R = (6, Pt.z)))) := by
  subst hR
  unfold icmpR
  by_cases h1 : x.length < 8
  · rw [if_pos h1]; exact .inl ⟨h1, rfl⟩
  rw [if_neg h1]
  refine .inr ⟨by omega, ?_⟩
  by_cases h2 : sumOf x = 0
  · rw [if_neg (by simpa using h2)]
    refine .inr ⟨h2, ?_⟩
    by_cases h3 : x.getD 0 0 = 0 ∨ x.getD 0 0 = 8
    · rw [if_pos h3]
      refine .inl ⟨h3, ?_⟩
      by_cases h4 : x.getD 1 0 = 0
      · rw [if_neg (by simpa using h4)]; exact .inr ⟨h4, rfl⟩
      · rw [if_pos h4]; exact .inl ⟨h4, rfl⟩
    · rw [if_neg h3]
      by_cases h5 : x.getD 0 0 = 3 ∨ x.getD 0 0 = 11 ∨ x.getD 0 0 = 12
      · rw [if_pos h5]; exact .inr (.inl ⟨h5, rfl⟩)
      · rw [if_neg h5]; exact .inr (.inr ⟨fun h => h3 (.inl h), fun h => h3 (.inr h), fun h => h5 (.inl h), fun h => h5 (.inr (.inl h)), fun h => h5 (.inr (.inr h)), rfl⟩)
  · rw [if_pos h2]; exact .inl ⟨h2, rfl⟩
set_option maxRecDepth 100000 in
set_option maxHeartbeats 2000000 in
theorem icmp_any (h : Hd) (l : List Int) (A : Option Addr) (len c B : Nat) (w : World) (hr : Rd .u8 w B A len l) (hB : B ≤ w.heap.size) (hlc : len ≤ c) (hcm : c ≤ 9223372036854775807) (hl : len ≤ 100000) (hh : 0 ≤ h.size ∧ h.size ≤ 1000) :
    Calls Tryz.prog 64 #[h.val, .slice A len c] w (Tells w (icmpR h l)) := by
  have hcs := icmpR_cases h l rfl
  rw [hr.len] at hcs
  have hrB := hr.more hB
  have hsm := fun w' (hb : Below w.heap.size w w') => Of_any l A len c _ w' hl (hrB.below hb)
  obtain ⟨h0, h1, h2, h3, h4, h5⟩ := h
  unfold Hd.val Tells
  simp only at hh hcs ⊢
  generalize icmpR ⟨h0, h1, h2, h3, h4, h5⟩ l = R at *
  generalize hf0 : l.getD 0 0 = f0 at *
  generalize hf1 : l.getD 1 0 = f1 at *
  obtain ⟨S, hS⟩ : ∃ S, S = sumOf l := ⟨_, rfl⟩
  rw [← hS] at hsm hcs
  replace hsm := Lib.hid hsm
  clear hS
  rcases hcs with ⟨hlt, rfl⟩ | ⟨h8, ⟨hne, rfl⟩ | ⟨rfl, hcs⟩⟩
  · clear hf0 hf1
    have d1 : decide (len < 8) = true := by simpa using hlt
    have d2 : decide ((len : Int) < 8) = true := by simp; omega
    go_enter Tryz.func64, Tryz.ntmps64
    go_upto_region 1 with fail
    have bh := (Blk.new w 81 #[.int .i64 h0, .int .i64 h1, .int .i64 h2, .int .i64 h3, .int .u32 h4, .int .u32 h5]).alloc (.cells #[.int .i64 0, .int .u16 0, .int .u16 0, .int .i64 0, .int .i64 0, .int .i64 0, .bool false, .int .i64 0, .int .i64 0, .int .i64 0, .int .i64 0, .int .u32 0, .int .u32 0, .int .i64 0, .bool false] 87)
    have bk := Blk.new (w.alloc (.cells #[.int .i64 h0, .int .i64 h1, .int .i64 h2, .int .i64 h3, .int .u32 h4, .int .u32 h5] 81)) 87 #[.int .i64 0, .int .u16 0, .int .u16 0, .int .i64 0, .int .i64 0, .int .i64 0, .bool false, .int .i64 0, .int .i64 0, .int .i64 0, .int .i64 0, .int .u32 0, .int .u32 0, .int .i64 0, .bool false]
    rw [show (w.alloc (.cells #[.int .i64 h0, .int .i64 h1, .int .i64 h2, .int .i64 h3, .int .u32 h4, .int .u32 h5] 81)).heap.size = w.heap.size + 1 by simp] at bk
    have bel : Below w.heap.size w ((w.alloc (.cells #[.int .i64 h0, .int .i64 h1, .int .i64 h2, .int .i64 h3, .int .u32 h4, .int .u32 h5] 81)).alloc (.cells #[.int .i64 0, .int .u16 0, .int .u16 0, .int .i64 0, .int .i64 0, .int .i64 0, .bool false, .int .i64 0, .int .i64 0, .int .i64 0, .int .i64 0, .int .u32 0, .int .u32 0, .int .i64 0, .bool false] 87)) := (bel_alloc _ _).alloc (by simp) _
    generalize ((w.alloc (.cells #[.int .i64 h0, .int .i64 h1, .int .i64 h2, .int .i64 h3, .int .u32 h4, .int .u32 h5] 81)).alloc (.cells #[.int .i64 0, .int .u16 0, .int .u16 0, .int .i64 0, .int .i64 0, .int .i64 0, .bool false, .int .i64 0, .int .i64 0, .int .i64 0, .int .i64 0, .int .u32 0, .int .u32 0, .int .i64 0, .bool false] 87)) = W at *
    go_wp2_with (refine wpList_stRow rfl rfl rfl rfl rfl bk pt_size rfl (by simp [Value.oneCell', Pt.z, Hd.z, portsP]) ?_)
    exact bodyPost_ret (results_row2 rfl _ rfl (bk.setRow _) Tryz.underlying87 pt_size) rfl ⟨rfl, below_setRow bel (by omega) _⟩
  · clear hf0 hf1
    have d1 : decide (len < 8) = false := by simp; omega
    have d2 : decide ((len : Int) < 8) = false := by simp; omega
    have e1 : (S != 0) = true := by simpa using hne
    go_enter Tryz.func64, Tryz.ntmps64
    go_upto_region 1 with fail
    have bh := (Blk.new w 81 #[.int .i64 h0, .int .i64 h1, .int .i64 h2, .int .i64 h3, .int .u32 h4, .int .u32 h5]).alloc (.cells #[.int .i64 0, .int .u16 0, .int .u16 0, .int .i64 0, .int .i64 0, .int .i64 0, .bool false, .int .i64 0, .int .i64 0, .int .i64 0, .int .i64 0, .int .u32 0, .int .u32 0, .int .i64 0, .bool false] 87)
    have bk := Blk.new (w.alloc (.cells #[.int .i64 h0, .int .i64 h1, .int .i64 h2, .int .i64 h3, .int .u32 h4, .int .u32 h5] 81)) 87 #[.int .i64 0, .int .u16 0, .int .u16 0, .int .i64 0, .int .i64 0, .int .i64 0, .bool false, .int .i64 0, .int .i64 0, .int .i64 0, .int .i64 0, .int .u32 0, .int .u32 0, .int .i64 0, .bool false]
    rw [show (w.alloc (.cells #[.int .i64 h0, .int .i64 h1, .int .i64 h2, .int .i64 h3, .int .u32 h4, .int .u32 h5] 81)).heap.size = w.heap.size + 1 by simp] at bk
    have bel : Below w.heap.size w ((w.alloc (.cells #[.int .i64 h0, .int .i64 h1, .int .i64 h2, .int .i64 h3, .int .u32 h4, .int .u32 h5] 81)).alloc (.cells #[.int .i64 0, .int .u16 0, .int .u16 0, .int .i64 0, .int .i64 0, .int .i64 0, .bool false, .int .i64 0, .int .i64 0, .int .i64 0, .int .i64 0, .int .u32 0, .int .u32 0, .int .i64 0, .bool false] 87)) := (bel_alloc _ _).alloc (by simp) _
    generalize ((w.alloc (.cells #[.int .i64 h0, .int .i64 h1, .int .i64 h2, .int .i64 h3, .int .u32 h4, .int .u32 h5] 81)).alloc (.cells #[.int .i64 0, .int .u16 0, .int .u16 0, .int .i64 0, .int .i64 0, .int .i64 0, .bool false, .int .i64 0, .int .i64 0, .int .i64 0, .int .i64 0, .int .u32 0, .int .u32 0, .int .i64 0, .bool false] 87)) = W at *
    go_wp2_with fail
    refine (hsm.out _ bel).mono ?_
    rintro e w' ⟨rfl, rfl⟩
    go_wp2_with (refine wpList_stRow rfl rfl rfl rfl rfl bk pt_size rfl (by simp [Value.oneCell', Pt.z, Hd.z, portsP]) ?_)
    exact bodyPost_ret (results_row2 rfl _ rfl (bk.setRow _) Tryz.underlying87 pt_size) rfl ⟨rfl, below_setRow bel (by omega) _⟩
  have d1 : decide (len < 8) = false := by simp; omega
  have d2 : decide ((len : Int) < 8) = false := by simp; omega
  obtain ⟨b, o, rfl⟩ := hr.form (by omega)
  obtain ⟨c0, x0⟩ := hrB.cell0 (by omega)
  obtain ⟨c1, x1⟩ := hrB.cell 1 (by omega)
  replace x0 := inr_u8 x0
  replace x1 := inr_u8 x1
  rw [hf0] at c0 x0
  rw [hf1] at c1 x1
  clear hf0 hf1
  have y0 := cell_lt c0
  simp only at y0
  have z0 : ∀ t : Tw (fun w' => Below w.heap.size w w'), t.w.cell? ⟨b, o, none⟩ = some (.int .u8 f0) := fun t => (t.h.cell (p := ⟨b, o, none⟩) (cell_lt c0)).trans c0
  have z1 : ∀ t : Tw (fun w' => Below w.heap.size w w'), t.w.cell? ⟨b, o + 1, none⟩ = some (.int .u8 f1) := fun t => (t.h.cell (p := ⟨b, o + 1, none⟩) (cell_lt c1)).trans c1
  clear c0 c1
  replace hcs := Lib.hid hcs
  go_enter Tryz.func64, Tryz.ntmps64
  go_upto_region 1 with fail
  have bh := (Blk.new w 81 #[.int .i64 h0, .int .i64 h1, .int .i64 h2, .int .i64 h3, .int .u32 h4, .int .u32 h5]).alloc (.cells #[.int .i64 0, .int .u16 0, .int .u16 0, .int .i64 0, .int .i64 0, .int .i64 0, .bool false, .int .i64 0, .int .i64 0, .int .i64 0, .int .i64 0, .int .u32 0, .int .u32 0, .int .i64 0, .bool false] 87)
  have bk := Blk.new (w.alloc (.cells #[.int .i64 h0, .int .i64 h1, .int .i64 h2, .int .i64 h3, .int .u32 h4, .int .u32 h5] 81)) 87 #[.int .i64 0, .int .u16 0, .int .u16 0, .int .i64 0, .int .i64 0, .int .i64 0, .bool false, .int .i64 0, .int .i64 0, .int .i64 0, .int .i64 0, .int .u32 0, .int .u32 0, .int .i64 0, .bool false]
  rw [show (w.alloc (.cells #[.int .i64 h0, .int .i64 h1, .int .i64 h2, .int .i64 h3, .int .u32 h4, .int .u32 h5] 81)).heap.size = w.heap.size + 1 by simp] at bk
  have bel : Below w.heap.size w ((w.alloc (.cells #[.int .i64 h0, .int .i64 h1, .int .i64 h2, .int .i64 h3, .int .u32 h4, .int .u32 h5] 81)).alloc (.cells #[.int .i64 0, .int .u16 0, .int .u16 0, .int .i64 0, .int .i64 0, .int .i64 0, .bool false, .int .i64 0, .int .i64 0, .int .i64 0, .int .i64 0, .int .u32 0, .int .u32 0, .int .i64 0, .bool false] 87)) := (bel_alloc _ _).alloc (by simp) _
  generalize ((w.alloc (.cells #[.int .i64 h0, .int .i64 h1, .int .i64 h2, .int .i64 h3, .int .u32 h4, .int .u32 h5] 81)).alloc (.cells #[.int .i64 0, .int .u16 0, .int .u16 0, .int .i64 0, .int .i64 0, .int .i64 0, .bool false, .int .i64 0, .int .i64 0, .int .i64 0, .int .i64 0, .int .u32 0, .int .u32 0, .int .i64 0, .bool false] 87)) = W at *
  go_wp2_with fail
  refine (hsm.out _ bel).mono ?_
  rintro e w' ⟨rfl, rfl⟩
  go_upto_region 5 with fail
  have : Nonempty (Tw (fun w' => Below w.heap.size w w')) := ⟨⟨_, bel⟩⟩
  refine wp_region_plan (fun w' => Below w.heap.size w w') [(0, true), (1, true), (2, true), (3, true), (4, true), (5, true), (6, true), (7, true), (8, true), (9, false), (10, false)] (by kernel_rfl) (by kernel_rfl) (by kernel_rfl) (by kernel_rfl) bel.drew ?_
  replace bh := bh.drew
  replace bk := bk.drew
  replace bel := bel.drew
  generalize W.drew = W1 at *
  refine wpPl_qs 9 _ _ _ (by kernel_rfl) (by kernel_rfl) (by simp) ?_
  unfold clsS
  simp only [List.take_succ_cons, List.take_zero, List.drop_succ_cons, List.drop_zero, List.filterMap_cons, List.filterMap_nil, List.getElem?_toArray, List.getElem?_cons_zero, List.getElem?_cons_succ]
  repeat (first
    | go_big_quiet_skip
    | (go_big_quiet_want; go_big_quiet_op; go_big_quiet_on)
    | (refine id (?_ : wpQuiet _ _ _ _ (_ :: _) _); first | go_big_quiet_skip | (go_big_quiet_want; go_big_quiet_op; go_big_quiet_on)))
  refine wpQuiet_nil ?_
  refine wpPl_e _ (by rfl) (by kernel_rfl) (fun K hK => ?_)
  go_simp
  have hg3 : w.heap.size + 1 < W1.heap.size := bk.lt
  have bp := Blk.new W1 87 #[.int .i64 0, .int .u16 0, .int .u16 0, .int .i64 0, .int .i64 0, .int .i64 0, .bool false, .int .i64 0, .int .i64 0, .int .i64 0, .int .i64 0, .int .u32 0, .int .u32 0, .int .i64 0, .bool false]
  replace bh := bh.alloc (.cells #[.int .i64 0, .int .u16 0, .int .u16 0, .int .i64 0, .int .i64 0, .int .i64 0, .bool false, .int .i64 0, .int .i64 0, .int .i64 0, .int .i64 0, .int .u32 0, .int .u32 0, .int .i64 0, .bool false] 87)
  replace bk := bk.alloc (.cells #[.int .i64 0, .int .u16 0, .int .u16 0, .int .i64 0, .int .i64 0, .int .i64 0, .bool false, .int .i64 0, .int .i64 0, .int .i64 0, .int .i64 0, .int .u32 0, .int .u32 0, .int .i64 0, .bool false] 87)
  replace bel := bel.alloc bel.size (.cells #[.int .i64 0, .int .u16 0, .int .u16 0, .int .i64 0, .int .i64 0, .int .i64 0, .bool false, .int .i64 0, .int .i64 0, .int .i64 0, .int .i64 0, .int .u32 0, .int .u32 0, .int .i64 0, .bool false] 87)
  generalize W1.alloc (.cells #[.int .i64 0, .int .u16 0, .int .u16 0, .int .i64 0, .int .i64 0, .int .i64 0, .bool false, .int .i64 0, .int .i64 0, .int .i64 0, .int .i64 0, .int .u32 0, .int .u32 0, .int .i64 0, .bool false] 87) = W2 at *
  generalize W1.heap.size = g3 at *
  refine hK _ _ bel ?_
  clear hK K
  refine wpPl_e _ (by rfl) (by kernel_rfl) (fun K hK => ?_)
  refine wp_stRow rfl rfl rfl rfl bp pt_size rfl (by simp [Value.oneCell']) ?_
  replace bh := bh.setRow_far (g' := g3) (by omega) #[.int .i64 1, .int .u16 0, .int .u16 0, .int .i64 0, .int .i64 f0, .int .i64 f1, .bool false, .int .i64 0, .int .i64 0, .int .i64 0, .int .i64 0, .int .u32 0, .int .u32 0, .int .i64 0, .bool false]
  replace bk := bk.setRow_far (g' := g3) (by omega) #[.int .i64 1, .int .u16 0, .int .u16 0, .int .i64 0, .int .i64 f0, .int .i64 f1, .bool false, .int .i64 0, .int .i64 0, .int .i64 0, .int .i64 0, .int .u32 0, .int .u32 0, .int .i64 0, .bool false]
  replace bel := below_setRow bel (g := g3) (by omega) #[.int .i64 1, .int .u16 0, .int .u16 0, .int .i64 0, .int .i64 f0, .int .i64 f1, .bool false, .int .i64 0, .int .i64 0, .int .i64 0, .int .i64 0, .int .u32 0, .int .u32 0, .int .i64 0, .bool false]
  replace bp := bp.setRow #[.int .i64 1, .int .u16 0, .int .u16 0, .int .i64 0, .int .i64 f0, .int .i64 f1, .bool false, .int .i64 0, .int .i64 0, .int .i64 0, .int .i64 0, .int .u32 0, .int .u32 0, .int .i64 0, .bool false]
  generalize W2.setRow g3 #[.int .i64 1, .int .u16 0, .int .u16 0, .int .i64 0, .int .i64 f0, .int .i64 f1, .bool false, .int .i64 0, .int .i64 0, .int .i64 0, .int .i64 0, .int .u32 0, .int .u32 0, .int .i64 0, .bool false] = W3 at *
  refine hK _ _ bel ?_
  clear hK K
  unfold wpPl
  refine NoPanic.normal ?_
  replace hcs := hcs.out
  obtain ⟨A2, hA2, hr2⟩ := hrB.cut (m := 8) (cap := c) (by omega) (by omega)
  replace hA2 : A2 = if c = 8 then some ⟨b, o, none⟩ else some ⟨b, o + 8, none⟩ := by rw [← hA2]; simp [Addr.add]
  replace hA2 := Lib.hid hA2
  have q4 := bp.cell 4
  have q5 := bp.cell 5
  clear z0 z1
  rcases hcs with ⟨rfl | rfl, ⟨hne, rfl⟩ | ⟨rfl, rfl⟩⟩ | ⟨rfl | rfl | rfl, rfl⟩ | ⟨n0, n8, n3, n11, n12, rfl⟩
  · have e1 : (f1 != 0) = true := by simpa using hne
    go_wp2_with (refine wpList_stRow rfl rfl rfl rfl rfl bk pt_size rfl (by simp [Value.oneCell', Pt.z, Hd.z, portsP]) ?_)
    exact bodyPost_ret (results_row2 rfl _ rfl (bk.setRow _) Tryz.underlying87 pt_size) rfl ⟨rfl, below_setRow bel (by omega) _⟩
  · have hp4 := fun w' (hb : Below w.heap.size w w') => pnum_of l b o len 4 (len - 4) (c - 4) w' ((hrB.below hb).more hb.size) (by omega) (by omega)
    obtain ⟨N4, hN4⟩ : ∃ N, N = n2 l 4 := ⟨_, rfl⟩
    have hc4 : (c = 4) = False := by simp; omega
    have hPv : (portsP { Pt.z with proto := 1, kind := 0, code := 0 } l 4 4).val = .agg #[.int .i64 1, .int .u16 N4, .int .u16 N4, .int .i64 0, .int .i64 0, .int .i64 0, .bool false, .int .i64 0, .int .i64 0, .int .i64 0, .int .i64 0, .int .u32 0, .int .u32 0, .int .i64 0, .bool false] := by unfold portsP; rw [hN4]; rfl
    rw [← hN4] at hp4
    clear hN4
    replace hPv := Lib.hid hPv
    replace hp4 := Lib.hid hp4
    go_upto_region 11 with fail
    clear q4 q5
    have : Nonempty (Tw (fun w' => Below w.heap.size w w')) := ⟨⟨_, bel⟩⟩
    refine wp_region_plan (fun w' => Below w.heap.size w w') [(0, true), (1, true), (3, true), (4, true), (2, false), (6, true), (5, false), (7, false), (8, true), (9, false)] (by kernel_rfl) (by kernel_rfl) (by kernel_rfl) (by kernel_rfl) bel.drew ?_
    replace bp := bp.drew
    replace bk := bk.drew
    replace bel := bel.drew
    generalize W3.drew = W8 at *
    refine wpPl_qs 4 _ _ _ (by kernel_rfl) (by kernel_rfl) (by simp) ?_
    unfold clsS
    simp only [List.take_succ_cons, List.take_zero, List.drop_succ_cons, List.drop_zero, List.filterMap_cons, List.filterMap_nil, List.getElem?_toArray, List.getElem?_cons_zero, List.getElem?_cons_succ]
    repeat (first
      | go_big_quiet_skip
      | (go_big_quiet_want; go_big_quiet_op; go_big_quiet_on)
      | (refine id (?_ : wpQuiet _ _ _ _ (_ :: _) _); first | go_big_quiet_skip | (go_big_quiet_want; go_big_quiet_op; go_big_quiet_on)))
    refine wpQuiet_nil ?_
    refine wpPl_e _ (by rfl) (by kernel_rfl) (fun K hK => ?_)
    go_simp
    refine (hp4.out _ bel).mono ?_
    rintro e w1 ⟨rfl, hb1⟩
    replace bp := bp.bel hb1
    replace bk := bk.bel hb1
    replace bel := bel_after bel hb1
    clear hb1
    refine hK _ _ bel ?_
    clear hK K
    refine wpPl_qs 1 _ _ _ (by kernel_rfl) (by kernel_rfl) (by simp) ?_
    unfold clsS
    simp only [List.take_succ_cons, List.take_zero, List.drop_succ_cons, List.drop_zero, List.filterMap_cons, List.filterMap_nil, List.getElem?_toArray, List.getElem?_cons_zero, List.getElem?_cons_succ]
    repeat (first
      | go_big_quiet_skip
      | (go_big_quiet_want; go_big_quiet_op; go_big_quiet_on)
      | (refine id (?_ : wpQuiet _ _ _ _ (_ :: _) _); first | go_big_quiet_skip | (go_big_quiet_want; go_big_quiet_op; go_big_quiet_on)))
    refine wpQuiet_nil ?_
    refine wpPl_e _ (by rfl) (by kernel_rfl) (fun K hK => ?_)
    go_simp
    refine (hp4.out _ bel).mono ?_
    rintro e w2 ⟨rfl, hb1⟩
    replace bp := bp.bel hb1
    replace bk := bk.bel hb1
    replace bel := bel_after bel hb1
    clear hb1
    refine hK _ _ bel ?_
    clear hK K
    have q1 := bp.cell 1
    have r1 := bp.frozen 1
    refine wpPl_e _ (by rfl) (by kernel_rfl) (fun K hK => ?_)
    go_simp
    replace bk := bk.far (p := ⟨g3, 1, none⟩) (by show w.heap.size + 1 ≠ g3; omega) (.int .u16 N4)
    replace bel := bel.setCell (p := ⟨g3, 1, none⟩) (by show w.heap.size ≤ g3; omega) (.int .u16 N4)
    replace bp := bp.set_ 1 (.int .u16 N4)
    clear q1 r1
    refine hK _ _ bel ?_
    clear hK K
    refine wpPl_qs 1 _ _ _ (by kernel_rfl) (by kernel_rfl) (by simp) ?_
    unfold clsS
    simp only [List.take_succ_cons, List.take_zero, List.drop_succ_cons, List.drop_zero, List.filterMap_cons, List.filterMap_nil, List.getElem?_toArray, List.getElem?_cons_zero, List.getElem?_cons_succ]
    repeat (first
      | go_big_quiet_skip
      | (go_big_quiet_want; go_big_quiet_op; go_big_quiet_on)
      | (refine id (?_ : wpQuiet _ _ _ _ (_ :: _) _); first | go_big_quiet_skip | (go_big_quiet_want; go_big_quiet_op; go_big_quiet_on)))
    refine wpQuiet_nil ?_
    have q2 := bp.cell 2
    have r2 := bp.frozen 2
    refine wpPl_e _ (by rfl) (by kernel_rfl) (fun K hK => ?_)
    go_simp
    replace bk := bk.far (p := ⟨g3, 2, none⟩) (by show w.heap.size + 1 ≠ g3; omega) (.int .u16 N4)
    replace bel := bel.setCell (p := ⟨g3, 2, none⟩) (by show w.heap.size ≤ g3; omega) (.int .u16 N4)
    replace bp := bp.set_ 2 (.int .u16 N4)
    clear q2 r2
    refine hK _ _ bel ?_
    clear hK K
    unfold wpPl
    refine NoPanic.normal ?_
    simp only [List.setIfInBounds_toArray, List.set_cons_succ, List.set_cons_zero] at bp
    generalize ((w2.setCell ⟨g3, 1, none⟩ (.int .u16 N4)).setCell ⟨g3, 2, none⟩ (.int .u16 N4)) = W9 at *
    go_wp2_with (first
      | (refine wpList_ldRow rfl rfl rfl bp Tryz.underlying87 pt_size ?_)
      | (refine wpList_stRow rfl rfl rfl rfl rfl bk pt_size rfl (by simp [Value.oneCell']) ?_))
    refine bodyPost_ret (results_row2 rfl _ rfl (bk.setRow _) Tryz.underlying87 pt_size) rfl ⟨?_, below_setRow bel (by omega) _⟩
    exact congrArg (fun x => Ending.returned (.tuple #[x, .int .i64 0])) hPv.out.symm
  · have e1 : (f1 != 0) = true := by simpa using hne
    go_wp2_with (refine wpList_stRow rfl rfl rfl rfl rfl bk pt_size rfl (by simp [Value.oneCell', Pt.z, Hd.z, portsP]) ?_)
    exact bodyPost_ret (results_row2 rfl _ rfl (bk.setRow _) Tryz.underlying87 pt_size) rfl ⟨rfl, below_setRow bel (by omega) _⟩
  · have hp4 := fun w' (hb : Below w.heap.size w w') => pnum_of l b o len 4 (len - 4) (c - 4) w' ((hrB.below hb).more hb.size) (by omega) (by omega)
    obtain ⟨N4, hN4⟩ : ∃ N, N = n2 l 4 := ⟨_, rfl⟩
    have hc4 : (c = 4) = False := by simp; omega
    have hPv : (portsP { Pt.z with proto := 1, kind := 8, code := 0 } l 4 4).val = .agg #[.int .i64 1, .int .u16 N4, .int .u16 N4, .int .i64 0, .int .i64 8, .int .i64 0, .bool false, .int .i64 0, .int .i64 0, .int .i64 0, .int .i64 0, .int .u32 0, .int .u32 0, .int .i64 0, .bool false] := by unfold portsP; rw [hN4]; rfl
    rw [← hN4] at hp4
    clear hN4
    replace hPv := Lib.hid hPv
    replace hp4 := Lib.hid hp4
    go_upto_region 11 with fail
    clear q4 q5
    have : Nonempty (Tw (fun w' => Below w.heap.size w w')) := ⟨⟨_, bel⟩⟩
    refine wp_region_plan (fun w' => Below w.heap.size w w') [(0, true), (1, true), (3, true), (4, true), (2, false), (6, true), (5, false), (7, false), (8, true), (9, false)] (by kernel_rfl) (by kernel_rfl) (by kernel_rfl) (by kernel_rfl) bel.drew ?_
    replace bp := bp.drew
    replace bk := bk.drew
    replace bel := bel.drew
    generalize W3.drew = W8 at *
    refine wpPl_qs 4 _ _ _ (by kernel_rfl) (by kernel_rfl) (by simp) ?_
    unfold clsS
    simp only [List.take_succ_cons, List.take_zero, List.drop_succ_cons, List.drop_zero, List.filterMap_cons, List.filterMap_nil, List.getElem?_toArray, List.getElem?_cons_zero, List.getElem?_cons_succ]
    repeat (first
      | go_big_quiet_skip
      | (go_big_quiet_want; go_big_quiet_op; go_big_quiet_on)
      | (refine id (?_ : wpQuiet _ _ _ _ (_ :: _) _); first | go_big_quiet_skip | (go_big_quiet_want; go_big_quiet_op; go_big_quiet_on)))
    refine wpQuiet_nil ?_
    refine wpPl_e _ (by rfl) (by kernel_rfl) (fun K hK => ?_)
    go_simp
    refine (hp4.out _ bel).mono ?_
    rintro e w1 ⟨rfl, hb1⟩
    replace bp := bp.bel hb1
    replace bk := bk.bel hb1
    replace bel := bel_after bel hb1
    clear hb1
    refine hK _ _ bel ?_
    clear hK K
    refine wpPl_qs 1 _ _ _ (by kernel_rfl) (by kernel_rfl) (by simp) ?_
    unfold clsS
    simp only [List.take_succ_cons, List.take_zero, List.drop_succ_cons, List.drop_zero, List.filterMap_cons, List.filterMap_nil, List.getElem?_toArray, List.getElem?_cons_zero, List.getElem?_cons_succ]
    repeat (first
      | go_big_quiet_skip
      | (go_big_quiet_want; go_big_quiet_op; go_big_quiet_on)
      | (refine id (?_ : wpQuiet _ _ _ _ (_ :: _) _); first | go_big_quiet_skip | (go_big_quiet_want; go_big_quiet_op; go_big_quiet_on)))
    refine wpQuiet_nil ?_
    refine wpPl_e _ (by rfl) (by kernel_rfl) (fun K hK => ?_)
    go_simp
    refine (hp4.out _ bel).mono ?_
    rintro e w2 ⟨rfl, hb1⟩
    replace bp := bp.bel hb1
    replace bk := bk.bel hb1
    replace bel := bel_after bel hb1
    clear hb1
    refine hK _ _ bel ?_
    clear hK K
    have q1 := bp.cell 1
    have r1 := bp.frozen 1
    refine wpPl_e _ (by rfl) (by kernel_rfl) (fun K hK => ?_)
    go_simp
    replace bk := bk.far (p := ⟨g3, 1, none⟩) (by show w.heap.size + 1 ≠ g3; omega) (.int .u16 N4)
    replace bel := bel.setCell (p := ⟨g3, 1, none⟩) (by show w.heap.size ≤ g3; omega) (.int .u16 N4)
    replace bp := bp.set_ 1 (.int .u16 N4)
    clear q1 r1
    refine hK _ _ bel ?_
    clear hK K
    refine wpPl_qs 1 _ _ _ (by kernel_rfl) (by kernel_rfl) (by simp) ?_
    unfold clsS
    simp only [List.take_succ_cons, List.take_zero, List.drop_succ_cons, List.drop_zero, List.filterMap_cons, List.filterMap_nil, List.getElem?_toArray, List.getElem?_cons_zero, List.getElem?_cons_succ]
    repeat (first
      | go_big_quiet_skip
      | (go_big_quiet_want; go_big_quiet_op; go_big_quiet_on)
      | (refine id (?_ : wpQuiet _ _ _ _ (_ :: _) _); first | go_big_quiet_skip | (go_big_quiet_want; go_big_quiet_op; go_big_quiet_on)))
    refine wpQuiet_nil ?_
    have q2 := bp.cell 2
    have r2 := bp.frozen 2
    refine wpPl_e _ (by rfl) (by kernel_rfl) (fun K hK => ?_)
    go_simp
    replace bk := bk.far (p := ⟨g3, 2, none⟩) (by show w.heap.size + 1 ≠ g3; omega) (.int .u16 N4)
    replace bel := bel.setCell (p := ⟨g3, 2, none⟩) (by show w.heap.size ≤ g3; omega) (.int .u16 N4)
    replace bp := bp.set_ 2 (.int .u16 N4)
    clear q2 r2
    refine hK _ _ bel ?_
    clear hK K
    unfold wpPl
    refine NoPanic.normal ?_
    simp only [List.setIfInBounds_toArray, List.set_cons_succ, List.set_cons_zero] at bp
    generalize ((w2.setCell ⟨g3, 1, none⟩ (.int .u16 N4)).setCell ⟨g3, 2, none⟩ (.int .u16 N4)) = W9 at *
    go_wp2_with (first
      | (refine wpList_ldRow rfl rfl rfl bp Tryz.underlying87 pt_size ?_)
      | (refine wpList_stRow rfl rfl rfl rfl rfl bk pt_size rfl (by simp [Value.oneCell']) ?_))
    refine bodyPost_ret (results_row2 rfl _ rfl (bk.setRow _) Tryz.underlying87 pt_size) rfl ⟨?_, below_setRow bel (by omega) _⟩
    exact congrArg (fun x => Ending.returned (.tuple #[x, .int .i64 0])) hPv.out.symm
  · have hfa := fun w' (hb : Below w.heap.size w w') => fault_any { Pt.z with proto := 1, kind := 3, code := f1 } ⟨h0, h1, h2, h3, h4, h5⟩ (l.drop 8) A2 (len - 8) (c - 8) _ w' ((hr2.below hb).more hb.size) (Nat.le_refl _) (by omega) (by omega) hh
    simp only at hfa
    obtain ⟨R, hR⟩ : ∃ R, R = faultR { Pt.z with proto := 1, kind := 3, code := f1 } (h0 + 8) (l.drop 8) := ⟨_, rfl⟩
    rw [← hR] at hfa
    replace hR := Lib.hid hR
    simp only [Pt.val, Pt.z, Hd.z, Hd.val, Tells] at hfa
    replace hfa := Lib.hid hfa
    go_upto_region 16 with fail
    clear q4 q5
    have z0 : ∀ t : Tw (fun w' => Blk w' g3 87 #[.int .i64 1, .int .u16 0, .int .u16 0, .int .i64 0, .int .i64 3, .int .i64 f1, .bool false, .int .i64 0, .int .i64 0, .int .i64 0, .int .i64 0, .int .u32 0, .int .u32 0, .int .i64 0, .bool false] ∧ Blk w' w.heap.size 81 #[.int .i64 h0, .int .i64 h1, .int .i64 h2, .int .i64 h3, .int .u32 h4, .int .u32 h5]), t.w.cell? ⟨g3, 0, none⟩ = some (.int .i64 1) := fun t => t.h.1.cell 0
    have z1 : ∀ t : Tw (fun w' => Blk w' g3 87 #[.int .i64 1, .int .u16 0, .int .u16 0, .int .i64 0, .int .i64 3, .int .i64 f1, .bool false, .int .i64 0, .int .i64 0, .int .i64 0, .int .i64 0, .int .u32 0, .int .u32 0, .int .i64 0, .bool false] ∧ Blk w' w.heap.size 81 #[.int .i64 h0, .int .i64 h1, .int .i64 h2, .int .i64 h3, .int .u32 h4, .int .u32 h5]), t.w.cell? ⟨g3, 1, none⟩ = some (.int .u16 0) := fun t => t.h.1.cell 1
    have z2 : ∀ t : Tw (fun w' => Blk w' g3 87 #[.int .i64 1, .int .u16 0, .int .u16 0, .int .i64 0, .int .i64 3, .int .i64 f1, .bool false, .int .i64 0, .int .i64 0, .int .i64 0, .int .i64 0, .int .u32 0, .int .u32 0, .int .i64 0, .bool false] ∧ Blk w' w.heap.size 81 #[.int .i64 h0, .int .i64 h1, .int .i64 h2, .int .i64 h3, .int .u32 h4, .int .u32 h5]), t.w.cell? ⟨g3, 2, none⟩ = some (.int .u16 0) := fun t => t.h.1.cell 2
    have z3 : ∀ t : Tw (fun w' => Blk w' g3 87 #[.int .i64 1, .int .u16 0, .int .u16 0, .int .i64 0, .int .i64 3, .int .i64 f1, .bool false, .int .i64 0, .int .i64 0, .int .i64 0, .int .i64 0, .int .u32 0, .int .u32 0, .int .i64 0, .bool false] ∧ Blk w' w.heap.size 81 #[.int .i64 h0, .int .i64 h1, .int .i64 h2, .int .i64 h3, .int .u32 h4, .int .u32 h5]), t.w.cell? ⟨g3, 3, none⟩ = some (.int .i64 0) := fun t => t.h.1.cell 3
    have z4 : ∀ t : Tw (fun w' => Blk w' g3 87 #[.int .i64 1, .int .u16 0, .int .u16 0, .int .i64 0, .int .i64 3, .int .i64 f1, .bool false, .int .i64 0, .int .i64 0, .int .i64 0, .int .i64 0, .int .u32 0, .int .u32 0, .int .i64 0, .bool false] ∧ Blk w' w.heap.size 81 #[.int .i64 h0, .int .i64 h1, .int .i64 h2, .int .i64 h3, .int .u32 h4, .int .u32 h5]), t.w.cell? ⟨g3, 4, none⟩ = some (.int .i64 3) := fun t => t.h.1.cell 4
    have z5 : ∀ t : Tw (fun w' => Blk w' g3 87 #[.int .i64 1, .int .u16 0, .int .u16 0, .int .i64 0, .int .i64 3, .int .i64 f1, .bool false, .int .i64 0, .int .i64 0, .int .i64 0, .int .i64 0, .int .u32 0, .int .u32 0, .int .i64 0, .bool false] ∧ Blk w' w.heap.size 81 #[.int .i64 h0, .int .i64 h1, .int .i64 h2, .int .i64 h3, .int .u32 h4, .int .u32 h5]), t.w.cell? ⟨g3, 5, none⟩ = some (.int .i64 f1) := fun t => t.h.1.cell 5
    have z6 : ∀ t : Tw (fun w' => Blk w' g3 87 #[.int .i64 1, .int .u16 0, .int .u16 0, .int .i64 0, .int .i64 3, .int .i64 f1, .bool false, .int .i64 0, .int .i64 0, .int .i64 0, .int .i64 0, .int .u32 0, .int .u32 0, .int .i64 0, .bool false] ∧ Blk w' w.heap.size 81 #[.int .i64 h0, .int .i64 h1, .int .i64 h2, .int .i64 h3, .int .u32 h4, .int .u32 h5]), t.w.cell? ⟨g3, 6, none⟩ = some (.bool false) := fun t => t.h.1.cell 6
    have z7 : ∀ t : Tw (fun w' => Blk w' g3 87 #[.int .i64 1, .int .u16 0, .int .u16 0, .int .i64 0, .int .i64 3, .int .i64 f1, .bool false, .int .i64 0, .int .i64 0, .int .i64 0, .int .i64 0, .int .u32 0, .int .u32 0, .int .i64 0, .bool false] ∧ Blk w' w.heap.size 81 #[.int .i64 h0, .int .i64 h1, .int .i64 h2, .int .i64 h3, .int .u32 h4, .int .u32 h5]), t.w.cell? ⟨g3, 7, none⟩ = some (.int .i64 0) := fun t => t.h.1.cell 7
    have z8 : ∀ t : Tw (fun w' => Blk w' g3 87 #[.int .i64 1, .int .u16 0, .int .u16 0, .int .i64 0, .int .i64 3, .int .i64 f1, .bool false, .int .i64 0, .int .i64 0, .int .i64 0, .int .i64 0, .int .u32 0, .int .u32 0, .int .i64 0, .bool false] ∧ Blk w' w.heap.size 81 #[.int .i64 h0, .int .i64 h1, .int .i64 h2, .int .i64 h3, .int .u32 h4, .int .u32 h5]), t.w.cell? ⟨g3, 8, none⟩ = some (.int .i64 0) := fun t => t.h.1.cell 8
    have z9 : ∀ t : Tw (fun w' => Blk w' g3 87 #[.int .i64 1, .int .u16 0, .int .u16 0, .int .i64 0, .int .i64 3, .int .i64 f1, .bool false, .int .i64 0, .int .i64 0, .int .i64 0, .int .i64 0, .int .u32 0, .int .u32 0, .int .i64 0, .bool false] ∧ Blk w' w.heap.size 81 #[.int .i64 h0, .int .i64 h1, .int .i64 h2, .int .i64 h3, .int .u32 h4, .int .u32 h5]), t.w.cell? ⟨g3, 9, none⟩ = some (.int .i64 0) := fun t => t.h.1.cell 9
    have z10 : ∀ t : Tw (fun w' => Blk w' g3 87 #[.int .i64 1, .int .u16 0, .int .u16 0, .int .i64 0, .int .i64 3, .int .i64 f1, .bool false, .int .i64 0, .int .i64 0, .int .i64 0, .int .i64 0, .int .u32 0, .int .u32 0, .int .i64 0, .bool false] ∧ Blk w' w.heap.size 81 #[.int .i64 h0, .int .i64 h1, .int .i64 h2, .int .i64 h3, .int .u32 h4, .int .u32 h5]), t.w.cell? ⟨g3, 10, none⟩ = some (.int .i64 0) := fun t => t.h.1.cell 10
    have z11 : ∀ t : Tw (fun w' => Blk w' g3 87 #[.int .i64 1, .int .u16 0, .int .u16 0, .int .i64 0, .int .i64 3, .int .i64 f1, .bool false, .int .i64 0, .int .i64 0, .int .i64 0, .int .i64 0, .int .u32 0, .int .u32 0, .int .i64 0, .bool false] ∧ Blk w' w.heap.size 81 #[.int .i64 h0, .int .i64 h1, .int .i64 h2, .int .i64 h3, .int .u32 h4, .int .u32 h5]), t.w.cell? ⟨g3, 11, none⟩ = some (.int .u32 0) := fun t => t.h.1.cell 11
    have z12 : ∀ t : Tw (fun w' => Blk w' g3 87 #[.int .i64 1, .int .u16 0, .int .u16 0, .int .i64 0, .int .i64 3, .int .i64 f1, .bool false, .int .i64 0, .int .i64 0, .int .i64 0, .int .i64 0, .int .u32 0, .int .u32 0, .int .i64 0, .bool false] ∧ Blk w' w.heap.size 81 #[.int .i64 h0, .int .i64 h1, .int .i64 h2, .int .i64 h3, .int .u32 h4, .int .u32 h5]), t.w.cell? ⟨g3, 12, none⟩ = some (.int .u32 0) := fun t => t.h.1.cell 12
    have z13 : ∀ t : Tw (fun w' => Blk w' g3 87 #[.int .i64 1, .int .u16 0, .int .u16 0, .int .i64 0, .int .i64 3, .int .i64 f1, .bool false, .int .i64 0, .int .i64 0, .int .i64 0, .int .i64 0, .int .u32 0, .int .u32 0, .int .i64 0, .bool false] ∧ Blk w' w.heap.size 81 #[.int .i64 h0, .int .i64 h1, .int .i64 h2, .int .i64 h3, .int .u32 h4, .int .u32 h5]), t.w.cell? ⟨g3, 13, none⟩ = some (.int .i64 0) := fun t => t.h.1.cell 13
    have z14 : ∀ t : Tw (fun w' => Blk w' g3 87 #[.int .i64 1, .int .u16 0, .int .u16 0, .int .i64 0, .int .i64 3, .int .i64 f1, .bool false, .int .i64 0, .int .i64 0, .int .i64 0, .int .i64 0, .int .u32 0, .int .u32 0, .int .i64 0, .bool false] ∧ Blk w' w.heap.size 81 #[.int .i64 h0, .int .i64 h1, .int .i64 h2, .int .i64 h3, .int .u32 h4, .int .u32 h5]), t.w.cell? ⟨g3, 14, none⟩ = some (.bool false) := fun t => t.h.1.cell 14
    have v0 : ∀ t : Tw (fun w' => Blk w' g3 87 #[.int .i64 1, .int .u16 0, .int .u16 0, .int .i64 0, .int .i64 3, .int .i64 f1, .bool false, .int .i64 0, .int .i64 0, .int .i64 0, .int .i64 0, .int .u32 0, .int .u32 0, .int .i64 0, .bool false] ∧ Blk w' w.heap.size 81 #[.int .i64 h0, .int .i64 h1, .int .i64 h2, .int .i64 h3, .int .u32 h4, .int .u32 h5]), t.w.cell? ⟨w.heap.size, 0, none⟩ = some (.int .i64 h0) := fun t => t.h.2.cell 0
    have v1 : ∀ t : Tw (fun w' => Blk w' g3 87 #[.int .i64 1, .int .u16 0, .int .u16 0, .int .i64 0, .int .i64 3, .int .i64 f1, .bool false, .int .i64 0, .int .i64 0, .int .i64 0, .int .i64 0, .int .u32 0, .int .u32 0, .int .i64 0, .bool false] ∧ Blk w' w.heap.size 81 #[.int .i64 h0, .int .i64 h1, .int .i64 h2, .int .i64 h3, .int .u32 h4, .int .u32 h5]), t.w.cell? ⟨w.heap.size, 1, none⟩ = some (.int .i64 h1) := fun t => t.h.2.cell 1
    have v2 : ∀ t : Tw (fun w' => Blk w' g3 87 #[.int .i64 1, .int .u16 0, .int .u16 0, .int .i64 0, .int .i64 3, .int .i64 f1, .bool false, .int .i64 0, .int .i64 0, .int .i64 0, .int .i64 0, .int .u32 0, .int .u32 0, .int .i64 0, .bool false] ∧ Blk w' w.heap.size 81 #[.int .i64 h0, .int .i64 h1, .int .i64 h2, .int .i64 h3, .int .u32 h4, .int .u32 h5]), t.w.cell? ⟨w.heap.size, 2, none⟩ = some (.int .i64 h2) := fun t => t.h.2.cell 2
    have v3 : ∀ t : Tw (fun w' => Blk w' g3 87 #[.int .i64 1, .int .u16 0, .int .u16 0, .int .i64 0, .int .i64 3, .int .i64 f1, .bool false, .int .i64 0, .int .i64 0, .int .i64 0, .int .i64 0, .int .u32 0, .int .u32 0, .int .i64 0, .bool false] ∧ Blk w' w.heap.size 81 #[.int .i64 h0, .int .i64 h1, .int .i64 h2, .int .i64 h3, .int .u32 h4, .int .u32 h5]), t.w.cell? ⟨w.heap.size, 3, none⟩ = some (.int .i64 h3) := fun t => t.h.2.cell 3
    have v4 : ∀ t : Tw (fun w' => Blk w' g3 87 #[.int .i64 1, .int .u16 0, .int .u16 0, .int .i64 0, .int .i64 3, .int .i64 f1, .bool false, .int .i64 0, .int .i64 0, .int .i64 0, .int .i64 0, .int .u32 0, .int .u32 0, .int .i64 0, .bool false] ∧ Blk w' w.heap.size 81 #[.int .i64 h0, .int .i64 h1, .int .i64 h2, .int .i64 h3, .int .u32 h4, .int .u32 h5]), t.w.cell? ⟨w.heap.size, 4, none⟩ = some (.int .u32 h4) := fun t => t.h.2.cell 4
    have v5 : ∀ t : Tw (fun w' => Blk w' g3 87 #[.int .i64 1, .int .u16 0, .int .u16 0, .int .i64 0, .int .i64 3, .int .i64 f1, .bool false, .int .i64 0, .int .i64 0, .int .i64 0, .int .i64 0, .int .u32 0, .int .u32 0, .int .i64 0, .bool false] ∧ Blk w' w.heap.size 81 #[.int .i64 h0, .int .i64 h1, .int .i64 h2, .int .i64 h3, .int .u32 h4, .int .u32 h5]), t.w.cell? ⟨w.heap.size, 5, none⟩ = some (.int .u32 h5) := fun t => t.h.2.cell 5
    have : Nonempty (Tw (fun w' => Blk w' g3 87 #[.int .i64 1, .int .u16 0, .int .u16 0, .int .i64 0, .int .i64 3, .int .i64 f1, .bool false, .int .i64 0, .int .i64 0, .int .i64 0, .int .i64 0, .int .u32 0, .int .u32 0, .int .i64 0, .bool false] ∧ Blk w' w.heap.size 81 #[.int .i64 h0, .int .i64 h1, .int .i64 h2, .int .i64 h3, .int .u32 h4, .int .u32 h5])) := ⟨⟨_, bp, bh⟩⟩
    refine wp_region_plan (fun w' => Blk w' g3 87 #[.int .i64 1, .int .u16 0, .int .u16 0, .int .i64 0, .int .i64 3, .int .i64 f1, .bool false, .int .i64 0, .int .i64 0, .int .i64 0, .int .i64 0, .int .u32 0, .int .u32 0, .int .i64 0, .bool false] ∧ Blk w' w.heap.size 81 #[.int .i64 h0, .int .i64 h1, .int .i64 h2, .int .i64 h3, .int .u32 h4, .int .u32 h5]) [(0, true), (1, true), (2, true), (3, true), (4, false), (5, true), (6, true), (7, false), (8, true)] (by kernel_rfl) (by kernel_rfl) (by kernel_rfl) (by kernel_rfl) ⟨bp.drew, bh.drew⟩ ?_
    replace bp := bp.drew
    replace bh := bh.drew
    replace bk := bk.drew
    replace bel := bel.drew
    generalize W3.drew = W8 at *
    refine wpPl_qs 4 _ _ _ (by kernel_rfl) (by kernel_rfl) (by simp) ?_
    unfold clsS
    simp only [List.take_succ_cons, List.take_zero, List.drop_succ_cons, List.drop_zero, List.filterMap_cons, List.filterMap_nil, List.getElem?_toArray, List.getElem?_cons_zero, List.getElem?_cons_succ]
    repeat (first
      | go_big_quiet_skip
      | (go_big_quiet_want; go_big_quiet_op; go_big_quiet_on)
      | (refine id (?_ : wpQuiet _ _ _ _ (_ :: _) _); first | go_big_quiet_skip | (go_big_quiet_want; go_big_quiet_op; go_big_quiet_on)))
    refine wpQuiet_nil ?_
    refine wpPl_e _ (by rfl) (by kernel_rfl) (fun K hK => ?_)
    go_simp
    rw [← hA2.out]
    refine (hfa.out _ bel).mono ?_
    rintro e w' ⟨rfl, hb⟩
    replace bp := bp.bel hb
    replace bh := bh.bel hb
    replace bk := bk.bel hb
    replace bel := bel_after bel hb
    clear hb
    refine hK _ _ ⟨bp, bh⟩ ?_
    clear hK K
    refine wpPl_qs 2 _ _ _ (by kernel_rfl) (by kernel_rfl) (by simp) ?_
    unfold clsS
    simp only [List.take_succ_cons, List.take_zero, List.drop_succ_cons, List.drop_zero, List.filterMap_cons, List.filterMap_nil, List.getElem?_toArray, List.getElem?_cons_zero, List.getElem?_cons_succ]
    repeat (first
      | go_big_quiet_skip
      | (go_big_quiet_want; go_big_quiet_op; go_big_quiet_on)
      | (refine id (?_ : wpQuiet _ _ _ _ (_ :: _) _); first | go_big_quiet_skip | (go_big_quiet_want; go_big_quiet_op; go_big_quiet_on)))
    refine wpQuiet_nil ?_
    refine wpPl_e _ (by rfl) (by kernel_rfl) (fun K hK => ?_)
    refine wp_stRow rfl rfl rfl rfl bk pt_size rfl (by simp [Value.oneCell']) ?_
    replace bh := bh.setRow_far (g' := w.heap.size + 1) (by omega) R.2.cells
    replace bp := bp.setRow_far (g' := w.heap.size + 1) (by omega) R.2.cells
    replace bel := below_setRow bel (g := w.heap.size + 1) (by omega) R.2.cells
    replace bk := bk.setRow R.2.cells
    refine hK _ _ ⟨bp, bh⟩ ?_
    clear hK K
    refine wpPl_qs 1 _ _ _ (by kernel_rfl) (by kernel_rfl) (by simp) ?_
    unfold clsS
    simp only [List.take_succ_cons, List.take_zero, List.drop_succ_cons, List.drop_zero, List.filterMap_cons, List.filterMap_nil, List.getElem?_toArray, List.getElem?_cons_zero, List.getElem?_cons_succ]
    repeat (first
      | go_big_quiet_skip
      | (go_big_quiet_want; go_big_quiet_op; go_big_quiet_on)
      | (refine id (?_ : wpQuiet _ _ _ _ (_ :: _) _); first | go_big_quiet_skip | (go_big_quiet_want; go_big_quiet_op; go_big_quiet_on)))
    refine wpQuiet_nil ?_
    unfold wpPl
    refine NoPanic.normal ?_
    go_wp2
    refine bodyPost_ret (results_row2 rfl _ rfl bk Tryz.underlying87 pt_size) rfl ⟨?_, bel⟩
    rw [← hR.out]
    rfl
  · have hfa := fun w' (hb : Below w.heap.size w w') => fault_any { Pt.z with proto := 1, kind := 11, code := f1 } ⟨h0, h1, h2, h3, h4, h5⟩ (l.drop 8) A2 (len - 8) (c - 8) _ w' ((hr2.below hb).more hb.size) (Nat.le_refl _) (by omega) (by omega) hh
    simp only at hfa
    obtain ⟨R, hR⟩ : ∃ R, R = faultR { Pt.z with proto := 1, kind := 11, code := f1 } (h0 + 8) (l.drop 8) := ⟨_, rfl⟩
    rw [← hR] at hfa
    replace hR := Lib.hid hR
    simp only [Pt.val, Pt.z, Hd.z, Hd.val, Tells] at hfa
    replace hfa := Lib.hid hfa
    go_upto_region 16 with fail
    clear q4 q5
    have z0 : ∀ t : Tw (fun w' => Blk w' g3 87 #[.int .i64 1, .int .u16 0, .int .u16 0, .int .i64 0, .int .i64 11, .int .i64 f1, .bool false, .int .i64 0, .int .i64 0, .int .i64 0, .int .i64 0, .int .u32 0, .int .u32 0, .int .i64 0, .bool false] ∧ Blk w' w.heap.size 81 #[.int .i64 h0, .int .i64 h1, .int .i64 h2, .int .i64 h3, .int .u32 h4, .int .u32 h5]), t.w.cell? ⟨g3, 0, none⟩ = some (.int .i64 1) := fun t => t.h.1.cell 0
    have z1 : ∀ t : Tw (fun w' => Blk w' g3 87 #[.int .i64 1, .int .u16 0, .int .u16 0, .int .i64 0, .int .i64 11, .int .i64 f1, .bool false, .int .i64 0, .int .i64 0, .int .i64 0, .int .i64 0, .int .u32 0, .int .u32 0, .int .i64 0, .bool false] ∧ Blk w' w.heap.size 81 #[.int .i64 h0, .int .i64 h1, .int .i64 h2, .int .i64 h3, .int .u32 h4, .int .u32 h5]), t.w.cell? ⟨g3, 1, none⟩ = some (.int .u16 0) := fun t => t.h.1.cell 1
    have z2 : ∀ t : Tw (fun w' => Blk w' g3 87 #[.int .i64 1, .int .u16 0, .int .u16 0, .int .i64 0, .int .i64 11, .int .i64 f1, .bool false, .int .i64 0, .int .i64 0, .int .i64 0, .int .i64 0, .int .u32 0, .int .u32 0, .int .i64 0, .bool false] ∧ Blk w' w.heap.size 81 #[.int .i64 h0, .int .i64 h1, .int .i64 h2, .int .i64 h3, .int .u32 h4, .int .u32 h5]), t.w.cell? ⟨g3, 2, none⟩ = some (.int .u16 0) := fun t => t.h.1.cell 2
    have z3 : ∀ t : Tw (fun w' => Blk w' g3 87 #[.int .i64 1, .int .u16 0, .int .u16 0, .int .i64 0, .int .i64 11, .int .i64 f1, .bool false, .int .i64 0, .int .i64 0, .int .i64 0, .int .i64 0, .int .u32 0, .int .u32 0, .int .i64 0, .bool false] ∧ Blk w' w.heap.size 81 #[.int .i64 h0, .int .i64 h1, .int .i64 h2, .int .i64 h3, .int .u32 h4, .int .u32 h5]), t.w.cell? ⟨g3, 3, none⟩ = some (.int .i64 0) := fun t => t.h.1.cell 3
    have z4 : ∀ t : Tw (fun w' => Blk w' g3 87 #[.int .i64 1, .int .u16 0, .int .u16 0, .int .i64 0, .int .i64 11, .int .i64 f1, .bool false, .int .i64 0, .int .i64 0, .int .i64 0, .int .i64 0, .int .u32 0, .int .u32 0, .int .i64 0, .bool false] ∧ Blk w' w.heap.size 81 #[.int .i64 h0, .int .i64 h1, .int .i64 h2, .int .i64 h3, .int .u32 h4, .int .u32 h5]), t.w.cell? ⟨g3, 4, none⟩ = some (.int .i64 11) := fun t => t.h.1.cell 4
    have z5 : ∀ t : Tw (fun w' => Blk w' g3 87 #[.int .i64 1, .int .u16 0, .int .u16 0, .int .i64 0, .int .i64 11, .int .i64 f1, .bool false, .int .i64 0, .int .i64 0, .int .i64 0, .int .i64 0, .int .u32 0, .int .u32 0, .int .i64 0, .bool false] ∧ Blk w' w.heap.size 81 #[.int .i64 h0, .int .i64 h1, .int .i64 h2, .int .i64 h3, .int .u32 h4, .int .u32 h5]), t.w.cell? ⟨g3, 5, none⟩ = some (.int .i64 f1) := fun t => t.h.1.cell 5
    have z6 : ∀ t : Tw (fun w' => Blk w' g3 87 #[.int .i64 1, .int .u16 0, .int .u16 0, .int .i64 0, .int .i64 11, .int .i64 f1, .bool false, .int .i64 0, .int .i64 0, .int .i64 0, .int .i64 0, .int .u32 0, .int .u32 0, .int .i64 0, .bool false] ∧ Blk w' w.heap.size 81 #[.int .i64 h0, .int .i64 h1, .int .i64 h2, .int .i64 h3, .int .u32 h4, .int .u32 h5]), t.w.cell? ⟨g3, 6, none⟩ = some (.bool false) := fun t => t.h.1.cell 6
    have z7 : ∀ t : Tw (fun w' => Blk w' g3 87 #[.int .i64 1, .int .u16 0, .int .u16 0, .int .i64 0, .int .i64 11, .int .i64 f1, .bool false, .int .i64 0, .int .i64 0, .int .i64 0, .int .i64 0, .int .u32 0, .int .u32 0, .int .i64 0, .bool false] ∧ Blk w' w.heap.size 81 #[.int .i64 h0, .int .i64 h1, .int .i64 h2, .int .i64 h3, .int .u32 h4, .int .u32 h5]), t.w.cell? ⟨g3, 7, none⟩ = some (.int .i64 0) := fun t => t.h.1.cell 7
    have z8 : ∀ t : Tw (fun w' => Blk w' g3 87 #[.int .i64 1, .int .u16 0, .int .u16 0, .int .i64 0, .int .i64 11, .int .i64 f1, .bool false, .int .i64 0, .int .i64 0, .int .i64 0, .int .i64 0, .int .u32 0, .int .u32 0, .int .i64 0, .bool false] ∧ Blk w' w.heap.size 81 #[.int .i64 h0, .int .i64 h1, .int .i64 h2, .int .i64 h3, .int .u32 h4, .int .u32 h5]), t.w.cell? ⟨g3, 8, none⟩ = some (.int .i64 0) := fun t => t.h.1.cell 8
    have z9 : ∀ t : Tw (fun w' => Blk w' g3 87 #[.int .i64 1, .int .u16 0, .int .u16 0, .int .i64 0, .int .i64 11, .int .i64 f1, .bool false, .int .i64 0, .int .i64 0, .int .i64 0, .int .i64 0, .int .u32 0, .int .u32 0, .int .i64 0, .bool false] ∧ Blk w' w.heap.size 81 #[.int .i64 h0, .int .i64 h1, .int .i64 h2, .int .i64 h3, .int .u32 h4, .int .u32 h5]), t.w.cell? ⟨g3, 9, none⟩ = some (.int .i64 0) := fun t => t.h.1.cell 9
    have z10 : ∀ t : Tw (fun w' => Blk w' g3 87 #[.int .i64 1, .int .u16 0, .int .u16 0, .int .i64 0, .int .i64 11, .int .i64 f1, .bool false, .int .i64 0, .int .i64 0, .int .i64 0, .int .i64 0, .int .u32 0, .int .u32 0, .int .i64 0, .bool false] ∧ Blk w' w.heap.size 81 #[.int .i64 h0, .int .i64 h1, .int .i64 h2, .int .i64 h3, .int .u32 h4, .int .u32 h5]), t.w.cell? ⟨g3, 10, none⟩ = some (.int .i64 0) := fun t => t.h.1.cell 10
    have z11 : ∀ t : Tw (fun w' => Blk w' g3 87 #[.int .i64 1, .int .u16 0, .int .u16 0, .int .i64 0, .int .i64 11, .int .i64 f1, .bool false, .int .i64 0, .int .i64 0, .int .i64 0, .int .i64 0, .int .u32 0, .int .u32 0, .int .i64 0, .bool false] ∧ Blk w' w.heap.size 81 #[.int .i64 h0, .int .i64 h1, .int .i64 h2, .int .i64 h3, .int .u32 h4, .int .u32 h5]), t.w.cell? ⟨g3, 11, none⟩ = some (.int .u32 0) := fun t => t.h.1.cell 11
    have z12 : ∀ t : Tw (fun w' => Blk w' g3 87 #[.int .i64 1, .int .u16 0, .int .u16 0, .int .i64 0, .int .i64 11, .int .i64 f1, .bool false, .int .i64 0, .int .i64 0, .int .i64 0, .int .i64 0, .int .u32 0, .int .u32 0, .int .i64 0, .bool false] ∧ Blk w' w.heap.size 81 #[.int .i64 h0, .int .i64 h1, .int .i64 h2, .int .i64 h3, .int .u32 h4, .int .u32 h5]), t.w.cell? ⟨g3, 12, none⟩ = some (.int .u32 0) := fun t => t.h.1.cell 12
    have z13 : ∀ t : Tw (fun w' => Blk w' g3 87 #[.int .i64 1, .int .u16 0, .int .u16 0, .int .i64 0, .int .i64 11, .int .i64 f1, .bool false, .int .i64 0, .int .i64 0, .int .i64 0, .int .i64 0, .int .u32 0, .int .u32 0, .int .i64 0, .bool false] ∧ Blk w' w.heap.size 81 #[.int .i64 h0, .int .i64 h1, .int .i64 h2, .int .i64 h3, .int .u32 h4, .int .u32 h5]), t.w.cell? ⟨g3, 13, none⟩ = some (.int .i64 0) := fun t => t.h.1.cell 13
    have z14 : ∀ t : Tw (fun w' => Blk w' g3 87 #[.int .i64 1, .int .u16 0, .int .u16 0, .int .i64 0, .int .i64 11, .int .i64 f1, .bool false, .int .i64 0, .int .i64 0, .int .i64 0, .int .i64 0, .int .u32 0, .int .u32 0, .int .i64 0, .bool false] ∧ Blk w' w.heap.size 81 #[.int .i64 h0, .int .i64 h1, .int .i64 h2, .int .i64 h3, .int .u32 h4, .int .u32 h5]), t.w.cell? ⟨g3, 14, none⟩ = some (.bool false) := fun t => t.h.1.cell 14
    have v0 : ∀ t : Tw (fun w' => Blk w' g3 87 #[.int .i64 1, .int .u16 0, .int .u16 0, .int .i64 0, .int .i64 11, .int .i64 f1, .bool false, .int .i64 0, .int .i64 0, .int .i64 0, .int .i64 0, .int .u32 0, .int .u32 0, .int .i64 0, .bool false] ∧ Blk w' w.heap.size 81 #[.int .i64 h0, .int .i64 h1, .int .i64 h2, .int .i64 h3, .int .u32 h4, .int .u32 h5]), t.w.cell? ⟨w.heap.size, 0, none⟩ = some (.int .i64 h0) := fun t => t.h.2.cell 0
    have v1 : ∀ t : Tw (fun w' => Blk w' g3 87 #[.int .i64 1, .int .u16 0, .int .u16 0, .int .i64 0, .int .i64 11, .int .i64 f1, .bool false, .int .i64 0, .int .i64 0, .int .i64 0, .int .i64 0, .int .u32 0, .int .u32 0, .int .i64 0, .bool false] ∧ Blk w' w.heap.size 81 #[.int .i64 h0, .int .i64 h1, .int .i64 h2, .int .i64 h3, .int .u32 h4, .int .u32 h5]), t.w.cell? ⟨w.heap.size, 1, none⟩ = some (.int .i64 h1) := fun t => t.h.2.cell 1
    have v2 : ∀ t : Tw (fun w' => Blk w' g3 87 #[.int .i64 1, .int .u16 0, .int .u16 0, .int .i64 0, .int .i64 11, .int .i64 f1, .bool false, .int .i64 0, .int .i64 0, .int .i64 0, .int .i64 0, .int .u32 0, .int .u32 0, .int .i64 0, .bool false] ∧ Blk w' w.heap.size 81 #[.int .i64 h0, .int .i64 h1, .int .i64 h2, .int .i64 h3, .int .u32 h4, .int .u32 h5]), t.w.cell? ⟨w.heap.size, 2, none⟩ = some (.int .i64 h2) := fun t => t.h.2.cell 2
    have v3 : ∀ t : Tw (fun w' => Blk w' g3 87 #[.int .i64 1, .int .u16 0, .int .u16 0, .int .i64 0, .int .i64 11, .int .i64 f1, .bool false, .int .i64 0, .int .i64 0, .int .i64 0, .int .i64 0, .int .u32 0, .int .u32 0, .int .i64 0, .bool false] ∧ Blk w' w.heap.size 81 #[.int .i64 h0, .int .i64 h1, .int .i64 h2, .int .i64 h3, .int .u32 h4, .int .u32 h5]), t.w.cell? ⟨w.heap.size, 3, none⟩ = some (.int .i64 h3) := fun t => t.h.2.cell 3
    have v4 : ∀ t : Tw (fun w' => Blk w' g3 87 #[.int .i64 1, .int .u16 0, .int .u16 0, .int .i64 0, .int .i64 11, .int .i64 f1, .bool false, .int .i64 0, .int .i64 0, .int .i64 0, .int .i64 0, .int .u32 0, .int .u32 0, .int .i64 0, .bool false] ∧ Blk w' w.heap.size 81 #[.int .i64 h0, .int .i64 h1, .int .i64 h2, .int .i64 h3, .int .u32 h4, .int .u32 h5]), t.w.cell? ⟨w.heap.size, 4, none⟩ = some (.int .u32 h4) := fun t => t.h.2.cell 4
    have v5 : ∀ t : Tw (fun w' => Blk w' g3 87 #[.int .i64 1, .int .u16 0, .int .u16 0, .int .i64 0, .int .i64 11, .int .i64 f1, .bool false, .int .i64 0, .int .i64 0, .int .i64 0, .int .i64 0, .int .u32 0, .int .u32 0, .int .i64 0, .bool false] ∧ Blk w' w.heap.size 81 #[.int .i64 h0, .int .i64 h1, .int .i64 h2, .int .i64 h3, .int .u32 h4, .int .u32 h5]), t.w.cell? ⟨w.heap.size, 5, none⟩ = some (.int .u32 h5) := fun t => t.h.2.cell 5
    have : Nonempty (Tw (fun w' => Blk w' g3 87 #[.int .i64 1, .int .u16 0, .int .u16 0, .int .i64 0, .int .i64 11, .int .i64 f1, .bool false, .int .i64 0, .int .i64 0, .int .i64 0, .int .i64 0, .int .u32 0, .int .u32 0, .int .i64 0, .bool false] ∧ Blk w' w.heap.size 81 #[.int .i64 h0, .int .i64 h1, .int .i64 h2, .int .i64 h3, .int .u32 h4, .int .u32 h5])) := ⟨⟨_, bp, bh⟩⟩
    refine wp_region_plan (fun w' => Blk w' g3 87 #[.int .i64 1, .int .u16 0, .int .u16 0, .int .i64 0, .int .i64 11, .int .i64 f1, .bool false, .int .i64 0, .int .i64 0, .int .i64 0, .int .i64 0, .int .u32 0, .int .u32 0, .int .i64 0, .bool false] ∧ Blk w' w.heap.size 81 #[.int .i64 h0, .int .i64 h1, .int .i64 h2, .int .i64 h3, .int .u32 h4, .int .u32 h5]) [(0, true), (1, true), (2, true), (3, true), (4, false), (5, true), (6, true), (7, false), (8, true)] (by kernel_rfl) (by kernel_rfl) (by kernel_rfl) (by kernel_rfl) ⟨bp.drew, bh.drew⟩ ?_
    replace bp := bp.drew
    replace bh := bh.drew
    replace bk := bk.drew
    replace bel := bel.drew
    generalize W3.drew = W8 at *
    refine wpPl_qs 4 _ _ _ (by kernel_rfl) (by kernel_rfl) (by simp) ?_
    unfold clsS
    simp only [List.take_succ_cons, List.take_zero, List.drop_succ_cons, List.drop_zero, List.filterMap_cons, List.filterMap_nil, List.getElem?_toArray, List.getElem?_cons_zero, List.getElem?_cons_succ]
    repeat (first
      | go_big_quiet_skip
      | (go_big_quiet_want; go_big_quiet_op; go_big_quiet_on)
      | (refine id (?_ : wpQuiet _ _ _ _ (_ :: _) _); first | go_big_quiet_skip | (go_big_quiet_want; go_big_quiet_op; go_big_quiet_on)))
    refine wpQuiet_nil ?_
    refine wpPl_e _ (by rfl) (by kernel_rfl) (fun K hK => ?_)
    go_simp
    rw [← hA2.out]
    refine (hfa.out _ bel).mono ?_
    rintro e w' ⟨rfl, hb⟩
    replace bp := bp.bel hb
    replace bh := bh.bel hb
    replace bk := bk.bel hb
    replace bel := bel_after bel hb
    clear hb
    refine hK _ _ ⟨bp, bh⟩ ?_
    clear hK K
    refine wpPl_qs 2 _ _ _ (by kernel_rfl) (by kernel_rfl) (by simp) ?_
    unfold clsS
    simp only [List.take_succ_cons, List.take_zero, List.drop_succ_cons, List.drop_zero, List.filterMap_cons, List.filterMap_nil, List.getElem?_toArray, List.getElem?_cons_zero, List.getElem?_cons_succ]
    repeat (first
      | go_big_quiet_skip
      | (go_big_quiet_want; go_big_quiet_op; go_big_quiet_on)
      | (refine id (?_ : wpQuiet _ _ _ _ (_ :: _) _); first | go_big_quiet_skip | (go_big_quiet_want; go_big_quiet_op; go_big_quiet_on)))
    refine wpQuiet_nil ?_
    refine wpPl_e _ (by rfl) (by kernel_rfl) (fun K hK => ?_)
    refine wp_stRow rfl rfl rfl rfl bk pt_size rfl (by simp [Value.oneCell']) ?_
    replace bh := bh.setRow_far (g' := w.heap.size + 1) (by omega) R.2.cells
    replace bp := bp.setRow_far (g' := w.heap.size + 1) (by omega) R.2.cells
    replace bel := below_setRow bel (g := w.heap.size + 1) (by omega) R.2.cells
    replace bk := bk.setRow R.2.cells
    refine hK _ _ ⟨bp, bh⟩ ?_
    clear hK K
    refine wpPl_qs 1 _ _ _ (by kernel_rfl) (by kernel_rfl) (by simp) ?_
    unfold clsS
    simp only [List.take_succ_cons, List.take_zero, List.drop_succ_cons, List.drop_zero, List.filterMap_cons, List.filterMap_nil, List.getElem?_toArray, List.getElem?_cons_zero, List.getElem?_cons_succ]
    repeat (first
      | go_big_quiet_skip
      | (go_big_quiet_want; go_big_quiet_op; go_big_quiet_on)
      | (refine id (?_ : wpQuiet _ _ _ _ (_ :: _) _); first | go_big_quiet_skip | (go_big_quiet_want; go_big_quiet_op; go_big_quiet_on)))
    refine wpQuiet_nil ?_
    unfold wpPl
    refine NoPanic.normal ?_
    go_wp2
    refine bodyPost_ret (results_row2 rfl _ rfl bk Tryz.underlying87 pt_size) rfl ⟨?_, bel⟩
    rw [← hR.out]
    rfl
  · have hfa := fun w' (hb : Below w.heap.size w w') => fault_any { Pt.z with proto := 1, kind := 12, code := f1 } ⟨h0, h1, h2, h3, h4, h5⟩ (l.drop 8) A2 (len - 8) (c - 8) _ w' ((hr2.below hb).more hb.size) (Nat.le_refl _) (by omega) (by omega) hh
    simp only at hfa
    obtain ⟨R, hR⟩ : ∃ R, R = faultR { Pt.z with proto := 1, kind := 12, code := f1 } (h0 + 8) (l.drop 8) := ⟨_, rfl⟩
    rw [← hR] at hfa
    replace hR := Lib.hid hR
    simp only [Pt.val, Pt.z, Hd.z, Hd.val, Tells] at hfa
    replace hfa := Lib.hid hfa
    go_upto_region 16 with fail
    clear q4 q5
    have z0 : ∀ t : Tw (fun w' => Blk w' g3 87 #[.int .i64 1, .int .u16 0, .int .u16 0, .int .i64 0, .int .i64 12, .int .i64 f1, .bool false, .int .i64 0, .int .i64 0, .int .i64 0, .int .i64 0, .int .u32 0, .int .u32 0, .int .i64 0, .bool false] ∧ Blk w' w.heap.size 81 #[.int .i64 h0, .int .i64 h1, .int .i64 h2, .int .i64 h3, .int .u32 h4, .int .u32 h5]), t.w.cell? ⟨g3, 0, none⟩ = some (.int .i64 1) := fun t => t.h.1.cell 0
    have z1 : ∀ t : Tw (fun w' => Blk w' g3 87 #[.int .i64 1, .int .u16 0, .int .u16 0, .int .i64 0, .int .i64 12, .int .i64 f1, .bool false, .int .i64 0, .int .i64 0, .int .i64 0, .int .i64 0, .int .u32 0, .int .u32 0, .int .i64 0, .bool false] ∧ Blk w' w.heap.size 81 #[.int .i64 h0, .int .i64 h1, .int .i64 h2, .int .i64 h3, .int .u32 h4, .int .u32 h5]), t.w.cell? ⟨g3, 1, none⟩ = some (.int .u16 0) := fun t => t.h.1.cell 1
    have z2 : ∀ t : Tw (fun w' => Blk w' g3 87 #[.int .i64 1, .int .u16 0, .int .u16 0, .int .i64 0, .int .i64 12, .int .i64 f1, .bool false, .int .i64 0, .int .i64 0, .int .i64 0, .int .i64 0, .int .u32 0, .int .u32 0, .int .i64 0, .bool false] ∧ Blk w' w.heap.size 81 #[.int .i64 h0, .int .i64 h1, .int .i64 h2, .int .i64 h3, .int .u32 h4, .int .u32 h5]), t.w.cell? ⟨g3, 2, none⟩ = some (.int .u16 0) := fun t => t.h.1.cell 2
    have z3 : ∀ t : Tw (fun w' => Blk w' g3 87 #[.int .i64 1, .int .u16 0, .int .u16 0, .int .i64 0, .int .i64 12, .int .i64 f1, .bool false, .int .i64 0, .int .i64 0, .int .i64 0, .int .i64 0, .int .u32 0, .int .u32 0, .int .i64 0, .bool false] ∧ Blk w' w.heap.size 81 #[.int .i64 h0, .int .i64 h1, .int .i64 h2, .int .i64 h3, .int .u32 h4, .int .u32 h5]), t.w.cell? ⟨g3, 3, none⟩ = some (.int .i64 0) := fun t => t.h.1.cell 3
    have z4 : ∀ t : Tw (fun w' => Blk w' g3 87 #[.int .i64 1, .int .u16 0, .int .u16 0, .int .i64 0, .int .i64 12, .int .i64 f1, .bool false, .int .i64 0, .int .i64 0, .int .i64 0, .int .i64 0, .int .u32 0, .int .u32 0, .int .i64 0, .bool false] ∧ Blk w' w.heap.size 81 #[.int .i64 h0, .int .i64 h1, .int .i64 h2, .int .i64 h3, .int .u32 h4, .int .u32 h5]), t.w.cell? ⟨g3, 4, none⟩ = some (.int .i64 12) := fun t => t.h.1.cell 4
    have z5 : ∀ t : Tw (fun w' => Blk w' g3 87 #[.int .i64 1, .int .u16 0, .int .u16 0, .int .i64 0, .int .i64 12, .int .i64 f1, .bool false, .int .i64 0, .int .i64 0, .int .i64 0, .int .i64 0, .int .u32 0, .int .u32 0, .int .i64 0, .bool false] ∧ Blk w' w.heap.size 81 #[.int .i64 h0, .int .i64 h1, .int .i64 h2, .int .i64 h3, .int .u32 h4, .int .u32 h5]), t.w.cell? ⟨g3, 5, none⟩ = some (.int .i64 f1) := fun t => t.h.1.cell 5
    have z6 : ∀ t : Tw (fun w' => Blk w' g3 87 #[.int .i64 1, .int .u16 0, .int .u16 0, .int .i64 0, .int .i64 12, .int .i64 f1, .bool false, .int .i64 0, .int .i64 0, .int .i64 0, .int .i64 0, .int .u32 0, .int .u32 0, .int .i64 0, .bool false] ∧ Blk w' w.heap.size 81 #[.int .i64 h0, .int .i64 h1, .int .i64 h2, .int .i64 h3, .int .u32 h4, .int .u32 h5]), t.w.cell? ⟨g3, 6, none⟩ = some (.bool false) := fun t => t.h.1.cell 6
    have z7 : ∀ t : Tw (fun w' => Blk w' g3 87 #[.int .i64 1, .int .u16 0, .int .u16 0, .int .i64 0, .int .i64 12, .int .i64 f1, .bool false, .int .i64 0, .int .i64 0, .int .i64 0, .int .i64 0, .int .u32 0, .int .u32 0, .int .i64 0, .bool false] ∧ Blk w' w.heap.size 81 #[.int .i64 h0, .int .i64 h1, .int .i64 h2, .int .i64 h3, .int .u32 h4, .int .u32 h5]), t.w.cell? ⟨g3, 7, none⟩ = some (.int .i64 0) := fun t => t.h.1.cell 7
    have z8 : ∀ t : Tw (fun w' => Blk w' g3 87 #[.int .i64 1, .int .u16 0, .int .u16 0, .int .i64 0, .int .i64 12, .int .i64 f1, .bool false, .int .i64 0, .int .i64 0, .int .i64 0, .int .i64 0, .int .u32 0, .int .u32 0, .int .i64 0, .bool false] ∧ Blk w' w.heap.size 81 #[.int .i64 h0, .int .i64 h1, .int .i64 h2, .int .i64 h3, .int .u32 h4, .int .u32 h5]), t.w.cell? ⟨g3, 8, none⟩ = some (.int .i64 0) := fun t => t.h.1.cell 8
    have z9 : ∀ t : Tw (fun w' => Blk w' g3 87 #[.int .i64 1, .int .u16 0, .int .u16 0, .int .i64 0, .int .i64 12, .int .i64 f1, .bool false, .int .i64 0, .int .i64 0, .int .i64 0, .int .i64 0, .int .u32 0, .int .u32 0, .int .i64 0, .bool false] ∧ Blk w' w.heap.size 81 #[.int .i64 h0, .int .i64 h1, .int .i64 h2, .int .i64 h3, .int .u32 h4, .int .u32 h5]), t.w.cell? ⟨g3, 9, none⟩ = some (.int .i64 0) := fun t => t.h.1.cell 9
    have z10 : ∀ t : Tw (fun w' => Blk w' g3 87 #[.int .i64 1, .int .u16 0, .int .u16 0, .int .i64 0, .int .i64 12, .int .i64 f1, .bool false, .int .i64 0, .int .i64 0, .int .i64 0, .int .i64 0, .int .u32 0, .int .u32 0, .int .i64 0, .bool false] ∧ Blk w' w.heap.size 81 #[.int .i64 h0, .int .i64 h1, .int .i64 h2, .int .i64 h3, .int .u32 h4, .int .u32 h5]), t.w.cell? ⟨g3, 10, none⟩ = some (.int .i64 0) := fun t => t.h.1.cell 10
    have z11 : ∀ t : Tw (fun w' => Blk w' g3 87 #[.int .i64 1, .int .u16 0, .int .u16 0, .int .i64 0, .int .i64 12, .int .i64 f1, .bool false, .int .i64 0, .int .i64 0, .int .i64 0, .int .i64 0, .int .u32 0, .int .u32 0, .int .i64 0, .bool false] ∧ Blk w' w.heap.size 81 #[.int .i64 h0, .int .i64 h1, .int .i64 h2, .int .i64 h3, .int .u32 h4, .int .u32 h5]), t.w.cell? ⟨g3, 11, none⟩ = some (.int .u32 0) := fun t => t.h.1.cell 11
    have z12 : ∀ t : Tw (fun w' => Blk w' g3 87 #[.int .i64 1, .int .u16 0, .int .u16 0, .int .i64 0, .int .i64 12, .int .i64 f1, .bool false, .int .i64 0, .int .i64 0, .int .i64 0, .int .i64 0, .int .u32 0, .int .u32 0, .int .i64 0, .bool false] ∧ Blk w' w.heap.size 81 #[.int .i64 h0, .int .i64 h1, .int .i64 h2, .int .i64 h3, .int .u32 h4, .int .u32 h5]), t.w.cell? ⟨g3, 12, none⟩ = some (.int .u32 0) := fun t => t.h.1.cell 12
    have z13 : ∀ t : Tw (fun w' => Blk w' g3 87 #[.int .i64 1, .int .u16 0, .int .u16 0, .int .i64 0, .int .i64 12, .int .i64 f1, .bool false, .int .i64 0, .int .i64 0, .int .i64 0, .int .i64 0, .int .u32 0, .int .u32 0, .int .i64 0, .bool false] ∧ Blk w' w.heap.size 81 #[.int .i64 h0, .int .i64 h1, .int .i64 h2, .int .i64 h3, .int .u32 h4, .int .u32 h5]), t.w.cell? ⟨g3, 13, none⟩ = some (.int .i64 0) := fun t => t.h.1.cell 13
    have z14 : ∀ t : Tw (fun w' => Blk w' g3 87 #[.int .i64 1, .int .u16 0, .int .u16 0, .int .i64 0, .int .i64 12, .int .i64 f1, .bool false, .int .i64 0, .int .i64 0, .int .i64 0, .int .i64 0, .int .u32 0, .int .u32 0, .int .i64 0, .bool false] ∧ Blk w' w.heap.size 81 #[.int .i64 h0, .int .i64 h1, .int .i64 h2, .int .i64 h3, .int .u32 h4, .int .u32 h5]), t.w.cell? ⟨g3, 14, none⟩ = some (.bool false) := fun t => t.h.1.cell 14
    have v0 : ∀ t : Tw (fun w' => Blk w' g3 87 #[.int .i64 1, .int .u16 0, .int .u16 0, .int .i64 0, .int .i64 12, .int .i64 f1, .bool false, .int .i64 0, .int .i64 0, .int .i64 0, .int .i64 0, .int .u32 0, .int .u32 0, .int .i64 0, .bool false] ∧ Blk w' w.heap.size 81 #[.int .i64 h0, .int .i64 h1, .int .i64 h2, .int .i64 h3, .int .u32 h4, .int .u32 h5]), t.w.cell? ⟨w.heap.size, 0, none⟩ = some (.int .i64 h0) := fun t => t.h.2.cell 0
    have v1 : ∀ t : Tw (fun w' => Blk w' g3 87 #[.int .i64 1, .int .u16 0, .int .u16 0, .int .i64 0, .int .i64 12, .int .i64 f1, .bool false, .int .i64 0, .int .i64 0, .int .i64 0, .int .i64 0, .int .u32 0, .int .u32 0, .int .i64 0, .bool false] ∧ Blk w' w.heap.size 81 #[.int .i64 h0, .int .i64 h1, .int .i64 h2, .int .i64 h3, .int .u32 h4, .int .u32 h5]), t.w.cell? ⟨w.heap.size, 1, none⟩ = some (.int .i64 h1) := fun t => t.h.2.cell 1
    have v2 : ∀ t : Tw (fun w' => Blk w' g3 87 #[.int .i64 1, .int .u16 0, .int .u16 0, .int .i64 0, .int .i64 12, .int .i64 f1, .bool false, .int .i64 0, .int .i64 0, .int .i64 0, .int .i64 0, .int .u32 0, .int .u32 0, .int .i64 0, .bool false] ∧ Blk w' w.heap.size 81 #[.int .i64 h0, .int .i64 h1, .int .i64 h2, .int .i64 h3, .int .u32 h4, .int .u32 h5]), t.w.cell? ⟨w.heap.size, 2, none⟩ = some (.int .i64 h2) := fun t => t.h.2.cell 2
    have v3 : ∀ t : Tw (fun w' => Blk w' g3 87 #[.int .i64 1, .int .u16 0, .int .u16 0, .int .i64 0, .int .i64 12, .int .i64 f1, .bool false, .int .i64 0, .int .i64 0, .int .i64 0, .int .i64 0, .int .u32 0, .int .u32 0, .int .i64 0, .bool false] ∧ Blk w' w.heap.size 81 #[.int .i64 h0, .int .i64 h1, .int .i64 h2, .int .i64 h3, .int .u32 h4, .int .u32 h5]), t.w.cell? ⟨w.heap.size, 3, none⟩ = some (.int .i64 h3) := fun t => t.h.2.cell 3
    have v4 : ∀ t : Tw (fun w' => Blk w' g3 87 #[.int .i64 1, .int .u16 0, .int .u16 0, .int .i64 0, .int .i64 12, .int .i64 f1, .bool false, .int .i64 0, .int .i64 0, .int .i64 0, .int .i64 0, .int .u32 0, .int .u32 0, .int .i64 0, .bool false] ∧ Blk w' w.heap.size 81 #[.int .i64 h0, .int .i64 h1, .int .i64 h2, .int .i64 h3, .int .u32 h4, .int .u32 h5]), t.w.cell? ⟨w.heap.size, 4, none⟩ = some (.int .u32 h4) := fun t => t.h.2.cell 4
    have v5 : ∀ t : Tw (fun w' => Blk w' g3 87 #[.int .i64 1, .int .u16 0, .int .u16 0, .int .i64 0, .int .i64 12, .int .i64 f1, .bool false, .int .i64 0, .int .i64 0, .int .i64 0, .int .i64 0, .int .u32 0, .int .u32 0, .int .i64 0, .bool false] ∧ Blk w' w.heap.size 81 #[.int .i64 h0, .int .i64 h1, .int .i64 h2, .int .i64 h3, .int .u32 h4, .int .u32 h5]), t.w.cell? ⟨w.heap.size, 5, none⟩ = some (.int .u32 h5) := fun t => t.h.2.cell 5
    have : Nonempty (Tw (fun w' => Blk w' g3 87 #[.int .i64 1, .int .u16 0, .int .u16 0, .int .i64 0, .int .i64 12, .int .i64 f1, .bool false, .int .i64 0, .int .i64 0, .int .i64 0, .int .i64 0, .int .u32 0, .int .u32 0, .int .i64 0, .bool false] ∧ Blk w' w.heap.size 81 #[.int .i64 h0, .int .i64 h1, .int .i64 h2, .int .i64 h3, .int .u32 h4, .int .u32 h5])) := ⟨⟨_, bp, bh⟩⟩
    refine wp_region_plan (fun w' => Blk w' g3 87 #[.int .i64 1, .int .u16 0, .int .u16 0, .int .i64 0, .int .i64 12, .int .i64 f1, .bool false, .int .i64 0, .int .i64 0, .int .i64 0, .int .i64 0, .int .u32 0, .int .u32 0, .int .i64 0, .bool false] ∧ Blk w' w.heap.size 81 #[.int .i64 h0, .int .i64 h1, .int .i64 h2, .int .i64 h3, .int .u32 h4, .int .u32 h5]) [(0, true), (1, true), (2, true), (3, true), (4, false), (5, true), (6, true), (7, false), (8, true)] (by kernel_rfl) (by kernel_rfl) (by kernel_rfl) (by kernel_rfl) ⟨bp.drew, bh.drew⟩ ?_
    replace bp := bp.drew
    replace bh := bh.drew
    replace bk := bk.drew
    replace bel := bel.drew
    generalize W3.drew = W8 at *
    refine wpPl_qs 4 _ _ _ (by kernel_rfl) (by kernel_rfl) (by simp) ?_
    unfold clsS
    simp only [List.take_succ_cons, List.take_zero, List.drop_succ_cons, List.drop_zero, List.filterMap_cons, List.filterMap_nil, List.getElem?_toArray, List.getElem?_cons_zero, List.getElem?_cons_succ]
    repeat (first
      | go_big_quiet_skip
      | (go_big_quiet_want; go_big_quiet_op; go_big_quiet_on)
      | (refine id (?_ : wpQuiet _ _ _ _ (_ :: _) _); first | go_big_quiet_skip | (go_big_quiet_want; go_big_quiet_op; go_big_quiet_on)))
    refine wpQuiet_nil ?_
    refine wpPl_e _ (by rfl) (by kernel_rfl) (fun K hK => ?_)
    go_simp
    rw [← hA2.out]
    refine (hfa.out _ bel).mono ?_
    rintro e w' ⟨rfl, hb⟩
    replace bp := bp.bel hb
    replace bh := bh.bel hb
    replace bk := bk.bel hb
    replace bel := bel_after bel hb
    clear hb
    refine hK _ _ ⟨bp, bh⟩ ?_
    clear hK K
    refine wpPl_qs 2 _ _ _ (by kernel_rfl) (by kernel_rfl) (by simp) ?_
    unfold clsS
    simp only [List.take_succ_cons, List.take_zero, List.drop_succ_cons, List.drop_zero, List.filterMap_cons, List.filterMap_nil, List.getElem?_toArray, List.getElem?_cons_zero, List.getElem?_cons_succ]
    repeat (first
      | go_big_quiet_skip
      | (go_big_quiet_want; go_big_quiet_op; go_big_quiet_on)
      | (refine id (?_ : wpQuiet _ _ _ _ (_ :: _) _); first | go_big_quiet_skip | (go_big_quiet_want; go_big_quiet_op; go_big_quiet_on)))
    refine wpQuiet_nil ?_
    refine wpPl_e _ (by rfl) (by kernel_rfl) (fun K hK => ?_)
    refine wp_stRow rfl rfl rfl rfl bk pt_size rfl (by simp [Value.oneCell']) ?_
    replace bh := bh.setRow_far (g' := w.heap.size + 1) (by omega) R.2.cells
    replace bp := bp.setRow_far (g' := w.heap.size + 1) (by omega) R.2.cells
    replace bel := below_setRow bel (g := w.heap.size + 1) (by omega) R.2.cells
    replace bk := bk.setRow R.2.cells
    refine hK _ _ ⟨bp, bh⟩ ?_
    clear hK K
    refine wpPl_qs 1 _ _ _ (by kernel_rfl) (by kernel_rfl) (by simp) ?_
    unfold clsS
    simp only [List.take_succ_cons, List.take_zero, List.drop_succ_cons, List.drop_zero, List.filterMap_cons, List.filterMap_nil, List.getElem?_toArray, List.getElem?_cons_zero, List.getElem?_cons_succ]
    repeat (first
      | go_big_quiet_skip
      | (go_big_quiet_want; go_big_quiet_op; go_big_quiet_on)
      | (refine id (?_ : wpQuiet _ _ _ _ (_ :: _) _); first | go_big_quiet_skip | (go_big_quiet_want; go_big_quiet_op; go_big_quiet_on)))
    refine wpQuiet_nil ?_
    unfold wpPl
    refine NoPanic.normal ?_
    go_wp2
    refine bodyPost_ret (results_row2 rfl _ rfl bk Tryz.underlying87 pt_size) rfl ⟨?_, bel⟩
    rw [← hR.out]
    rfl
  · have e1 : (f0 == 0) = false := by simpa using n0
    have e2 : (f0 == 8) = false := by simpa using n8
    have e3 : (f0 == 3) = false := by simpa using n3
    have e4 : (f0 == 11) = false := by simpa using n11
    have e5 : (f0 == 12) = false := by simpa using n12
    go_wp2_with (refine wpList_stRow rfl rfl rfl rfl rfl bk pt_size rfl (by simp [Value.oneCell', Pt.z, Hd.z, portsP]) ?_)
    exact bodyPost_ret (results_row2 rfl _ rfl (bk.setRow _) Tryz.underlying87 pt_size) rfl ⟨rfl, below_setRow bel (by omega) _⟩
end Go.Proofs.YtilhkhnjloplfaaGreatDoor
namespace Go.Proofs.YtilhkhnjloplfaaGreatDoor
set_option linter.unusedVariables false
set_option linter.unusedSimpArgs false
open Go.RowKit
theorem arg_Rd {l : List Int} {b o len c B m n : Nat} {w : World} (hr : Rd .u8 w B (some ⟨b, o, none⟩) len l) (hmn : m ≤ n) (hn : n ≤ len) (hlc : len ≤ c) :
    Rd .u8 w B (if c = m then some ⟨b, o, none⟩ else some ⟨b, o + m, none⟩) (n - m) (seg l m (n - m)) := by
  by_cases h : n - m = 0
  · have e : seg l m (n - m) = [] := by rw [h]; simp [seg]
    rw [e, h]; exact Rd.nil _ _ _ _
  · rw [if_neg (by omega)]
    exact hr.sub m (n - m) (by omega)
set_option maxRecDepth 100000 in
set_option maxHeartbeats 2000000 in
theorem PGet_any (h : Hd) (l : List Int) (A : Option Addr) (len c B : Nat) (w : World) (hr : Rd .u8 w B A len l) (hB : B ≤ w.heap.size) (hlc : len ≤ c) (hcm : c ≤ 9223372036854775807) (hl : len ≤ 60000) (hs : 0 ≤ h.src ∧ h.src ≤ 4294967295) (hd : 0 ≤ h.dst ∧ h.dst ≤ 4294967295) :
    Calls Tryz.prog 38 #[h.val, .slice A len c] w (Tells w (getR h l)) := by
  obtain ⟨R, hR⟩ : ∃ R, R = getR h l := ⟨_, rfl⟩
  rw [← hR]
  unfold getR at hR
  rw [hr.len] at hR
  obtain ⟨h0, h1, h2, h3, h4, h5⟩ := h
  unfold Hd.val Tells
  simp only at hs hd hR ⊢
  by_cases hbad : h0 < 20 ∨ 60 < h0 ∨ h1 < h0 ∨ (len : Int) < h1
  · rw [if_pos hbad] at hR
    subst hR
    by_cases g1 : h0 < 20
    · clear hbad
      go_enter Tryz.func38, Tryz.ntmps38
      go_upto_region 1 with fail
      have bh := (Blk.new w 81 #[.int .i64 h0, .int .i64 h1, .int .i64 h2, .int .i64 h3, .int .u32 h4, .int .u32 h5]).alloc (.cells #[.int .i64 0, .int .u16 0, .int .u16 0, .int .i64 0, .int .i64 0, .int .i64 0, .bool false, .int .i64 0, .int .i64 0, .int .i64 0, .int .i64 0, .int .u32 0, .int .u32 0, .int .i64 0, .bool false] 87)
      have bk := Blk.new (w.alloc (.cells #[.int .i64 h0, .int .i64 h1, .int .i64 h2, .int .i64 h3, .int .u32 h4, .int .u32 h5] 81)) 87 #[.int .i64 0, .int .u16 0, .int .u16 0, .int .i64 0, .int .i64 0, .int .i64 0, .bool false, .int .i64 0, .int .i64 0, .int .i64 0, .int .i64 0, .int .u32 0, .int .u32 0, .int .i64 0, .bool false]
      rw [show (w.alloc (.cells #[.int .i64 h0, .int .i64 h1, .int .i64 h2, .int .i64 h3, .int .u32 h4, .int .u32 h5] 81)).heap.size = w.heap.size + 1 by simp] at bk
      have bel : Below w.heap.size w ((w.alloc (.cells #[.int .i64 h0, .int .i64 h1, .int .i64 h2, .int .i64 h3, .int .u32 h4, .int .u32 h5] 81)).alloc (.cells #[.int .i64 0, .int .u16 0, .int .u16 0, .int .i64 0, .int .i64 0, .int .i64 0, .bool false, .int .i64 0, .int .i64 0, .int .i64 0, .int .i64 0, .int .u32 0, .int .u32 0, .int .i64 0, .bool false] 87)) := (bel_alloc _ _).alloc (by simp) _
      generalize ((w.alloc (.cells #[.int .i64 h0, .int .i64 h1, .int .i64 h2, .int .i64 h3, .int .u32 h4, .int .u32 h5] 81)).alloc (.cells #[.int .i64 0, .int .u16 0, .int .u16 0, .int .i64 0, .int .i64 0, .int .i64 0, .bool false, .int .i64 0, .int .i64 0, .int .i64 0, .int .i64 0, .int .u32 0, .int .u32 0, .int .i64 0, .bool false] 87)) = W at *
      have q0 := bh.cell 0
      have q1 := bh.cell 1
      go_wp2_with (refine wpList_stRow rfl rfl rfl rfl rfl bk pt_size rfl (by simp [Value.oneCell', Pt.z, Hd.z, portsP]) ?_)
      exact bodyPost_ret (results_row2 rfl _ rfl (bk.setRow _) Tryz.underlying87 pt_size) rfl ⟨rfl, below_setRow bel (by omega) _⟩
    by_cases g2 : 60 < h0
    · clear hbad
      go_enter Tryz.func38, Tryz.ntmps38
      go_upto_region 1 with fail
      have bh := (Blk.new w 81 #[.int .i64 h0, .int .i64 h1, .int .i64 h2, .int .i64 h3, .int .u32 h4, .int .u32 h5]).alloc (.cells #[.int .i64 0, .int .u16 0, .int .u16 0, .int .i64 0, .int .i64 0, .int .i64 0, .bool false, .int .i64 0, .int .i64 0, .int .i64 0, .int .i64 0, .int .u32 0, .int .u32 0, .int .i64 0, .bool false] 87)
      have bk := Blk.new (w.alloc (.cells #[.int .i64 h0, .int .i64 h1, .int .i64 h2, .int .i64 h3, .int .u32 h4, .int .u32 h5] 81)) 87 #[.int .i64 0, .int .u16 0, .int .u16 0, .int .i64 0, .int .i64 0, .int .i64 0, .bool false, .int .i64 0, .int .i64 0, .int .i64 0, .int .i64 0, .int .u32 0, .int .u32 0, .int .i64 0, .bool false]
      rw [show (w.alloc (.cells #[.int .i64 h0, .int .i64 h1, .int .i64 h2, .int .i64 h3, .int .u32 h4, .int .u32 h5] 81)).heap.size = w.heap.size + 1 by simp] at bk
      have bel : Below w.heap.size w ((w.alloc (.cells #[.int .i64 h0, .int .i64 h1, .int .i64 h2, .int .i64 h3, .int .u32 h4, .int .u32 h5] 81)).alloc (.cells #[.int .i64 0, .int .u16 0, .int .u16 0, .int .i64 0, .int .i64 0, .int .i64 0, .bool false, .int .i64 0, .int .i64 0, .int .i64 0, .int .i64 0, .int .u32 0, .int .u32 0, .int .i64 0, .bool false] 87)) := (bel_alloc _ _).alloc (by simp) _
      generalize ((w.alloc (.cells #[.int .i64 h0, .int .i64 h1, .int .i64 h2, .int .i64 h3, .int .u32 h4, .int .u32 h5] 81)).alloc (.cells #[.int .i64 0, .int .u16 0, .int .u16 0, .int .i64 0, .int .i64 0, .int .i64 0, .bool false, .int .i64 0, .int .i64 0, .int .i64 0, .int .i64 0, .int .u32 0, .int .u32 0, .int .i64 0, .bool false] 87)) = W at *
      have q0 := bh.cell 0
      have q1 := bh.cell 1
      go_wp2_with (refine wpList_stRow rfl rfl rfl rfl rfl bk pt_size rfl (by simp [Value.oneCell', Pt.z, Hd.z, portsP]) ?_)
      exact bodyPost_ret (results_row2 rfl _ rfl (bk.setRow _) Tryz.underlying87 pt_size) rfl ⟨rfl, below_setRow bel (by omega) _⟩
    by_cases g3 : h1 < h0
    · clear hbad
      go_enter Tryz.func38, Tryz.ntmps38
      go_upto_region 1 with fail
      have bh := (Blk.new w 81 #[.int .i64 h0, .int .i64 h1, .int .i64 h2, .int .i64 h3, .int .u32 h4, .int .u32 h5]).alloc (.cells #[.int .i64 0, .int .u16 0, .int .u16 0, .int .i64 0, .int .i64 0, .int .i64 0, .bool false, .int .i64 0, .int .i64 0, .int .i64 0, .int .i64 0, .int .u32 0, .int .u32 0, .int .i64 0, .bool false] 87)
      have bk := Blk.new (w.alloc (.cells #[.int .i64 h0, .int .i64 h1, .int .i64 h2, .int .i64 h3, .int .u32 h4, .int .u32 h5] 81)) 87 #[.int .i64 0, .int .u16 0, .int .u16 0, .int .i64 0, .int .i64 0, .int .i64 0, .bool false, .int .i64 0, .int .i64 0, .int .i64 0, .int .i64 0, .int .u32 0, .int .u32 0, .int .i64 0, .bool false]
      rw [show (w.alloc (.cells #[.int .i64 h0, .int .i64 h1, .int .i64 h2, .int .i64 h3, .int .u32 h4, .int .u32 h5] 81)).heap.size = w.heap.size + 1 by simp] at bk
      have bel : Below w.heap.size w ((w.alloc (.cells #[.int .i64 h0, .int .i64 h1, .int .i64 h2, .int .i64 h3, .int .u32 h4, .int .u32 h5] 81)).alloc (.cells #[.int .i64 0, .int .u16 0, .int .u16 0, .int .i64 0, .int .i64 0, .int .i64 0, .bool false, .int .i64 0, .int .i64 0, .int .i64 0, .int .i64 0, .int .u32 0, .int .u32 0, .int .i64 0, .bool false] 87)) := (bel_alloc _ _).alloc (by simp) _
      generalize ((w.alloc (.cells #[.int .i64 h0, .int .i64 h1, .int .i64 h2, .int .i64 h3, .int .u32 h4, .int .u32 h5] 81)).alloc (.cells #[.int .i64 0, .int .u16 0, .int .u16 0, .int .i64 0, .int .i64 0, .int .i64 0, .bool false, .int .i64 0, .int .i64 0, .int .i64 0, .int .i64 0, .int .u32 0, .int .u32 0, .int .i64 0, .bool false] 87)) = W at *
      have q0 := bh.cell 0
      have q1 := bh.cell 1
      go_wp2_with (refine wpList_stRow rfl rfl rfl rfl rfl bk pt_size rfl (by simp [Value.oneCell', Pt.z, Hd.z, portsP]) ?_)
      exact bodyPost_ret (results_row2 rfl _ rfl (bk.setRow _) Tryz.underlying87 pt_size) rfl ⟨rfl, below_setRow bel (by omega) _⟩
    have g4 : (len : Int) < h1 := by omega
    clear hbad
    go_enter Tryz.func38, Tryz.ntmps38
    go_upto_region 1 with fail
    have bh := (Blk.new w 81 #[.int .i64 h0, .int .i64 h1, .int .i64 h2, .int .i64 h3, .int .u32 h4, .int .u32 h5]).alloc (.cells #[.int .i64 0, .int .u16 0, .int .u16 0, .int .i64 0, .int .i64 0, .int .i64 0, .bool false, .int .i64 0, .int .i64 0, .int .i64 0, .int .i64 0, .int .u32 0, .int .u32 0, .int .i64 0, .bool false] 87)
    have bk := Blk.new (w.alloc (.cells #[.int .i64 h0, .int .i64 h1, .int .i64 h2, .int .i64 h3, .int .u32 h4, .int .u32 h5] 81)) 87 #[.int .i64 0, .int .u16 0, .int .u16 0, .int .i64 0, .int .i64 0, .int .i64 0, .bool false, .int .i64 0, .int .i64 0, .int .i64 0, .int .i64 0, .int .u32 0, .int .u32 0, .int .i64 0, .bool false]
    rw [show (w.alloc (.cells #[.int .i64 h0, .int .i64 h1, .int .i64 h2, .int .i64 h3, .int .u32 h4, .int .u32 h5] 81)).heap.size = w.heap.size + 1 by simp] at bk
    have bel : Below w.heap.size w ((w.alloc (.cells #[.int .i64 h0, .int .i64 h1, .int .i64 h2, .int .i64 h3, .int .u32 h4, .int .u32 h5] 81)).alloc (.cells #[.int .i64 0, .int .u16 0, .int .u16 0, .int .i64 0, .int .i64 0, .int .i64 0, .bool false, .int .i64 0, .int .i64 0, .int .i64 0, .int .i64 0, .int .u32 0, .int .u32 0, .int .i64 0, .bool false] 87)) := (bel_alloc _ _).alloc (by simp) _
    generalize ((w.alloc (.cells #[.int .i64 h0, .int .i64 h1, .int .i64 h2, .int .i64 h3, .int .u32 h4, .int .u32 h5] 81)).alloc (.cells #[.int .i64 0, .int .u16 0, .int .u16 0, .int .i64 0, .int .i64 0, .int .i64 0, .bool false, .int .i64 0, .int .i64 0, .int .i64 0, .int .i64 0, .int .u32 0, .int .u32 0, .int .i64 0, .bool false] 87)) = W at *
    have q0 := bh.cell 0
    have q1 := bh.cell 1
    go_wp2_with (refine wpList_stRow rfl rfl rfl rfl rfl bk pt_size rfl (by simp [Value.oneCell', Pt.z, Hd.z, portsP]) ?_)
    exact bodyPost_ret (results_row2 rfl _ rfl (bk.setRow _) Tryz.underlying87 pt_size) rfl ⟨rfl, below_setRow bel (by omega) _⟩
  rw [if_neg hbad] at hR
  obtain ⟨m, rfl⟩ : ∃ m : Nat, h0 = (m : Int) := ⟨h0.toNat, by omega⟩
  obtain ⟨n, rfl⟩ : ∃ n : Nat, h1 = (n : Int) := ⟨h1.toNat, by omega⟩
  obtain ⟨b, o, rfl⟩ := hr.form (by omega)
  have hm1 : 20 ≤ m := by omega
  have hm2 : m ≤ 60 := by omega
  have hm3 : m ≤ n := by omega
  have hm4 : n ≤ len := by omega
  rw [Int.toNat_natCast, show ((n : Int) - m).toNat = n - m by omega] at hR
  have hr2 := arg_Rd (hr.more hB) hm3 hm4 hlc
  obtain ⟨A2, hA2⟩ : ∃ A2 : Option Addr, (if c = m then some ⟨b, o, none⟩ else some ⟨b, o + m, none⟩) = A2 := ⟨_, rfl⟩
  rw [hA2] at hr2
  have d1 : decide ((m : Int) < 20) = false := by simp; omega
  have d2 : decide (60 < (m : Int)) = false := by simp; omega
  obtain ⟨L, hL⟩ : ∃ L, L = seg l m (n - m) := ⟨_, rfl⟩
  rw [← hL] at hR hr2
  have hu := fun w' (hb : Below w.heap.size w w') => udp_any ⟨(m : Int), (n : Int), h2, h3, h4, h5⟩ L A2 (n - m) (c - m) _ w' ((hr2.below hb).more hb.size) (Nat.le_refl _) (by omega) (by omega) (by omega) hs hd
  have ht := fun w' (hb : Below w.heap.size w w') => tcp_any ⟨(m : Int), (n : Int), h2, h3, h4, h5⟩ L A2 (n - m) (c - m) _ w' ((hr2.below hb).more hb.size) (Nat.le_refl _) (by omega) (by omega) (by omega) hs hd
  have hi := fun w' (hb : Below w.heap.size w w') => icmp_any ⟨(m : Int), (n : Int), h2, h3, h4, h5⟩ L A2 (n - m) (c - m) _ w' ((hr2.below hb).more hb.size) (Nat.le_refl _) (by omega) (by omega) (by omega) (by simp only; omega)
  simp only [Hd.val, Tells] at hu ht hi
  clear hbad hL hr hr2
  by_cases h17 : h3 = 17
  · rw [if_pos h17] at hR
    rw [← hR] at hu
    subst h17
    clear ht hi hR
    replace hu := Lib.hid hu
    go_enter Tryz.func38, Tryz.ntmps38
    go_upto_region 1 with fail
    have bh := (Blk.new w 81 #[.int .i64 (m : Int), .int .i64 (n : Int), .int .i64 h2, .int .i64 17, .int .u32 h4, .int .u32 h5]).alloc (.cells #[.int .i64 0, .int .u16 0, .int .u16 0, .int .i64 0, .int .i64 0, .int .i64 0, .bool false, .int .i64 0, .int .i64 0, .int .i64 0, .int .i64 0, .int .u32 0, .int .u32 0, .int .i64 0, .bool false] 87)
    have bk := Blk.new (w.alloc (.cells #[.int .i64 (m : Int), .int .i64 (n : Int), .int .i64 h2, .int .i64 17, .int .u32 h4, .int .u32 h5] 81)) 87 #[.int .i64 0, .int .u16 0, .int .u16 0, .int .i64 0, .int .i64 0, .int .i64 0, .bool false, .int .i64 0, .int .i64 0, .int .i64 0, .int .i64 0, .int .u32 0, .int .u32 0, .int .i64 0, .bool false]
    rw [show (w.alloc (.cells #[.int .i64 (m : Int), .int .i64 (n : Int), .int .i64 h2, .int .i64 17, .int .u32 h4, .int .u32 h5] 81)).heap.size = w.heap.size + 1 by simp] at bk
    have bel : Below w.heap.size w ((w.alloc (.cells #[.int .i64 (m : Int), .int .i64 (n : Int), .int .i64 h2, .int .i64 17, .int .u32 h4, .int .u32 h5] 81)).alloc (.cells #[.int .i64 0, .int .u16 0, .int .u16 0, .int .i64 0, .int .i64 0, .int .i64 0, .bool false, .int .i64 0, .int .i64 0, .int .i64 0, .int .i64 0, .int .u32 0, .int .u32 0, .int .i64 0, .bool false] 87)) := (bel_alloc _ _).alloc (by simp) _
    generalize ((w.alloc (.cells #[.int .i64 (m : Int), .int .i64 (n : Int), .int .i64 h2, .int .i64 17, .int .u32 h4, .int .u32 h5] 81)).alloc (.cells #[.int .i64 0, .int .u16 0, .int .u16 0, .int .i64 0, .int .i64 0, .int .i64 0, .bool false, .int .i64 0, .int .i64 0, .int .i64 0, .int .i64 0, .int .u32 0, .int .u32 0, .int .i64 0, .bool false] 87)) = W at *
    have q0 := bh.cell 0
    have q1 := bh.cell 1
    have q3 := bh.cell 3
    go_wp2_with (refine wpList_ldRow rfl rfl rfl bh Tryz.underlying81 hd_size ?_)
    refine (hu.out _ bel).mono ?_
    rintro e w' ⟨rfl, hb⟩
    replace bk := bk.bel hb
    replace bel := bel_after bel hb
    clear hb bh q0 q1 q3
    go_wp2_with (refine wpList_stRow rfl rfl rfl rfl rfl bk pt_size rfl (by simp [Value.oneCell', Pt.z, Hd.z, portsP]) ?_)
    exact bodyPost_ret (results_row2 rfl _ rfl (bk.setRow _) Tryz.underlying87 pt_size) rfl ⟨rfl, below_setRow bel (by omega) _⟩
  rw [if_neg h17] at hR
  clear hu
  by_cases h6 : h3 = 6
  · rw [if_pos h6] at hR
    rw [← hR] at ht
    subst h6
    clear hi hR
    replace ht := Lib.hid ht
    go_enter Tryz.func38, Tryz.ntmps38
    go_upto_region 1 with fail
    have bh := (Blk.new w 81 #[.int .i64 (m : Int), .int .i64 (n : Int), .int .i64 h2, .int .i64 6, .int .u32 h4, .int .u32 h5]).alloc (.cells #[.int .i64 0, .int .u16 0, .int .u16 0, .int .i64 0, .int .i64 0, .int .i64 0, .bool false, .int .i64 0, .int .i64 0, .int .i64 0, .int .i64 0, .int .u32 0, .int .u32 0, .int .i64 0, .bool false] 87)
    have bk := Blk.new (w.alloc (.cells #[.int .i64 (m : Int), .int .i64 (n : Int), .int .i64 h2, .int .i64 6, .int .u32 h4, .int .u32 h5] 81)) 87 #[.int .i64 0, .int .u16 0, .int .u16 0, .int .i64 0, .int .i64 0, .int .i64 0, .bool false, .int .i64 0, .int .i64 0, .int .i64 0, .int .i64 0, .int .u32 0, .int .u32 0, .int .i64 0, .bool false]
    rw [show (w.alloc (.cells #[.int .i64 (m : Int), .int .i64 (n : Int), .int .i64 h2, .int .i64 6, .int .u32 h4, .int .u32 h5] 81)).heap.size = w.heap.size + 1 by simp] at bk
    have bel : Below w.heap.size w ((w.alloc (.cells #[.int .i64 (m : Int), .int .i64 (n : Int), .int .i64 h2, .int .i64 6, .int .u32 h4, .int .u32 h5] 81)).alloc (.cells #[.int .i64 0, .int .u16 0, .int .u16 0, .int .i64 0, .int .i64 0, .int .i64 0, .bool false, .int .i64 0, .int .i64 0, .int .i64 0, .int .i64 0, .int .u32 0, .int .u32 0, .int .i64 0, .bool false] 87)) := (bel_alloc _ _).alloc (by simp) _
    generalize ((w.alloc (.cells #[.int .i64 (m : Int), .int .i64 (n : Int), .int .i64 h2, .int .i64 6, .int .u32 h4, .int .u32 h5] 81)).alloc (.cells #[.int .i64 0, .int .u16 0, .int .u16 0, .int .i64 0, .int .i64 0, .int .i64 0, .bool false, .int .i64 0, .int .i64 0, .int .i64 0, .int .i64 0, .int .u32 0, .int .u32 0, .int .i64 0, .bool false] 87)) = W at *
    have q0 := bh.cell 0
    have q1 := bh.cell 1
    have q3 := bh.cell 3
    go_wp2_with (refine wpList_ldRow rfl rfl rfl bh Tryz.underlying81 hd_size ?_)
    refine (ht.out _ bel).mono ?_
    rintro e w' ⟨rfl, hb⟩
    replace bk := bk.bel hb
    replace bel := bel_after bel hb
    clear hb bh q0 q1 q3
    go_wp2_with (refine wpList_stRow rfl rfl rfl rfl rfl bk pt_size rfl (by simp [Value.oneCell', Pt.z, Hd.z, portsP]) ?_)
    exact bodyPost_ret (results_row2 rfl _ rfl (bk.setRow _) Tryz.underlying87 pt_size) rfl ⟨rfl, below_setRow bel (by omega) _⟩
  rw [if_neg h6] at hR
  clear ht
  by_cases h1 : h3 = 1
  · rw [if_pos h1] at hR
    rw [← hR] at hi
    subst h1
    clear hR
    replace hi := Lib.hid hi
    go_enter Tryz.func38, Tryz.ntmps38
    go_upto_region 1 with fail
    have bh := (Blk.new w 81 #[.int .i64 (m : Int), .int .i64 (n : Int), .int .i64 h2, .int .i64 1, .int .u32 h4, .int .u32 h5]).alloc (.cells #[.int .i64 0, .int .u16 0, .int .u16 0, .int .i64 0, .int .i64 0, .int .i64 0, .bool false, .int .i64 0, .int .i64 0, .int .i64 0, .int .i64 0, .int .u32 0, .int .u32 0, .int .i64 0, .bool false] 87)
    have bk := Blk.new (w.alloc (.cells #[.int .i64 (m : Int), .int .i64 (n : Int), .int .i64 h2, .int .i64 1, .int .u32 h4, .int .u32 h5] 81)) 87 #[.int .i64 0, .int .u16 0, .int .u16 0, .int .i64 0, .int .i64 0, .int .i64 0, .bool false, .int .i64 0, .int .i64 0, .int .i64 0, .int .i64 0, .int .u32 0, .int .u32 0, .int .i64 0, .bool false]
    rw [show (w.alloc (.cells #[.int .i64 (m : Int), .int .i64 (n : Int), .int .i64 h2, .int .i64 1, .int .u32 h4, .int .u32 h5] 81)).heap.size = w.heap.size + 1 by simp] at bk
    have bel : Below w.heap.size w ((w.alloc (.cells #[.int .i64 (m : Int), .int .i64 (n : Int), .int .i64 h2, .int .i64 1, .int .u32 h4, .int .u32 h5] 81)).alloc (.cells #[.int .i64 0, .int .u16 0, .int .u16 0, .int .i64 0, .int .i64 0, .int .i64 0, .bool false, .int .i64 0, .int .i64 0, .int .i64 0, .int .i64 0, .int .u32 0, .int .u32 0, .int .i64 0, .bool false] 87)) := (bel_alloc _ _).alloc (by simp) _
    generalize ((w.alloc (.cells #[.int .i64 (m : Int), .int .i64 (n : Int), .int .i64 h2, .int .i64 1, .int .u32 h4, .int .u32 h5] 81)).alloc (.cells #[.int .i64 0, .int .u16 0, .int .u16 0, .int .i64 0, .int .i64 0, .int .i64 0, .bool false, .int .i64 0, .int .i64 0, .int .i64 0, .int .i64 0, .int .u32 0, .int .u32 0, .int .i64 0, .bool false] 87)) = W at *
    have q0 := bh.cell 0
    have q1 := bh.cell 1
    have q3 := bh.cell 3
    go_wp2_with (refine wpList_ldRow rfl rfl rfl bh Tryz.underlying81 hd_size ?_)
    refine (hi.out _ bel).mono ?_
    rintro e w' ⟨rfl, hb⟩
    replace bk := bk.bel hb
    replace bel := bel_after bel hb
    clear hb bh q0 q1 q3
    go_wp2_with (refine wpList_stRow rfl rfl rfl rfl rfl bk pt_size rfl (by simp [Value.oneCell', Pt.z, Hd.z, portsP]) ?_)
    exact bodyPost_ret (results_row2 rfl _ rfl (bk.setRow _) Tryz.underlying87 pt_size) rfl ⟨rfl, below_setRow bel (by omega) _⟩
  rw [if_neg h1] at hR
  clear hi
  subst hR
  have e1 : (h3 == 17) = false := by simpa using h17
  have e2 : (h3 == 6) = false := by simpa using h6
  have e3 : (h3 == 1) = false := by simpa using h1
  go_enter Tryz.func38, Tryz.ntmps38
  go_upto_region 1 with fail
  have bh := (Blk.new w 81 #[.int .i64 (m : Int), .int .i64 (n : Int), .int .i64 h2, .int .i64 h3, .int .u32 h4, .int .u32 h5]).alloc (.cells #[.int .i64 0, .int .u16 0, .int .u16 0, .int .i64 0, .int .i64 0, .int .i64 0, .bool false, .int .i64 0, .int .i64 0, .int .i64 0, .int .i64 0, .int .u32 0, .int .u32 0, .int .i64 0, .bool false] 87)
  have bk := Blk.new (w.alloc (.cells #[.int .i64 (m : Int), .int .i64 (n : Int), .int .i64 h2, .int .i64 h3, .int .u32 h4, .int .u32 h5] 81)) 87 #[.int .i64 0, .int .u16 0, .int .u16 0, .int .i64 0, .int .i64 0, .int .i64 0, .bool false, .int .i64 0, .int .i64 0, .int .i64 0, .int .i64 0, .int .u32 0, .int .u32 0, .int .i64 0, .bool false]
  rw [show (w.alloc (.cells #[.int .i64 (m : Int), .int .i64 (n : Int), .int .i64 h2, .int .i64 h3, .int .u32 h4, .int .u32 h5] 81)).heap.size = w.heap.size + 1 by simp] at bk
  have bel : Below w.heap.size w ((w.alloc (.cells #[.int .i64 (m : Int), .int .i64 (n : Int), .int .i64 h2, .int .i64 h3, .int .u32 h4, .int .u32 h5] 81)).alloc (.cells #[.int .i64 0, .int .u16 0, .int .u16 0, .int .i64 0, .int .i64 0, .int .i64 0, .bool false, .int .i64 0, .int .i64 0, .int .i64 0, .int .i64 0, .int .u32 0, .int .u32 0, .int .i64 0, .bool false] 87)) := (bel_alloc _ _).alloc (by simp) _
  generalize ((w.alloc (.cells #[.int .i64 (m : Int), .int .i64 (n : Int), .int .i64 h2, .int .i64 h3, .int .u32 h4, .int .u32 h5] 81)).alloc (.cells #[.int .i64 0, .int .u16 0, .int .u16 0, .int .i64 0, .int .i64 0, .int .i64 0, .bool false, .int .i64 0, .int .i64 0, .int .i64 0, .int .i64 0, .int .u32 0, .int .u32 0, .int .i64 0, .bool false] 87)) = W at *
  have q0 := bh.cell 0
  have q1 := bh.cell 1
  have q3 := bh.cell 3
  go_wp2_with (refine wpList_stRow rfl rfl rfl rfl rfl bk pt_size rfl (by simp [Value.oneCell', Pt.z, Hd.z, portsP]) ?_)
  exact bodyPost_ret (results_row2 rfl _ rfl (bk.setRow _) Tryz.underlying87 pt_size) rfl ⟨rfl, below_setRow bel (by omega) _⟩
end Go.Proofs.YtilhkhnjloplfaaGreatDoor
