/- What the laws' proofs lean on: plain facts and contracts of the program's functions, laid together (6). -/
import Derived.Test.YtilhkhnjloplfaaGreatDoorPp02
import Derived.Test.YtilhkhnjloplfaaGreatDoorPp01
namespace Go.Proofs.YtilhkhnjloplfaaGreatDoor
set_option linter.unusedVariables false
set_option linter.unusedSimpArgs false
open Go.RowKit
def PR4 (w : World) (base : Nat) (v : Value) (l : List Int) (n : Int) (i b : Value) (wr : World) : Prop :=
  (i = .int .i64 3 ∧ App w wr base v b l) ∨ (i = .int .i64 2 ∧ App w wr base v b (l ++ [n / 16777216])) ∨ (i = .int .i64 1 ∧ App w wr base v b (l ++ [n / 16777216, n / 65536 % 256])) ∨
  (i = .int .i64 0 ∧ App w wr base v b (l ++ [n / 16777216, n / 65536 % 256, n / 256 % 256])) ∨ (i = .int .i64 (-1) ∧ App w wr base v b (l ++ be4 n))
def PR2 (w : World) (base : Nat) (v : Value) (l : List Int) (n : Int) (i b : Value) (wr : World) : Prop :=
  (i = .int .i64 1 ∧ App w wr base v b l) ∨ (i = .int .i64 0 ∧ App w wr base v b (l ++ [n / 256])) ∨ (i = .int .i64 (-1) ∧ App w wr base v b (l ++ be2 n))
set_option maxHeartbeats 1000000 in
theorem put4_any (n : Int) (v : Value) (l : List Int) (base : Nat) (w : World) (hown : Own .u8 5 w base v l) (hl : l.length ≤ 100000) (hn : 0 ≤ n ∧ n ≤ 4294967295) (hbase : base ≤ w.heap.size) :
    Calls Tryz.prog 54 #[v, .int .u32 n, .int .i64 4] w (Puts w base v (l ++ be4 n)) := by
  obtain ⟨i0, hi, hz0, hz1, hz2⟩ := info_parts info_u8_
  go_enter Tryz.func54, Tryz.ntmps54
  go_wp2
  go_loopw [0, 7] (fun b i wr => PR4 w base v l n i b wr) (fun _ i _ => (intOf i + 1).toNat)
  case atStart => exact .inl ⟨rfl, App.refl hown⟩
  case round =>
    rcases hrel with ⟨rfl, h⟩ | ⟨rfl, h⟩ | ⟨rfl, h⟩ | ⟨rfl, h⟩ | ⟨rfl, h⟩
    · go_wp2_with (at_builtin; have hx := Rd.new .u8 wr 5 [n / 16777216] (by intro y hy; simp at hy; subst hy; exact u8_inr (by omega)) #[.int .u8 (n / 16777216)] rfl 1 rfl; refine wpList_app _ rfl (.tmp 14) (.tmp 20) 76 rfl .u8 base 5 i0 (.int .u8 0) 1 Tryz.underlying76 hi hz0 hz1 hz2 rfl _ (by rfl) _ (h.own.alloc _) (wr.heap.size + 1) _ 1 1 rfl [n / 16777216] hx (by simp; try omega) (by decide) (by have := h.upd.size; simp; omega) ?_; intro v1 w1 own1 hg1 hb1; have h1 := (h.alloc (.cells #[.int .u8 (n / 16777216)] 5)).app own1 hg1 hb1; clear own1 hg1 hb1 hx)
      exact ⟨.inr (.inl ⟨rfl, h1⟩), by simp [intOf]⟩
    · go_wp2_with (at_builtin; have hx := Rd.new .u8 wr 5 [n / 65536 % 256] (by intro y hy; simp at hy; subst hy; exact u8_inr (by omega)) #[.int .u8 (n / 65536 % 256)] rfl 1 rfl; refine wpList_app _ rfl (.tmp 14) (.tmp 20) 76 rfl .u8 base 5 i0 (.int .u8 0) 1 Tryz.underlying76 hi hz0 hz1 hz2 rfl _ (by rfl) _ (h.own.alloc _) (wr.heap.size + 1) _ 1 1 rfl [n / 65536 % 256] hx (by simp; try omega) (by decide) (by have := h.upd.size; simp; omega) ?_; intro v1 w1 own1 hg1 hb1; have h1 := (h.alloc (.cells #[.int .u8 (n / 65536 % 256)] 5)).app own1 hg1 hb1; clear own1 hg1 hb1 hx)
      exact ⟨.inr (.inr (.inl ⟨rfl, by simpa using h1⟩)), by simp [intOf]⟩
    · go_wp2_with (at_builtin; have hx := Rd.new .u8 wr 5 [n / 256 % 256] (by intro y hy; simp at hy; subst hy; exact u8_inr (by omega)) #[.int .u8 (n / 256 % 256)] rfl 1 rfl; refine wpList_app _ rfl (.tmp 14) (.tmp 20) 76 rfl .u8 base 5 i0 (.int .u8 0) 1 Tryz.underlying76 hi hz0 hz1 hz2 rfl _ (by rfl) _ (h.own.alloc _) (wr.heap.size + 1) _ 1 1 rfl [n / 256 % 256] hx (by simp; try omega) (by decide) (by have := h.upd.size; simp; omega) ?_; intro v1 w1 own1 hg1 hb1; have h1 := (h.alloc (.cells #[.int .u8 (n / 256 % 256)] 5)).app own1 hg1 hb1; clear own1 hg1 hb1 hx)
      exact ⟨.inr (.inr (.inr (.inl ⟨rfl, by simpa using h1⟩))), by simp [intOf]⟩
    · go_wp2_with (at_builtin; have hx := Rd.new .u8 wr 5 [n % 256] (by intro y hy; simp at hy; subst hy; exact u8_inr (by omega)) #[.int .u8 (n % 256)] rfl 1 rfl; refine wpList_app _ rfl (.tmp 14) (.tmp 20) 76 rfl .u8 base 5 i0 (.int .u8 0) 1 Tryz.underlying76 hi hz0 hz1 hz2 rfl _ (by rfl) _ (h.own.alloc _) (wr.heap.size + 1) _ 1 1 rfl [n % 256] hx (by simp; try omega) (by decide) (by have := h.upd.size; simp; omega) ?_; intro v1 w1 own1 hg1 hb1; have h1 := (h.alloc (.cells #[.int .u8 (n % 256)] 5)).app own1 hg1 hb1; clear own1 hg1 hb1 hx)
      exact ⟨.inr (.inr (.inr (.inr ⟨rfl, by simpa [be4] using h1⟩))), by simp [intOf]⟩
    · go_wp2
      go_ret
      exact ⟨_, rfl, h⟩
set_option maxHeartbeats 1000000 in
theorem put2_any (n : Int) (v : Value) (l : List Int) (base : Nat) (w : World) (hown : Own .u8 5 w base v l) (hl : l.length ≤ 100000) (hn : 0 ≤ n ∧ n ≤ 65535) (hbase : base ≤ w.heap.size) :
    Calls Tryz.prog 54 #[v, .int .u32 n, .int .i64 2] w (Puts w base v (l ++ be2 n)) := by
  obtain ⟨i0, hi, hz0, hz1, hz2⟩ := info_parts info_u8_
  go_enter Tryz.func54, Tryz.ntmps54
  go_wp2
  go_loopw [0, 7] (fun b i wr => PR2 w base v l n i b wr) (fun _ i _ => (intOf i + 1).toNat)
  case atStart => exact .inl ⟨rfl, App.refl hown⟩
  case round =>
    rcases hrel with ⟨rfl, h⟩ | ⟨rfl, h⟩ | ⟨rfl, h⟩
    · go_wp2_with (at_builtin; have hx := Rd.new .u8 wr 5 [n / 256] (by intro y hy; simp at hy; subst hy; exact u8_inr (by omega)) #[.int .u8 (n / 256)] rfl 1 rfl; refine wpList_app _ rfl (.tmp 14) (.tmp 20) 76 rfl .u8 base 5 i0 (.int .u8 0) 1 Tryz.underlying76 hi hz0 hz1 hz2 rfl _ (by rfl) _ (h.own.alloc _) (wr.heap.size + 1) _ 1 1 rfl [n / 256] hx (by simp; try omega) (by decide) (by have := h.upd.size; simp; omega) ?_; intro v1 w1 own1 hg1 hb1; have h1 := (h.alloc (.cells #[.int .u8 (n / 256)] 5)).app own1 hg1 hb1; clear own1 hg1 hb1 hx)
      exact ⟨.inr (.inl ⟨rfl, h1⟩), by simp [intOf]⟩
    · go_wp2_with (at_builtin; have hx := Rd.new .u8 wr 5 [n % 256] (by intro y hy; simp at hy; subst hy; exact u8_inr (by omega)) #[.int .u8 (n % 256)] rfl 1 rfl; refine wpList_app _ rfl (.tmp 14) (.tmp 20) 76 rfl .u8 base 5 i0 (.int .u8 0) 1 Tryz.underlying76 hi hz0 hz1 hz2 rfl _ (by rfl) _ (h.own.alloc _) (wr.heap.size + 1) _ 1 1 rfl [n % 256] hx (by simp; try omega) (by decide) (by have := h.upd.size; simp; omega) ?_; intro v1 w1 own1 hg1 hb1; have h1 := (h.alloc (.cells #[.int .u8 (n % 256)] 5)).app own1 hg1 hb1; clear own1 hg1 hb1 hx)
      exact ⟨.inr (.inr ⟨rfl, by simpa [be2] using h1⟩), by simp [intOf]⟩
    · go_wp2
      go_ret
      exact ⟨_, rfl, h⟩
def PutRes (w : World) (ttl proto src dst : Int) (l : List Int) (e : Ending) (w' : World) : Prop :=
  ∃ v', e = .returned (.tuple #[v', .int .i64 0]) ∧ Own .u8 5 w' w.heap.size v' (putL ttl proto src dst l) ∧ Below w.heap.size w w'
set_option maxRecDepth 100000 in
set_option maxHeartbeats 2000000 in
theorem Put_any (size len_ ttl proto src dst : Int) (l : List Int) (A : Option Addr) (len c B : Nat) (w : World) (hr : Rd .u8 w B A len l) (hB : B ≤ w.heap.size) (ht : 0 ≤ ttl ∧ ttl ≤ 255) (hp : 0 ≤ proto ∧ proto ≤ 255) (hs : 0 ≤ src ∧ src ≤ 4294967295) (hd : 0 ≤ dst ∧ dst ≤ 4294967295) (hl : len ≤ 1480) :
    Calls Tryz.prog 35 #[.agg #[.int .i64 size, .int .i64 len_, .int .i64 ttl, .int .i64 proto, .int .u32 src, .int .u32 dst], .slice A len c] w (PutRes w ttl proto src dst l) := by
  obtain ⟨i0, hi, hz0, hz1, hz2⟩ := info_parts info_u8_
  have d1 : decide (ttl < 0) = false := by simp; omega
  have d2 : decide (255 < ttl) = false := by simp; omega
  have d3 : decide (proto < 0) = false := by simp; omega
  have d4 : decide (255 < proto) = false := by simp; omega
  have d5 : decide (1480 < (len : Int)) = false := by simp; omega
  have hlen := Lib.hid hr.len
  have hrB := hr.more hB
  go_enter Tryz.func35, Tryz.ntmps35
  go_wp2_with fail
  have own0 : Own .u8 5 ((w.alloc (.cells #[.int .i64 size, .int .i64 len_, .int .i64 ttl, .int .i64 proto, .int .u32 src, .int .u32 dst] 81)).alloc (.cells #[.int .u8 69, .int .u8 0] 5)) w.heap.size (.slice (some ⟨w.heap.size + 1, 0, none⟩) 2 2) [69, 0] := by
    have := Own.new .u8 (w.alloc (.cells #[.int .i64 size, .int .i64 len_, .int .i64 ttl, .int .i64 proto, .int .u32 src, .int .u32 dst] 81)) 5 w.heap.size (by simp) [69, 0] (by intro x hx; simp at hx; rcases hx with rfl | rfl <;> exact u8_inr (by omega)) #[.int .u8 69, .int .u8 0] rfl 2 rfl (by decide)
    simpa using this
  have blk0 := (Blk.new w 81 #[.int .i64 size, .int .i64 len_, .int .i64 ttl, .int .i64 proto, .int .u32 src, .int .u32 dst]).alloc (.cells #[.int .u8 69, .int .u8 0] 5)
  have bel0 : Below w.heap.size w ((w.alloc (.cells #[.int .i64 size, .int .i64 len_, .int .i64 ttl, .int .i64 proto, .int .u32 src, .int .u32 dst] 81)).alloc (.cells #[.int .u8 69, .int .u8 0] 5)) := ((Below.refl _ _).alloc (Nat.le_refl _) _).alloc (by simp) _
  refine (put2_any (20 + len) _ [69, 0] w.heap.size _ own0 (by simp) (by omega) (by simp; omega)).mono ?_
  rintro e w1 ⟨v1, rfl, a1⟩
  replace a1 := (App.refl own0).trans a1
  generalize hW0 : (w.alloc (.cells #[.int .i64 size, .int .i64 len_, .int .i64 ttl, .int .i64 proto, .int .u32 src, .int .u32 dst] 81)).alloc (.cells #[.int .u8 69, .int .u8 0] 5) = W0 at *
  have bs : w.heap.size ≤ W0.heap.size := by rw [← hW0]; simp; omega
  replace hW0 := Lib.hid hW0
  go_wp2_with fail
  refine (put2_any 0 v1 _ w.heap.size _ a1.own (by simp [be2]) (by omega) (by have := a1.upd.size; omega)).mono ?_
  rintro e w2 ⟨v2, rfl, a2⟩
  replace a2 := a1.trans a2
  go_wp2_with fail
  refine (put2_any 16384 v2 _ w.heap.size _ a2.own (by simp [be2]) (by omega) (by have := a2.upd.size; omega)).mono ?_
  rintro e w3 ⟨v3, rfl, a3⟩
  replace a3 := a2.trans a3
  have nb := own0.notBlk blk0 (by decide)
  have hb3 := a3.keep nb blk0
  have c2 := hb3.cell 2
  have c3 := hb3.cell 3
  have bz3 := a3.upd.size
  clear a1 a2
  go_wp2_with (at_builtin; go_loud (have hx := Rd.new .u8 w3 5 [ttl, proto] (by intro y hy; simp at hy; rcases hy with rfl | rfl <;> exact u8_inr (by omega)) #[.int .u8 ttl, .int .u8 proto] rfl 2 rfl; refine wpList_app _ rfl (.tmp 40) (.tmp 47) 76 rfl .u8 w.heap.size 5 i0 (.int .u8 0) 1 Tryz.underlying76 hi hz0 hz1 hz2 rfl _ (by rfl) _ (a3.own.alloc _) (w3.heap.size + 1) _ 2 2 rfl [ttl, proto] hx (by simp [be2]) (by decide) (by simp; omega) ?_; intro v4 w4 own4 hg4 hb4; have a4 := (a3.alloc (.cells #[.int .u8 ttl, .int .u8 proto] 5)).app own4 hg4 hb4; clear own4 hg4 hb4 hx))
  refine (put2_any 0 v4 _ w.heap.size _ a4.own (by simp [be2]) (by omega) (by have := a4.upd.size; omega)).mono ?_
  rintro e w5 ⟨v5, rfl, a5⟩
  replace a5 := a4.trans a5
  have hb5 := a5.keep nb blk0
  have c4 := hb5.cell 4
  have c5 := hb5.cell 5
  have bz5 := a5.upd.size
  clear a4 a3 hb3 c2 c3 bz3
  have c4' : w5.cell? ⟨w.heap.size, 4, none⟩ = some (.int .u32 src) := c4
  have c5' : w5.cell? ⟨w.heap.size, 5, none⟩ = some (.int .u32 dst) := c5
  clear c4 c5
  go_wp2_with fail
  have S0 : w5.drew.cell? ⟨w.heap.size, 4, none⟩ = some (.int .u32 src) ∧ w5.drew.cell? ⟨w.heap.size, 5, none⟩ = some (.int .u32 dst) := ⟨c4', c5'⟩
  have F4 : ∀ t : Tw (fun w' => w'.cell? ⟨w.heap.size, 4, none⟩ = some (.int .u32 src) ∧ w'.cell? ⟨w.heap.size, 5, none⟩ = some (.int .u32 dst)), t.w.cell? ⟨w.heap.size, 4, none⟩ = some (.int .u32 src) := fun t => t.h.1
  have F5 : ∀ t : Tw (fun w' => w'.cell? ⟨w.heap.size, 4, none⟩ = some (.int .u32 src) ∧ w'.cell? ⟨w.heap.size, 5, none⟩ = some (.int .u32 dst)), t.w.cell? ⟨w.heap.size, 5, none⟩ = some (.int .u32 dst) := fun t => t.h.2
  have : Nonempty (Tw (fun w' => w'.cell? ⟨w.heap.size, 4, none⟩ = some (.int .u32 src) ∧ w'.cell? ⟨w.heap.size, 5, none⟩ = some (.int .u32 dst))) := ⟨⟨_, S0⟩⟩
  refine wp_region_plan (fun w' => w'.cell? ⟨w.heap.size, 4, none⟩ = some (.int .u32 src) ∧ w'.cell? ⟨w.heap.size, 5, none⟩ = some (.int .u32 dst)) [(0, true), (1, true), (2, true), (4, true), (5, true), (3, false), (6, false), (7, true)] (by kernel_rfl) (by kernel_rfl) (by kernel_rfl) (by kernel_rfl) S0 ?_
  refine wpPl_qs 5 _ _ _ (by kernel_rfl) (by kernel_rfl) (by simp) ?_
  unfold clsS
  simp only [List.take_succ_cons, List.take_zero, List.drop_succ_cons, List.drop_zero, List.filterMap_cons, List.filterMap_nil, List.getElem?_toArray, List.getElem?_cons_zero, List.getElem?_cons_succ]
  repeat (first
    | go_big_quiet_skip
    | (go_big_quiet_want; go_big_quiet_op; go_big_quiet_on)
    | (refine id (?_ : wpQuiet _ _ _ _ (_ :: _) _); first | go_big_quiet_skip | (go_big_quiet_want; go_big_quiet_op; go_big_quiet_on)))
  refine wpQuiet_nil ?_
  refine wpPl_e _ (by rfl) (by kernel_rfl) (fun K hK => ?_)
  go_simp
  refine (put4_any src v5 _ w.heap.size _ a5.own.drew (by simp [be2]) (by omega) (by simp; omega)).mono ?_
  rintro e w6 ⟨v6, rfl, a6⟩
  replace a6 := a5.drew.trans a6
  have hb6 := a6.keep nb blk0
  refine hK _ _ ⟨hb6.cell 4, hb6.cell 5⟩ ?_
  clear hK K hb6
  refine wpPl_e _ (by rfl) (by kernel_rfl) (fun K hK => ?_)
  go_simp
  refine (put4_any dst v6 _ w.heap.size _ a6.own (by simp [be2, be4]) (by omega) (by have := a6.upd.size; omega)).mono ?_
  rintro e w7 ⟨v7, rfl, a7⟩
  replace a7 := a6.trans a7
  have hb7 := a7.keep nb blk0
  refine hK _ _ ⟨hb7.cell 4, hb7.cell 5⟩ ?_
  clear hK K hb7 hb5 a5 a6 c4' c5' S0 F4 F5 this
  refine wpPl_qs 1 _ _ _ (by kernel_rfl) (by kernel_rfl) (by simp) ?_
  unfold clsS
  simp only [List.take_succ_cons, List.take_zero, List.drop_succ_cons, List.drop_zero, List.filterMap_cons, List.filterMap_nil, List.getElem?_toArray, List.getElem?_cons_zero, List.getElem?_cons_succ]
  repeat (first
    | go_big_quiet_skip
    | (go_big_quiet_want; go_big_quiet_op; go_big_quiet_on)
    | (refine id (?_ : wpQuiet _ _ _ _ (_ :: _) _); first | go_big_quiet_skip | (go_big_quiet_want; go_big_quiet_op; go_big_quiet_on)))
  refine wpQuiet_nil ?_
  have eL : ((((([69, 0] ++ be2 (20 + (len : Int))) ++ be2 0 ++ be2 16384) ++ [ttl, proto]) ++ be2 0) ++ be4 src) ++ be4 dst = hd20 ttl proto src dst (20 + len) 0 := by simp [be2, be4, hd20]
  obtain ⟨L, hL⟩ : ∃ L, L = hd20 ttl proto src dst (20 + len) 0 := ⟨_, rfl⟩
  have own7 := a7.own
  rw [eL, ← hL] at own7
  have hL20 : L.length = 20 := by rw [hL]; rfl
  have bel7 := a7.upd
  obtain ⟨g, c7, rfl, hc1, hc2, hg1, hg2⟩ := own7.formG hL20 (by omega)
  have rd7 := own7.rd hL20
  have hS0 := (sb_bd L (fun y hy => inr_u8 (own7.rng y hy)) true).1
  have hSb : 0 ≤ sumOf L ∧ sumOf L ≤ 65535 := by have := fo_bd hS0; unfold sumOf; omega
  obtain ⟨S, hS⟩ : ∃ S, S = sumOf L := ⟨_, rfl⟩
  rw [← hS] at hSb
  have hof := fun W' B' h => Of_any L (some ⟨g, 0, none⟩) 20 c7 B' W' (by omega) h
  rw [← hS] at hof
  replace hof := Lib.hid hof
  replace hS := Lib.hid hS
  replace hL := Lib.hid hL
  replace hL20 := Lib.hid hL20
  replace eL := Lib.hid eL
  unfold wpPl
  refine NoPanic.normal ?_
  obtain ⟨c10, f10, _⟩ := own7.at_ hL20.out (j := 10) (by omega)
  obtain ⟨c11, f11, _⟩ := own7.at_ hL20.out (j := 11) (by omega)
  have hgw : w.heap.size ≤ g := hg1
  have hSw : IntKind.u8.wrap S = S % 256 := IntKind.wrap_u8' S
  have own8 := (own7.set hL20.out 10 (x := S / 256) (u8_inr (by omega))).set (by rw [List.length_set]; exact hL20.out) 11 (x := S % 256) (u8_inr (by omega))
  have bel8 : Below w.heap.size w w7 := bel0.trans (a7.below bs (fun k hk => by simp [Value.ownBlock] at hk; omega))
  have hl8 : Hid (((L.set 10 (S / 256)).set 11 (S % 256)).length = 20) := by show _ = _; simp [hL20.out]
  have rd8 := hrB.below ((bel8.setCell (p := ⟨g, 10, none⟩) hgw (.int .u8 (S / 256))).setCell (p := ⟨g, 11, none⟩) hgw (.int .u8 (S % 256)))
  have bz8 : w.heap.size ≤ w7.heap.size := bel8.size
  go_wp2_with (first | (go_at_call 55; refine (hof.out _ _ rd7).mono ?_; rintro e w' ⟨rfl, rfl⟩) | (at_builtin; go_loud (refine wpList_app _ rfl (.tmp 68) (.tmp 69) 76 rfl .u8 w.heap.size 5 i0 (.int .u8 0) 1 Tryz.underlying76 hi hz0 hz1 hz2 rfl _ (by rfl) _ own8 w.heap.size _ _ _ (by rfl) l rd8 (by rw [hl8.out]; omega) (by decide) (by simp; omega) ?_; intro v9 w9 own9 hg9 hb9)))
  go_ret2
  refine ⟨v9, rfl, ?_, ?_⟩
  · have e : (L.set 10 (S / 256)).set 11 (S % 256) ++ l = putL ttl proto src dst l := by
      unfold putL
      rw [hlen.out, ← hL.out, ← hS.out, hL.out]; rfl
    rw [← e]; exact own9
  · exact ((bel8.setCell (p := ⟨g, 10, none⟩) hgw (.int .u8 (S / 256))).setCell (p := ⟨g, 11, none⟩) hgw (.int .u8 (S % 256))).grown hg9 (by simp; omega) (fun k h => by simp [Value.ownBlock] at h; omega)
end Go.Proofs.YtilhkhnjloplfaaGreatDoor
