/- What the laws' proofs lean on: plain facts and contracts of the program's functions, laid together (1). -/
import Derived.WalkKit
import Derived.Lib.Hide
import Derived.Test.YtbckoohljkmahaaGreatPa01
import Derived.Laws.OwnMore
import Derived.Deep.AppendLies
import Derived.Deep.Draws
import Derived.Maps.AppendAt
import Derived.Laws.MakeOwn
import Derived.Laws.Rows
import Derived.Deep.QuietTactic
import Derived.BigQuiet
import Derived.Deep.RegionWith
import Derived.Deep.DeepMust
import Derived.Deep.WholeRow
import Derived.Test.YtbckoohljkmahaaGreatProg
import Derived.RegionTactic
import Derived.Deep.DeepCutAuto
import Derived.Deep.CutBlock
import Derived.Test.YtbckoohljkmahaaGreatRows
import Derived.StillTailTactics
import Derived.Test.YtbckoohljkmahaaGreatPa02
import Derived.Deep.RegionHeld3
import Derived.Test.YtbckoohljkmahaaGreatPa03
import Derived.Test.YtbckoohljkmahaaGreatPa04
import Derived.Test.YtbckoohljkmahaaGreatPa05
import Derived.Test.YtbckoohljkmahaaGreatPa06
import Derived.ProofKit
import Derived.OpenShut
import Derived.ShutString
import Derived.ChangeOld
import Derived.Deep.Slices
import Derived.Test.YtbckoohljkmahaaGreatPa07
import Derived.Maps.OwnOps
import Derived.Maps.OwnSet
import Derived.Maps.Views
import Derived.DeepKeys5
import Derived.Test.YtbckoohljkmahaaGreatPa08
import Derived.Test.YtbckoohljkmahaaGreatPa09
import Derived.Test.YtbckoohljkmahaaGreatPa10
import Derived.Test.YtbckoohljkmahaaGreatPa11
import Derived.Test.YtbckoohljkmahaaGreatPa12
import Derived.Test.YtbckoohljkmahaaGreatPa13
import Derived.Test.YtbckoohljkmahaaGreatPa14
import Derived.Lib.LazyBuf
import Derived.Test.YtbckoohljkmahaaGreatPa15
import Derived.Test.YtbckoohljkmahaaGreatPa16
import Derived.Shelf.SlMaps.Clone
namespace Go.Proofs.YtbckoohljkmahaaGreat
set_option linter.unusedVariables false
set_option linter.unusedSimpArgs false
open Go.RowKit
/-! ### as the walk tells it -/
end Go.Proofs.YtbckoohljkmahaaGreat
namespace Go.Proofs.YtbckoohljkmahaaGreat
set_option linter.unusedVariables false
set_option linter.unusedSimpArgs false
open Go.RowKit
section
variable {s d a b : Int} {l : List Int} (hs : 0 ≤ s ∧ s ≤ 4294967295) (hd : 0 ≤ d ∧ d ≤ 4294967295) (ha : 0 ≤ a ∧ a ≤ 65535) (hb : 0 ≤ b ∧ b ≤ 65535) (hl : Bytes8 l)
include hs hd ha hb hl
end
section
variable {k a c : Int} {l : List Int} (hl : Bytes8 l)
include hl
end
end Go.Proofs.YtbckoohljkmahaaGreat
namespace Go.Proofs.YtbckoohljkmahaaGreat
set_option linter.unusedVariables false
set_option linter.unusedSimpArgs false
open Go.RowKit
/-! ### heads -/
end Go.Proofs.YtbckoohljkmahaaGreat
namespace Go.Proofs.YtbckoohljkmahaaGreat
set_option linter.unusedVariables false
set_option linter.unusedSimpArgs false
open Go.RowKit
section
variable (out : Bool) (l : List Int) (A : Option Addr) (len c B : Nat) (addr port : Int) (w : World) (hr : Rd .u8 w B A len l) (hB : B ≤ w.heap.size) (hlc : len ≤ c) (hcm : c ≤ 9223372036854775807) (hl : len ≤ 60000)
include hr hB hlc hcm hl
end
section
variable (out : Bool) (l : List Int) (A : Option Addr) (len c B : Nat) (addr port : Int) (w : World) (hr : Rd .u8 w B A len l) (hB : B ≤ w.heap.size) (hlc : len ≤ c) (hcm : c ≤ 9223372036854775807) (hl : len ≤ 60000)
  (sz m : Nat) (h2 h3 h4 h5 : Int) (ha : 0 ≤ addr ∧ addr ≤ 4294967295) (hport : 0 ≤ port ∧ port ≤ 65535) (Y : List Int)
include hr hB hlc hcm hl
end
end Go.Proofs.YtbckoohljkmahaaGreat
namespace Go.Proofs.YtbckoohljkmahaaGreat
set_option linter.unusedVariables false
set_option linter.unusedSimpArgs false
open Go.RowKit
section
variable (out : Bool) (l : List Int) (A : Option Addr) (len c B : Nat) (addr port : Int) (w : World) (hr : Rd .u8 w B A len l) (hB : B ≤ w.heap.size) (hlc : len ≤ c) (hcm : c ≤ 9223372036854775807) (hl : len ≤ 60000) (ha : 0 ≤ addr ∧ addr ≤ 4294967295) (hport : 0 ≤ port ∧ port ≤ 65535)
include hr hB hlc hcm hl ha hport
end
section
variable (l : List Int) (A : Option Addr) (len c B : Nat) (addr port : Int) (w : World) (hr : Rd .u8 w B A len l) (hB : B ≤ w.heap.size) (hlc : len ≤ c) (hcm : c ≤ 9223372036854775807) (hl : len ≤ 60000) (ha : 0 ≤ addr ∧ addr ≤ 4294967295) (hport : 0 ≤ port ∧ port ≤ 65535)
include hr hB hlc hcm hl ha hport
end
end Go.Proofs.YtbckoohljkmahaaGreat
namespace Go.Proofs.YtbckoohljkmahaaGreat
set_option linter.unusedVariables false
set_option linter.unusedSimpArgs false
open Go.RowKit
section
variable {s d a b f : Int} {l : List Int} {h : Hd} (hs : 0 ≤ s ∧ s ≤ 4294967295) (hd : 0 ≤ d ∧ d ≤ 4294967295) (ha : 0 ≤ a ∧ a ≤ 65535) (hb : 0 ≤ b ∧ b ≤ 65535) (hl : Bytes8 l) (h1 : h.src = s) (h2 : h.dst = d)
include hs hd ha hb hl h1 h2
end
end Go.Proofs.YtbckoohljkmahaaGreat
namespace Go.Proofs.YtbckoohljkmahaaGreat
set_option linter.unusedVariables false
set_option linter.unusedSimpArgs false
open Go.RowKit
section
variable {k : Nat} {s d a b f : Int} {l : List Int} (hs : 0 ≤ s ∧ s ≤ 4294967295) (hd : 0 ≤ d ∧ d ≤ 4294967295) (ha : 0 ≤ a ∧ a ≤ 65535) (hb : 0 ≤ b ∧ b ≤ 65535) (hl : Bytes8 l) (hn : l.length ≤ 40)
include hn in
include hs hd hn in
include hs hd ha hb hl hn
end
section
variable {s d a b f : Int} {l : List Int} (hs : 0 ≤ s ∧ s ≤ 4294967295) (hd : 0 ≤ d ∧ d ≤ 4294967295) (ha : 0 ≤ a ∧ a ≤ 65535) (hb : 0 ≤ b ∧ b ≤ 65535) (hl : Bytes8 l) (hn : l.length ≤ 40)
include hs hd ha hb hl hn
end
end Go.Proofs.YtbckoohljkmahaaGreat
namespace Go.Proofs.YtbckoohljkmahaaGreat
set_option linter.unusedVariables false
set_option linter.unusedSimpArgs false
open Go.RowKit Go.Maps
def expP (c : Cf) (L : List Bd) (pr po ti : Int) : List Bd × Bool :=
  if ti < 0 ∨ 4294967295 < ti then (L, false) else
  match atB c (placeP c pr po) L with
  | none => (L, false)
  | some b => if ti < b.se + lifeS pr b.tr then (L, false) else (cutB c (placeP c pr po) L, true)
def ExpR (w : World) (c : Cf) (gn pb fm np nf : Nat) (R : List Bd × Bool) (e : Ending) (w' : World) : Prop :=
  e = .returned (.bool R.2) ∧ NatM w' c gn pb fm np nf R.1 ∧ Upd (fun k => k = pb ∨ k = fm) w w'
section
variable {P : Program} {ops : Array Oper} {Q : Exit → Act → World → Prop} {a : Act} {w : World} {rest : List Oper} {o : Oper} {K : Act → World → Prop}
theorem wpList_delE (hd : o.dst = none) (hg : o.guard = none) {t k : TypeId} {m x : Operand} (ho : o.op = .call { callee := .builtin .delete, args := #[m, x], argTypes := #[t, k] }) {mv xv : Value} (hm : a.eval m = mv) (hx : a.eval x = xv) {R : World → Prop} (hr : ∀ ty, ∃ w', (Builtin.delete_ #[t, k] ty #[mv, xv]).run P w = .ok (.tuple #[]) w' ∧ R w') (h : ∀ w', R w' → wpList P ops Q rest a w') : wpList P ops Q (o :: rest) a w := by
  obtain ⟨w', h1, h2⟩ := hr o.type
  refine wpList_del hg ho hm hx h1 ?_
  rw [hd]
  exact h w' h2
theorem wp_delN (hd : o.dst = none) {t k : TypeId} {m x : Operand} (ho : o.op = .call { callee := .builtin .delete, args := #[m, x], argTypes := #[t, k] }) {mv xv : Value} (hm : a.eval m = mv) (hx : a.eval x = xv) {R : World → Prop} (hr : ∀ ty, ∃ w', (Builtin.delete_ #[t, k] ty #[mv, xv]).run P w = .ok (.tuple #[]) w' ∧ R w') (h : ∀ w', R w' → K a w') : o.wp P a w K Q := by
  obtain ⟨w', h1, h2⟩ := hr o.type
  refine wp_del ho hm hx h1 ?_
  rw [hd]
  exact h w' h2
end
theorem lifeS_bd (p st : Int) : 0 ≤ lifeS p st ∧ lifeS p st ≤ 7440 := by
  unfold lifeS
  repeat' split
  all_goals omega
set_option maxRecDepth 100000 in
set_option maxHeartbeats 4000000 in
theorem Expire_bad (c : Cf) (gn pb fm np nf : Nat) (L : List Bd) (pr po ti : Int) (w : World) (hm : NatM w c gn pb fm np nf L) (ht : ti < 0 ∨ 4294967295 < ti) :
    Calls Tryz.prog 27 #[.pointer (some ⟨gn, 0, none⟩), .int .i64 pr, .int .i64 po, .int .i64 ti] w (ExpR w c gn pb fm np nf (L, false)) := by
  rcases Int.lt_or_le ti 0 with h1 | h1
  · have d1 : decide (ti < 0) = true := by simpa using h1
    clear ht
    go_enter Tryz.func27, Tryz.ntmps27
    go_wp2_with fail
    go_ret
    exact ⟨rfl, hm, Upd.refl _ _⟩
  · have d1 : decide (ti < 0) = false := by simpa using h1
    have d2 : decide (4294967295 < ti) = true := by simp; omega
    clear ht
    go_enter Tryz.func27, Tryz.ntmps27
    go_wp2_with fail
    go_ret
    exact ⟨rfl, hm, Upd.refl _ _⟩
set_option maxRecDepth 100000 in
set_option maxHeartbeats 4000000 in
theorem Expire_none (c : Cf) (gn pb fm np nf : Nat) (L : List Bd) (pr po ti : Int) (w : World) (hm : NatM w c gn pb fm np nf L) (hc : c.ok) (ht : 0 ≤ ti ∧ ti ≤ 4294967295) (hat : atB c (placeP c pr po) L = none) :
    Calls Tryz.prog 27 #[.pointer (some ⟨gn, 0, none⟩), .int .i64 pr, .int .i64 po, .int .i64 ti] w (ExpR w c gn pb fm np nf (L, false)) := by
  obtain ⟨PL, hPL⟩ : ∃ PL, placeP c pr po = PL := ⟨_, rfl⟩
  have kp := fun W => Place_ok c pr po W hc
  have hkr := placeP_rng hc pr po
  rw [hPL] at kp hkr hat
  replace hPL := Lib.hid hPL
  replace kp := Lib.hid kp
  replace hat := Lib.hid hat
  have d1 : decide (ti < 0) = false := by simp; omega
  have d2 : decide (4294967295 < ti) = false := by simp; omega
  go_enter Tryz.func27, Tryz.ntmps27
  have z1 : ∀ j u, ([.int .i64 c.wk, .int .u32 c.ou, .int .i64 c.lo, .int .i64 c.hi, .int .i64 c.bk, .int .i64 c.rg] : List Value)[j]? = some u → w.cell? ⟨gn, 0 + j, none⟩ = some u := fun j u hu => by
    rw [Nat.zero_add, hm.obj.cell]
    match j with
    | 0 | 1 | 2 | 3 | 4 | 5 => exact hu
    | j + 6 => simp at hu
  go_wp2_with (refine wpList_ldAt rfl rfl rfl z1 Tryz.underlying36 cf_size ?_; clear z1)
  refine (kp.out _).mono ?_
  rintro e W1 ⟨rfl, hb1⟩
  have hm1 := hm.bel_ hb1
  have hu1 := Upd.of_below hb1 (fun k => k = pb ∨ k = fm)
  clear hb1 kp
  have hlook := hm1.pl.look hkr
  have q6 := hm1.obj.cell 6
  rw [hat.out] at hlook
  simp only [lookB] at hlook
  have hb2 := below_setRow (bel_alloc W1 (.cells #[.int .i64 0, .int .u32 0, .int .u16 0, .int .i64 0, .int .i64 0, .int .i64 0] 63)) (Nat.le_refl _) #[.int .i64 0, .int .u32 0, .int .u16 0, .int .i64 0, .int .i64 0, .int .i64 0]
  have hm2 := hm1.bel_ hb2
  have hu2 := hu1.trans (Upd.of_below hb2 _)
  go_upto_region 5 with (first
    | (refine wpList_look rfl rfl rfl rfl hlook ?_)
    | (refine wpList_stRow rfl rfl rfl rfl rfl (Blk.new W1 _ _) bd_size rfl (by simp [Value.oneCell']) ?_; generalize (W1.alloc (.cells #[.int .i64 0, .int .u32 0, .int .u16 0, .int .i64 0, .int .i64 0, .int .i64 0] 63)).setRow W1.heap.size #[.int .i64 0, .int .u32 0, .int .u16 0, .int .i64 0, .int .i64 0, .int .i64 0] = W2 at *; generalize W1.heap.size = gb at *))
  clear hlook q6 hm1 hu1 hb2
  have : Nonempty (Tw (fun W' => Below W2.heap.size W2 W')) := ⟨⟨W2, Below.refl _ _⟩⟩
  refine region_tw (fun w' => Below (W2).heap.size (W2) w') (by kernel_rfl) (by kernel_rfl) (Below.refl _ _).drew ?_
  unfold clsS
  repeat (first
    | go_big_quiet_skip
    | (go_big_quiet_want; go_big_quiet_op; first | go_big_quiet_on | go_big_quiet_call (
      (first 
      | fail))))
  refine wpQuiet_nil ?_
  intro tq
  replace hu2 := hu2.trans (Upd.of_below tq.h _)
  replace hm2 := hm2.bel_ tq.h
  generalize hW : tq.w = W3 at *
  clear hW
  go_wp2_with fail
  go_ret
  exact ⟨rfl, hm2, hu2⟩
set_option maxRecDepth 100000 in
set_option maxHeartbeats 4000000 in
theorem Expire_stay (c : Cf) (gn pb fm np nf : Nat) (L : List Bd) (b : Bd) (pr po ti : Int) (w : World) (hm : NatM w c gn pb fm np nf L) (hc : c.ok) (ht : 0 ≤ ti ∧ ti ≤ 4294967295) (hat : atB c (placeP c pr po) L = some b) (hle : ti < b.se + lifeS pr b.tr) :
    Calls Tryz.prog 27 #[.pointer (some ⟨gn, 0, none⟩), .int .i64 pr, .int .i64 po, .int .i64 ti] w (ExpR w c gn pb fm np nf (L, false)) := by
  obtain ⟨hbm, hbk⟩ := atB_some hat
  have hbo := hm.inv.ok b hbm
  have hbr := hbo.rng
  have hse := hbo.se
  have hlf := lifeS_bd pr b.tr
  have kl := fun W => Life_any pr b.tr W
  have hcut := plOf_cut hm.inv hbm
  have hinv := hm.inv.cut (keyB c b)
  rw [hbk] at hcut hinv
  generalize lifeS pr b.tr = LF at *
  replace hbr := Lib.hid hbr
  replace kl := Lib.hid kl
  replace hcut := Lib.hid hcut
  replace hinv := Lib.hid hinv
  clear hbm hbk hbo
  obtain ⟨⟨b0, b1, b2⟩, b3, b4, b5⟩ := b
  simp only at hle hse
  obtain ⟨PL, hPL⟩ : ∃ PL, placeP c pr po = PL := ⟨_, rfl⟩
  have kp := fun W => Place_ok c pr po W hc
  have hkr := placeP_rng hc pr po
  rw [hPL] at kp hkr hat
  replace hPL := Lib.hid hPL
  replace kp := Lib.hid kp
  replace hat := Lib.hid hat
  have d1 : decide (ti < 0) = false := by simp; omega
  have d2 : decide (4294967295 < ti) = false := by simp; omega
  go_enter Tryz.func27, Tryz.ntmps27
  have z1 : ∀ j u, ([.int .i64 c.wk, .int .u32 c.ou, .int .i64 c.lo, .int .i64 c.hi, .int .i64 c.bk, .int .i64 c.rg] : List Value)[j]? = some u → w.cell? ⟨gn, 0 + j, none⟩ = some u := fun j u hu => by
    rw [Nat.zero_add, hm.obj.cell]
    match j with
    | 0 | 1 | 2 | 3 | 4 | 5 => exact hu
    | j + 6 => simp at hu
  go_wp2_with (refine wpList_ldAt rfl rfl rfl z1 Tryz.underlying36 cf_size ?_; clear z1)
  refine (kp.out _).mono ?_
  rintro e W1 ⟨rfl, hb1⟩
  have hm1 := hm.bel_ hb1
  have hu1 := Upd.of_below hb1 (fun k => k = pb ∨ k = fm)
  clear hb1 kp
  have hlook := hm1.pl.look hkr
  have q6 := hm1.obj.cell 6
  rw [hPL.out] at hcut hinv
  replace hcut := Lib.hid hcut.out
  replace hinv := Lib.hid hinv.out
  rw [hat.out] at hlook
  simp only [lookB, Bd.cs] at hlook
  have hb2 := below_setRow (bel_alloc W1 (.cells #[.int .i64 0, .int .u32 0, .int .u16 0, .int .i64 0, .int .i64 0, .int .i64 0] 63)) (Nat.le_refl _) #[.int .i64 b0, .int .u32 b1, .int .u16 b2, .int .i64 b3, .int .i64 b4, .int .i64 b5]
  have hm2 := hm1.bel_ hb2
  have hu2 := hu1.trans (Upd.of_below hb2 _)
  have bb := (Blk.new W1 63 #[.int .i64 0, .int .u32 0, .int .u16 0, .int .i64 0, .int .i64 0, .int .i64 0]).setRow #[.int .i64 b0, .int .u32 b1, .int .u16 b2, .int .i64 b3, .int .i64 b4, .int .i64 b5]
  go_upto_region 5 with (first
    | (refine wpList_look rfl rfl rfl rfl hlook ?_)
    | (refine wpList_stRow rfl rfl rfl rfl rfl (Blk.new W1 _ _) bd_size rfl (by simp [Value.oneCell']) ?_; generalize (W1.alloc (.cells #[.int .i64 0, .int .u32 0, .int .u16 0, .int .i64 0, .int .i64 0, .int .i64 0] 63)).setRow W1.heap.size #[.int .i64 b0, .int .u32 b1, .int .u16 b2, .int .i64 b3, .int .i64 b4, .int .i64 b5] = W2 at *; generalize W1.heap.size = gb at *))
  clear hlook q6 hm1 hu1 hb2
  have z4 : ∀ t : Tw (Up W2), t.w.cell? ⟨gb, 4, none⟩ = some (.int .i64 b4) := fun t => (bb.bel t.h).cell 4
  have z5 : ∀ t : Tw (Up W2), t.w.cell? ⟨gb, 5, none⟩ = some (.int .i64 b5) := fun t => (bb.bel t.h).cell 5
  have zz := Up.one W2
  refine wp_region_plan (Up W2) [(0, true), (1, true), (2, true), (3, true), (4, true), (5, true), (6, true), (7, true), (10, true), (8, false), (9, true), (11, true), (12, true)] (by kernel_rfl) (by kernel_rfl) (by kernel_rfl) (by kernel_rfl) (Below.refl _ _).drew ?_
  refine wpPl_qs 9 _ _ _ (by kernel_rfl) (by kernel_rfl) (by simp) ?_
  unfold clsS
  simp only [List.take_succ_cons, List.take_zero, List.drop_succ_cons, List.drop_zero, List.filterMap_cons, List.filterMap_nil, List.getElem?_toArray, List.getElem?_cons_zero, List.getElem?_cons_succ]
  repeat (first
    | go_big_quiet_skip
    | (go_big_quiet_want; go_big_quiet_op; go_big_quiet_on)
    | (refine id (?_ : wpQuiet _ _ _ _ (_ :: _) _); first | go_big_quiet_skip | (go_big_quiet_want; go_big_quiet_op; go_big_quiet_on)))
  refine wpQuiet_nil ?_
  refine wpPl_e _ (by rfl) (by kernel_rfl) (fun K hK => ?_)
  go_simp
  refine (kl.out _).mono ?_
  rintro e W3 ⟨rfl, rfl⟩
  refine hK _ _ (Below.refl _ _).drew ?_
  clear hK K kl
  refine wpPl_qs 3 _ _ _ (by kernel_rfl) (by kernel_rfl) (by simp) ?_
  unfold clsS
  simp only [List.take_succ_cons, List.take_zero, List.drop_succ_cons, List.drop_zero, List.filterMap_cons, List.filterMap_nil, List.getElem?_toArray, List.getElem?_cons_zero, List.getElem?_cons_succ]
  repeat (first
    | go_big_quiet_skip
    | (go_big_quiet_want; go_big_quiet_op; go_big_quiet_on)
    | (refine id (?_ : wpQuiet _ _ _ _ (_ :: _) _); first | go_big_quiet_skip | (go_big_quiet_want; go_big_quiet_op; go_big_quiet_on)))
  refine wpQuiet_nil ?_
  unfold wpPl
  refine NoPanic.normal ?_
  clear z4 z5 zz
  replace hm2 := hm2.drew
  replace bb := bb.drew
  replace hu2 := hu2.trans (Upd.of_below (Below.refl _ _).drew _)
  generalize W2.drew = W3 at *
  go_wp2_with fail
  go_ret
  exact ⟨rfl, hm2, hu2⟩
set_option maxRecDepth 100000 in
set_option maxHeartbeats 4000000 in
theorem Expire_go (c : Cf) (gn pb fm np nf : Nat) (L : List Bd) (b : Bd) (pr po ti : Int) (w : World) (hm : NatM w c gn pb fm np nf L) (hc : c.ok) (ht : 0 ≤ ti ∧ ti ≤ 4294967295) (hat : atB c (placeP c pr po) L = some b) (hle : b.se + lifeS pr b.tr ≤ ti) :
    Calls Tryz.prog 27 #[.pointer (some ⟨gn, 0, none⟩), .int .i64 pr, .int .i64 po, .int .i64 ti] w (ExpR w c gn pb fm np nf (cutB c (placeP c pr po) L, true)) := by
  obtain ⟨hbm, hbk⟩ := atB_some hat
  have hbo := hm.inv.ok b hbm
  have hbr := hbo.rng
  have hse := hbo.se
  have hlf := lifeS_bd pr b.tr
  have kl := fun W => Life_any pr b.tr W
  have hcut := plOf_cut hm.inv hbm
  have hinv := hm.inv.cut (keyB c b)
  rw [hbk] at hcut hinv
  generalize lifeS pr b.tr = LF at *
  replace hbr := Lib.hid hbr
  replace kl := Lib.hid kl
  replace hcut := Lib.hid hcut
  replace hinv := Lib.hid hinv
  clear hbm hbk hbo
  obtain ⟨⟨b0, b1, b2⟩, b3, b4, b5⟩ := b
  simp only at hle hse
  obtain ⟨PL, hPL⟩ : ∃ PL, placeP c pr po = PL := ⟨_, rfl⟩
  have kp := fun W => Place_ok c pr po W hc
  have hkr := placeP_rng hc pr po
  rw [hPL] at kp hkr hat
  replace hPL := Lib.hid hPL
  replace kp := Lib.hid kp
  replace hat := Lib.hid hat
  have d1 : decide (ti < 0) = false := by simp; omega
  have d2 : decide (4294967295 < ti) = false := by simp; omega
  go_enter Tryz.func27, Tryz.ntmps27
  have z1 : ∀ j u, ([.int .i64 c.wk, .int .u32 c.ou, .int .i64 c.lo, .int .i64 c.hi, .int .i64 c.bk, .int .i64 c.rg] : List Value)[j]? = some u → w.cell? ⟨gn, 0 + j, none⟩ = some u := fun j u hu => by
    rw [Nat.zero_add, hm.obj.cell]
    match j with
    | 0 | 1 | 2 | 3 | 4 | 5 => exact hu
    | j + 6 => simp at hu
  go_wp2_with (refine wpList_ldAt rfl rfl rfl z1 Tryz.underlying36 cf_size ?_; clear z1)
  refine (kp.out _).mono ?_
  rintro e W1 ⟨rfl, hb1⟩
  have hm1 := hm.bel_ hb1
  have hu1 := Upd.of_below hb1 (fun k => k = pb ∨ k = fm)
  clear hb1 kp
  have hlook := hm1.pl.look hkr
  have q6 := hm1.obj.cell 6
  rw [hPL.out] at hcut hinv
  replace hcut := Lib.hid hcut.out
  replace hinv := Lib.hid hinv.out
  rw [hat.out] at hlook
  simp only [lookB, Bd.cs] at hlook
  have hb2 := below_setRow (bel_alloc W1 (.cells #[.int .i64 0, .int .u32 0, .int .u16 0, .int .i64 0, .int .i64 0, .int .i64 0] 63)) (Nat.le_refl _) #[.int .i64 b0, .int .u32 b1, .int .u16 b2, .int .i64 b3, .int .i64 b4, .int .i64 b5]
  have hm2 := hm1.bel_ hb2
  have hu2 := hu1.trans (Upd.of_below hb2 _)
  have bb := (Blk.new W1 63 #[.int .i64 0, .int .u32 0, .int .u16 0, .int .i64 0, .int .i64 0, .int .i64 0]).setRow #[.int .i64 b0, .int .u32 b1, .int .u16 b2, .int .i64 b3, .int .i64 b4, .int .i64 b5]
  go_upto_region 5 with (first
    | (refine wpList_look rfl rfl rfl rfl hlook ?_)
    | (refine wpList_stRow rfl rfl rfl rfl rfl (Blk.new W1 _ _) bd_size rfl (by simp [Value.oneCell']) ?_; generalize (W1.alloc (.cells #[.int .i64 0, .int .u32 0, .int .u16 0, .int .i64 0, .int .i64 0, .int .i64 0] 63)).setRow W1.heap.size #[.int .i64 b0, .int .u32 b1, .int .u16 b2, .int .i64 b3, .int .i64 b4, .int .i64 b5] = W2 at *; generalize W1.heap.size = gb at *))
  clear hlook q6 hm1 hu1 hb2
  have z4 : ∀ t : Tw (Up W2), t.w.cell? ⟨gb, 4, none⟩ = some (.int .i64 b4) := fun t => (bb.bel t.h).cell 4
  have z5 : ∀ t : Tw (Up W2), t.w.cell? ⟨gb, 5, none⟩ = some (.int .i64 b5) := fun t => (bb.bel t.h).cell 5
  have zz := Up.one W2
  refine wp_region_plan (Up W2) [(0, true), (1, true), (2, true), (3, true), (4, true), (5, true), (6, true), (7, true), (10, true), (8, false), (9, true), (11, true), (12, true)] (by kernel_rfl) (by kernel_rfl) (by kernel_rfl) (by kernel_rfl) (Below.refl _ _).drew ?_
  refine wpPl_qs 9 _ _ _ (by kernel_rfl) (by kernel_rfl) (by simp) ?_
  unfold clsS
  simp only [List.take_succ_cons, List.take_zero, List.drop_succ_cons, List.drop_zero, List.filterMap_cons, List.filterMap_nil, List.getElem?_toArray, List.getElem?_cons_zero, List.getElem?_cons_succ]
  repeat (first
    | go_big_quiet_skip
    | (go_big_quiet_want; go_big_quiet_op; go_big_quiet_on)
    | (refine id (?_ : wpQuiet _ _ _ _ (_ :: _) _); first | go_big_quiet_skip | (go_big_quiet_want; go_big_quiet_op; go_big_quiet_on)))
  refine wpQuiet_nil ?_
  refine wpPl_e _ (by rfl) (by kernel_rfl) (fun K hK => ?_)
  go_simp
  refine (kl.out _).mono ?_
  rintro e W3 ⟨rfl, rfl⟩
  refine hK _ _ (Below.refl _ _).drew ?_
  clear hK K kl
  refine wpPl_qs 3 _ _ _ (by kernel_rfl) (by kernel_rfl) (by simp) ?_
  unfold clsS
  simp only [List.take_succ_cons, List.take_zero, List.drop_succ_cons, List.drop_zero, List.filterMap_cons, List.filterMap_nil, List.getElem?_toArray, List.getElem?_cons_zero, List.getElem?_cons_succ]
  repeat (first
    | go_big_quiet_skip
    | (go_big_quiet_want; go_big_quiet_op; go_big_quiet_on)
    | (refine id (?_ : wpQuiet _ _ _ _ (_ :: _) _); first | go_big_quiet_skip | (go_big_quiet_want; go_big_quiet_op; go_big_quiet_on)))
  refine wpQuiet_nil ?_
  unfold wpPl
  refine NoPanic.normal ?_
  clear z4 z5 zz
  replace hm2 := hm2.drew
  replace bb := bb.drew
  replace hu2 := hu2.trans (Upd.of_below (Below.refl _ _).drew _)
  generalize W2.drew = W3 at *
  have q6 := hm2.obj.cell 6
  have hdel := fun ty => hm2.pl.del PL hkr ty
  go_upto_region 8 with (refine wpList_delE rfl rfl rfl rfl rfl hdel ?_; rintro W4 ⟨hp4, hu4⟩)
  clear q6 hdel
  have ho4 := hm2.obj.upd hu4 (fun e => hm2.pl.notBlk hm2.obj e)
  have bb4 := bb.upd hu4 (fun e => hm2.pl.notBlk bb e)
  have hf4 := hm2.fl.upd hu4 (fun e => hm2.ne e.symm)
  have z7 : ∀ t : Tw (fun w' => Blk w' gn 117 #[.int .i64 c.wk, .int .u32 c.ou, .int .i64 c.lo, .int .i64 c.hi, .int .i64 c.bk, .int .i64 c.rg, .map (some pb), .map (some fm)] ∧ Blk w' gb 63 #[.int .i64 b0, .int .u32 b1, .int .u16 b2, .int .i64 b3, .int .i64 b4, .int .i64 b5]), t.w.cell? ⟨gn, 7, none⟩ = some (.map (some fm)) := fun t => t.h.1.cell 7
  have z8 : ∀ w', (∃ t : Tw (fun w' => Blk w' gn 117 #[.int .i64 c.wk, .int .u32 c.ou, .int .i64 c.lo, .int .i64 c.hi, .int .i64 c.bk, .int .i64 c.rg, .map (some pb), .map (some fm)] ∧ Blk w' gb 63 #[.int .i64 b0, .int .u32 b1, .int .u16 b2, .int .i64 b3, .int .i64 b4, .int .i64 b5]), w' = t.w) → ∀ j u, ([.int .i64 b0, .int .u32 b1, .int .u16 b2] : List Value)[j]? = some u → w'.cell? ⟨gb, 0 + j, none⟩ = some u := fun w' ⟨t, ht⟩ j u hu => by
    rw [ht, Nat.zero_add, t.h.2.cell]
    match j with
    | 0 | 1 | 2 => exact hu
    | j + 3 => simp at hu
  have zz : Nonempty (Tw (fun w' => Blk w' gn 117 #[.int .i64 c.wk, .int .u32 c.ou, .int .i64 c.lo, .int .i64 c.hi, .int .i64 c.bk, .int .i64 c.rg, .map (some pb), .map (some fm)] ∧ Blk w' gb 63 #[.int .i64 b0, .int .u32 b1, .int .u16 b2, .int .i64 b3, .int .i64 b4, .int .i64 b5])) := ⟨⟨_, ho4, bb4⟩⟩
  refine wp_region_plan (fun w' => Blk w' gn 117 #[.int .i64 c.wk, .int .u32 c.ou, .int .i64 c.lo, .int .i64 c.hi, .int .i64 c.bk, .int .i64 c.rg, .map (some pb), .map (some fm)] ∧ Blk w' gb 63 #[.int .i64 b0, .int .u32 b1, .int .u16 b2, .int .i64 b3, .int .i64 b4, .int .i64 b5]) [(0, true), (1, true), (2, true), (3, true), (4, true), (5, true), (6, false)] (by kernel_rfl) (by kernel_rfl) (by kernel_rfl) (by kernel_rfl) ⟨ho4.drew, bb4.drew⟩ ?_
  refine wpPl_qs 6 _ _ _ (by kernel_rfl) (by kernel_rfl) (by simp) ?_
  unfold clsS
  simp only [List.take_succ_cons, List.take_zero, List.drop_succ_cons, List.drop_zero, List.filterMap_cons, List.filterMap_nil, List.getElem?_toArray, List.getElem?_cons_zero, List.getElem?_cons_succ]
  repeat (first
    | go_big_quiet_skip
    | (go_big_quiet_want; first | (refine quiet_ldAt rfl rfl z8 Tryz.underlying32 fl_size ?_; go_simp; go_big_quiet_on) | (go_big_quiet_op; go_big_quiet_on))
    | (refine id (?_ : wpQuiet _ _ _ _ (_ :: _) _); first | go_big_quiet_skip | (go_big_quiet_want; first | (refine quiet_ldAt rfl rfl z8 Tryz.underlying32 fl_size ?_; go_simp; go_big_quiet_on) | (go_big_quiet_op; go_big_quiet_on))))
  refine wpQuiet_nil ?_
  have hd := fun ty => (hf4.bel (Below.refl _ _).drew).del hbr.out ty
  refine wpPl_e _ (by rfl) (by kernel_rfl) (fun K hK => ?_)
  refine wp_delN rfl rfl rfl rfl hd ?_
  rintro W6 ⟨hf6, hu6⟩
  have hnb := fun {g t cs} (h : Blk W4.drew g t cs) => (hf4.bel (Below.refl _ _).drew).notBlk h
  refine hK _ _ ⟨ho4.drew.upd hu6 (fun e => hnb ho4.drew e), bb4.drew.upd hu6 (fun e => hnb bb4.drew e)⟩ ?_
  clear hK K
  unfold wpPl
  refine NoPanic.normal ?_
  go_wp2_with fail
  go_ret
  rw [hPL.out]
  exact ⟨rfl, ⟨ho4.drew.upd hu6 (fun e => hnb ho4.drew e), (hp4.bel (Below.refl _ _).drew).upd hu6 (fun e => hm2.ne e), hf6.congr (fun f => (hcut.out f).symm), hm2.ne, hinv.out⟩, ((hu2.trans (hu4.mono (fun _ _ h => .inl h))).trans (Upd.of_below (Below.refl _ _).drew _)).trans (hu6.mono (fun _ _ h => .inr h))⟩
theorem Expire_any (c : Cf) (gn pb fm np nf : Nat) (L : List Bd) (pr po ti : Int) (w : World) (hm : NatM w c gn pb fm np nf L) (hc : c.ok) :
    Calls Tryz.prog 27 #[.pointer (some ⟨gn, 0, none⟩), .int .i64 pr, .int .i64 po, .int .i64 ti] w (ExpR w c gn pb fm np nf (expP c L pr po ti)) := by
  unfold expP
  by_cases h1 : ti < 0 ∨ 4294967295 < ti
  · rw [if_pos h1]
    exact Expire_bad c gn pb fm np nf L pr po ti w hm h1
  rw [if_neg h1]
  have ht : 0 ≤ ti ∧ ti ≤ 4294967295 := by omega
  cases hat : atB c (placeP c pr po) L with
  | none => exact Expire_none c gn pb fm np nf L pr po ti w hm hc ht hat
  | some b =>
    simp only
    by_cases h2 : ti < b.se + lifeS pr b.tr
    · rw [if_pos h2]
      exact Expire_stay c gn pb fm np nf L b pr po ti w hm hc ht hat h2
    · rw [if_neg h2]
      exact Expire_go c gn pb fm np nf L b pr po ti w hm hc ht hat (by omega)
end Go.Proofs.YtbckoohljkmahaaGreat
namespace Go.Proofs.YtbckoohljkmahaaGreat
set_option linter.unusedVariables false
set_option linter.unusedSimpArgs false
open Go.RowKit Go.Maps
theorem c14_size : (Tryz.prog.info? 27).map (·.size) = some 6 := by kernel_rfl
set_option maxRecDepth 100000 in
theorem To_any (c : Cf) (w : World) : Calls Tryz.prog 14 #[.agg #[.int .i64 c.wk, .int .u32 c.ou, .int .i64 c.lo, .int .i64 c.hi, .int .i64 c.bk, .int .i64 c.rg]] w fun e w' => e = .returned (.agg #[.int .i64 c.wk, .int .u32 c.ou, .int .i64 c.lo, .int .i64 c.hi, .int .i64 c.bk, .int .i64 c.rg]) ∧ Below w.heap.size w w' := by
  obtain ⟨wk, ou, lo, hi, bk, rg⟩ := c
  simp only
  go_enter Tryz.func14, Tryz.ntmps14
  go_upto_region 1 with fail
  have bx := (Blk.new w 27 #[.int .i64 wk, .int .u32 ou, .int .i64 lo, .int .i64 hi, .int .i64 bk, .int .i64 rg]).alloc (.cells #[.int .i64 0, .int .u32 0, .int .i64 0, .int .i64 0, .int .i64 0, .int .i64 0] 36)
  have ba := Blk.new (w.alloc (.cells #[.int .i64 wk, .int .u32 ou, .int .i64 lo, .int .i64 hi, .int .i64 bk, .int .i64 rg] 27)) 36 #[.int .i64 0, .int .u32 0, .int .i64 0, .int .i64 0, .int .i64 0, .int .i64 0]
  rw [show (w.alloc (.cells #[.int .i64 wk, .int .u32 ou, .int .i64 lo, .int .i64 hi, .int .i64 bk, .int .i64 rg] 27)).heap.size = w.heap.size + 1 by simp] at ba
  have bel : Below w.heap.size w ((w.alloc (.cells #[.int .i64 wk, .int .u32 ou, .int .i64 lo, .int .i64 hi, .int .i64 bk, .int .i64 rg] 27)).alloc (.cells #[.int .i64 0, .int .u32 0, .int .i64 0, .int .i64 0, .int .i64 0, .int .i64 0] 36)) := (bel_alloc _ _).alloc (by simp) _
  generalize (w.alloc (.cells #[.int .i64 wk, .int .u32 ou, .int .i64 lo, .int .i64 hi, .int .i64 bk, .int .i64 rg] 27)).alloc (.cells #[.int .i64 0, .int .u32 0, .int .i64 0, .int .i64 0, .int .i64 0, .int .i64 0] 36) = W at *
  have x0 := bx.cell 0
  have x1 := bx.cell 1
  have x2 := bx.cell 2
  have x3 := bx.cell 3
  have x4 := bx.cell 4
  have x5 := bx.cell 5
  go_wp2_with (refine wpList_stRow rfl rfl rfl rfl rfl ba cf_size rfl (by simp [Value.oneCell']) ?_)
  exact bodyPost_ret (results_row rfl _ rfl (ba.setRow _) Tryz.underlying36 cf_size) rfl ⟨rfl, below_setRow bel (Nat.le_succ _) _⟩
end Go.Proofs.YtbckoohljkmahaaGreat
namespace Go.Proofs.YtbckoohljkmahaaGreat
set_option linter.unusedVariables false
set_option linter.unusedSimpArgs false
open Go.RowKit Go.Maps
def cfL (n : Int) : Cf := ⟨1, 3221225985, 1000, 1000 + n, 2, 4⟩
set_option maxRecDepth 100000 in
theorem Config39 (w : World) : Calls Tryz.prog 11 #[.int .i64 0, .int .i64 39, .int .i64 0] w fun e w' => e = .returned (.agg #[.int .i64 1, .int .u32 3221225985, .int .i64 1000, .int .i64 1039, .int .i64 2, .int .i64 4]) ∧ Below w.heap.size w w' := by
  go_enter Tryz.func11, Tryz.ntmps11
  go_upto_region 1 with fail
  have ba := Blk.new w 27 #[.int .i64 0, .int .u32 0, .int .i64 0, .int .i64 0, .int .i64 0, .int .i64 0]
  have bel := bel_alloc w (.cells #[.int .i64 0, .int .u32 0, .int .i64 0, .int .i64 0, .int .i64 0, .int .i64 0] 27)
  generalize w.alloc (.cells #[.int .i64 0, .int .u32 0, .int .i64 0, .int .i64 0, .int .i64 0, .int .i64 0] 27) = W at *
  have hlt := ba.lt
  have bel2 : Below w.heap.size w (W.alloc (.cells #[.int .i64 2, .int .i64 4, .int .i64 16, .int .i64 64] 3)) := bel.alloc bel.size _
  have ba2 := ba.alloc (.cells #[.int .i64 2, .int .i64 4, .int .i64 16, .int .i64 64] 3)
  go_wp2_with (refine wpList_stRow rfl rfl rfl rfl rfl ba2 c14_size rfl (by simp [Value.oneCell']) ?_)
  exact bodyPost_ret (results_row rfl _ rfl (ba2.setRow _) Tryz.underlying27 c14_size) rfl ⟨rfl, below_setRow bel2 (Nat.le_refl _) _⟩
set_option maxRecDepth 100000 in
theorem Config9 (w : World) : Calls Tryz.prog 11 #[.int .i64 0, .int .i64 9, .int .i64 0] w fun e w' => e = .returned (.agg #[.int .i64 1, .int .u32 3221225985, .int .i64 1000, .int .i64 1009, .int .i64 2, .int .i64 4]) ∧ Below w.heap.size w w' := by
  go_enter Tryz.func11, Tryz.ntmps11
  go_upto_region 1 with fail
  have ba := Blk.new w 27 #[.int .i64 0, .int .u32 0, .int .i64 0, .int .i64 0, .int .i64 0, .int .i64 0]
  have bel := bel_alloc w (.cells #[.int .i64 0, .int .u32 0, .int .i64 0, .int .i64 0, .int .i64 0, .int .i64 0] 27)
  generalize w.alloc (.cells #[.int .i64 0, .int .u32 0, .int .i64 0, .int .i64 0, .int .i64 0, .int .i64 0] 27) = W at *
  have hlt := ba.lt
  have bel2 : Below w.heap.size w (W.alloc (.cells #[.int .i64 2, .int .i64 4, .int .i64 16, .int .i64 64] 3)) := bel.alloc bel.size _
  have ba2 := ba.alloc (.cells #[.int .i64 2, .int .i64 4, .int .i64 16, .int .i64 64] 3)
  go_wp2_with (refine wpList_stRow rfl rfl rfl rfl rfl ba2 c14_size rfl (by simp [Value.oneCell']) ?_)
  exact bodyPost_ret (results_row rfl _ rfl (ba2.setRow _) Tryz.underlying27 c14_size) rfl ⟨rfl, below_setRow bel2 (Nat.le_refl _) _⟩
theorem cfL_ok {n : Int} (h : 0 ≤ n ∧ n ≤ 39) : (cfL n).ok := by
  refine ⟨?_, ?_, ?_, ?_, ?_, ?_, ?_⟩ <;> simp only [cfL] <;> first | omega | decide | (constructor <;> omega)
end Go.Proofs.YtbckoohljkmahaaGreat
namespace Go.Proofs.YtbckoohljkmahaaGreat
set_option linter.unusedVariables false
set_option linter.unusedSimpArgs false
open Go.RowKit Go.Maps
def BdL (b : Bd) : List Value := [.int .i64 b.fl.pr, .int .u32 b.fl.ad, .int .u16 b.fl.po, .int .i64 b.po, .int .i64 b.tr, .int .i64 b.se]
theorem BdL_len (b : Bd) : (BdL b).length = 6 := rfl
theorem BdL_one (b : Bd) : ∀ u ∈ BdL b, u.oneCell' = true := by intro u hu; simp [BdL] at hu; rcases hu with rfl | rfl | rfl | rfl | rfl | rfl <;> rfl
theorem bd_info : (Tryz.prog.info? 63).map (fun i => (i.zero, i.size, i.bytes)) = some (some (.agg #[.int .i64 0, .int .u32 0, .int .u16 0, .int .i64 0, .int .i64 0, .int .i64 0]), 6, 40) := by kernel_rfl
def BndR (w : World) (c : Cf) (gn pb fm np nf : Nat) (L : List Bd) (e : Ending) (w' : World) : Prop :=
  ∃ v, e = .returned v ∧ OwnT BdL 6 63 w' w.heap.size v L ∧ NatM w' c gn pb fm np nf L ∧ Below w.heap.size w w'
def KeysR (c : Cf) (L : List Bd) (W : World) (e : Ending) (w1 : World) : Prop :=
  ∃ fv, e = .returned fv ∧ Below W.heap.size W w1 ∧ Calls Tryz.prog 52 #[fv] w1 fun e w2 => ∃ A cp, e = .returned (.slice A L.length cp) ∧ L.length ≤ cp ∧ Rd .i64 w2 w2.heap.size A L.length (L.map (keyB c)) ∧ Below w1.heap.size w1 w2
theorem OwnT.lowerB {α : Type} {cs : α → List Value} {sz : Nat} {e : TypeId} {w : World} {base base' : Nat} {v : Value} {l : List α} (h : OwnT cs sz e w base v l) (hb : base' ≤ base) : OwnT cs sz e w base' v l := by
  refine ⟨h.row.1, ?_⟩
  rcases h.row.2 with hn | ⟨g, cap, cur, rfl, hg, rest⟩
  · exact .inl hn
  · exact .inr ⟨g, cap, cur, rfl, by omega, rest⟩
set_option maxRecDepth 100000 in
set_option maxHeartbeats 4000000 in
theorem Bindings_of (c : Cf) (gn pb fm np nf : Nat) (L : List Bd) (w : World) (hm : NatM w c gn pb fm np nf L) (hc : c.ok) (hnp : np ≤ 1000000)
    (kk : ∀ W, NatM W c gn pb fm np nf L → Calls Tryz.prog 53 #[.map (some pb)] W (KeysR c L W)) :
    Calls Tryz.prog 23 #[.pointer (some ⟨gn, 0, none⟩)] w (BndR w c gn pb fm np nf L) := by
  obtain ⟨i0, hi, hz0, hz1, hz2⟩ := info_parts bd_info
  have hLn := hm.pl.len
  unfold BndR
  unfold KeysR at kk
  obtain ⟨n, hn⟩ : ∃ n, L.length = n := ⟨_, rfl⟩
  rw [hn] at kk hLn
  replace hn := Lib.hid hn
  replace kk := Lib.hid kk
  have q6 := hm.obj.cell 6
  go_enter Tryz.func23, Tryz.ntmps23
  go_wp2_with fail
  refine (kk.out _ hm).mono ?_
  rintro e W1 ⟨fv, rfl, hb1, ks⟩
  have hm1 := hm.bel_ hb1
  clear q6 kk
  replace ks := Lib.hid ks
  go_wp2_with fail
  refine ks.out.mono ?_
  rintro e W2 ⟨A, cp, rfl, hcp, rd, hb2⟩
  have hm2 := hm1.bel_ hb2
  have bel2 := bel_after hb1 hb2
  clear ks hm1 hb2
  go_wp2_with fail
  go_loopw [3, 15] (fun o i wr => ∃ k : Nat, k ≤ n ∧ i = .int .i64 k ∧ OwnT BdL 6 63 wr W2.heap.size o (L.take k) ∧ Below w.heap.size w wr ∧ NatM wr c gn pb fm np nf L ∧ Rd .i64 wr W2.heap.size A n (L.map (keyB c)) ∧ W2.heap.size ≤ wr.heap.size) (fun _ i _ => n - (intOf i).toNat)
  case atStart => exact ⟨0, by omega, rfl, ⟨World.ownsRow_nil _ _ _ _⟩, bel2, hm2, rd, Nat.le_refl _⟩
  case round =>
    obtain ⟨k, hk, rfl, own, bel, hmr, rdr, hsz⟩ := hrel
    rcases Nat.lt_or_ge k n with hkn | hkn
    · have d1 : decide ((k : Int) < (n : Int)) = true := by simpa using hkn
      have d2 : decide (k < n) = true := by simpa using hkn
      obtain ⟨b, hb⟩ : ∃ b, L[k]? = some b := ⟨_, List.getElem?_eq_getElem (by rw [hn.out]; omega)⟩
      obtain ⟨g, o, rfl, hg, hcell, hir⟩ := rdr.at_ hkn
      have hkey : (L.map (keyB c)).getD k 0 = keyB c b := by rw [List.getD_eq_getElem?_getD, List.getElem?_map, hb]; rfl
      rw [hkey] at hcell hir
      have hlook := hmr.pl.look0 hir
      have hat := atB_of hmr.inv (List.mem_of_getElem? hb)
      have htk : L.take (k + 1) = L.take k ++ [b] := by rw [List.take_add_one, hb]; rfl
      have hlt : (L.take k).length = k := by rw [List.length_take, hn.out]; omega
      rw [hat] at hlook
      generalize keyB c b = KEY at *
      clear hat hkey hir
      replace htk := Lib.hid htk
      replace hb := Lib.hid hb
      replace hlt := Lib.hid hlt
      obtain ⟨⟨b0, b1, b2⟩, b3, b4, b5⟩ := b
      simp only [lookZ, Bd.cs] at hlook
      have q6 := hmr.obj.cell 6
      have k0 : (0 : Int) ≤ (k : Int) := by omega
      have k1 : (k : Int) < (n : Int) := by omega
      go_upto_region 7 with fail
      have hla := bel_alloc wr (.cells #[.int .i64 b0, .int .u32 b1, .int .u16 b2, .int .i64 b3, .int .i64 b4, .int .i64 b5] 63)
      have hxr := RdT.new (cs := BdL) (sz := 6) BdL_len wr 63 [(⟨⟨b0, b1, b2⟩, b3, b4, b5⟩ : Bd)] #[.int .i64 b0, .int .u32 b1, .int .u16 b2, .int .i64 b3, .int .i64 b4, .int .i64 b5] rfl 1 rfl
      have own3 := own.below hla
      have hm3 := hmr.bel_ hla
      have bel3 := bel_after bel hla
      have rd3 := rdr.below (Below.mono hla hsz)
      have hsz3 := Nat.le_trans hsz hla.size
      clear hla
      go_wp2_with (first
        | (refine wpList_look rfl rfl rfl rfl hlook ?_)
        | (at_builtin; generalize wr.alloc (.cells #[.int .i64 b0, .int .u32 b1, .int .u16 b2, .int .i64 b3, .int .i64 b4, .int .i64 b5] 63) = W3 at *; refine wpList_appT BdL_len BdL_one (by decide) _ rfl (.tmp 19) (.tmp 26) 58 rfl W2.heap.size 63 i0 (.agg #[.int .i64 0, .int .u32 0, .int .u16 0, .int .i64 0, .int .i64 0, .int .i64 0]) 40 Tryz.underlying58 hi hz0 hz1 hz2 rfl _ rfl (L.take k) own3 _ _ 1 1 rfl [(⟨⟨b0, b1, b2⟩, b3, b4, b5⟩ : Bd)] hxr (by rw [hlt.out]; omega) (by decide) hsz3 ?_; intro v4 w4 own4 hg4 hv4))
      have hu4 : Upd (fun k => W2.heap.size ≤ k) W3 w4 := Upd.of_grown (S := fun k => W2.heap.size ≤ k) hg4 (fun g e => (own3.lt g e).1)
      have hb4 : Below W2.heap.size W3 w4 := hu4.below hsz3 (fun k hk => by omega)
      have l1 := hm2.obj.lt
      have l2 := hm2.pl.lt
      have l3 := hm2.fl.lt
      have hm4 : NatM w4 c gn pb fm np nf L := ⟨hm3.obj.upd hu4 (by omega), hm3.pl.upd hu4 (by omega), hm3.fl.upd hu4 (by omega), hm3.ne, hm3.inv⟩
      have bel4 : Below w.heap.size w w4 := bel3.trans (Below.mono hb4 bel2.size)
      rw [← htk.out] at own4
      go_roundw
      case rel => exact ⟨k + 1, by omega, by go_num, own4, bel4, hm4, rd3.below hb4, Nat.le_trans hsz3 hb4.size⟩
      case measure => simp [intOf]; omega
    · obtain rfl : k = n := by omega
      have d1 : decide ((k : Int) < (k : Int)) = false := by simp
      have ht : L.take k = L := by rw [← hn.out, List.take_length]
      rw [ht] at own
      have d2 : decide (k < k) = false := by simp
      go_wp2
      go_ret
      exact ⟨_, rfl, own.lowerB bel2.size, hmr, bel⟩
end Go.Proofs.YtbckoohljkmahaaGreat
namespace Go.Proofs.YtbckoohljkmahaaGreat
set_option linter.unusedVariables false
set_option linter.unusedSimpArgs false
open Go.RowKit
def FR (w : World) (e : Ending) (w' : World) : Prop := ∃ L : List Int, (1 ≤ L.length ∧ L.length ≤ 130) ∧ Gives w L e w'
end Go.Proofs.YtbckoohljkmahaaGreat
namespace Go.Proofs.YtbckoohljkmahaaGreat
set_option linter.unusedVariables false
set_option linter.unusedSimpArgs false
open Go.RowKit
set_option maxRecDepth 100000 in
set_option maxHeartbeats 4000000 in
theorem Frame15_k (wt wo po f be ti : Int) (A : Option Addr) (len cap : Nat) (l : List Int) (a1 a2 p5 m k : Nat) (w : World) (hr : Rd .u8 w w.heap.size A len l) (hlc : len ≤ cap) (hcm : cap ≤ 9223372036854775807)
    (hmn : (if (20 : Int) < (len : Int) then (20 : Int) else (len : Int)) = (m : Int)) (hm1 : m ≤ len) (hk : (IntKind.u64.wrap wt).tmod 7 = (k : Int)) (hk3 : k < 3) (ha1 : (IntKind.u64.wrap wo).tmod 3 = (a1 : Int)) (ha1b : (a1 : Int) < 3) (ha2 : (IntKind.u64.wrap ((IntKind.u64.wrap wo).tdiv 3)).tmod 3 = (a2 : Int)) (ha2b : (a2 : Int) < 3) (hp5 : (IntKind.u64.wrap po).tmod 5 = (p5 : Int)) (hp5b : (p5 : Int) < 5) :
    Calls Tryz.prog 12 #[.agg #[.bool true, .int .i64 wt, .int .i64 wo, .int .i64 po, .int .i64 f, .slice A len cap, .int .i64 be, .int .u8 0, .int .i64 ti]] w (Gives w (frameL k (167772161 + (a1 : Int)) (134744065 + (a2 : Int)) (5 + (p5 : Int)) 53 f ((l.take m).take 40))) := by
  have hj0 : (0 : Int) ≤ (m : Int) := by omega
  have hj1 : (m : Int) ≤ (cap : Int) := by omega
  have hj2 : m ≤ cap := by omega
  have hrt := hr.take hm1
  obtain ⟨L, hL⟩ : ∃ L, L = l.take m := ⟨_, rfl⟩
  rw [← hL] at hrt ⊢
  clear hL hr
  have hkv : Value.int .u64 ((IntKind.u64.wrap wt).tmod 7) = .int .u64 (k : Int) := by rw [hk]
  have hav : Value.int .u64 ((IntKind.u64.wrap wo).tmod 3) = .int .u64 (a1 : Int) := by rw [ha1]
  have hav2 : Value.int .u64 ((IntKind.u64.wrap ((IntKind.u64.wrap wo).tdiv 3)).tmod 3) = .int .u64 (a2 : Int) := by rw [ha2]
  have hpv5 : Value.int .u64 ((IntKind.u64.wrap po).tmod 5) = .int .u64 (p5 : Int) := by rw [hp5]
  have hfr := fun w' (h : Below w.heap.size w w') => Frame_any wt (167772161 + (a1 : Int)) (134744065 + (a2 : Int)) (5 + (p5 : Int)) 53 f L A m cap k w' ((hrt.below h).more h.size) hj2 hcm (by omega) (by omega) (by omega) (by omega) hk (by omega)
  unfold Gives at hfr
  obtain ⟨X, hX⟩ : ∃ X, X = frameL k (167772161 + (a1 : Int)) (134744065 + (a2 : Int)) (5 + (p5 : Int)) 53 f (L.take 40) := ⟨_, rfl⟩
  rw [← hX]
  simp only [← hX] at hfr
  clear hX hk ha1 ha2 hp5
  replace hfr := Lib.hid hfr
  go_enter Tryz.func12, Tryz.ntmps12
  go_upto_region 1 with fail
  have bn := Blk.new w 24 #[.bool true, .int .i64 wt, .int .i64 wo, .int .i64 po, .int .i64 f, .slice A len cap, .int .i64 be, .int .u8 0, .int .i64 ti]
  have bel := bel_alloc w (.cells #[.bool true, .int .i64 wt, .int .i64 wo, .int .i64 po, .int .i64 f, .slice A len cap, .int .i64 be, .int .u8 0, .int .i64 ti] 24)
  generalize w.alloc (.cells #[.bool true, .int .i64 wt, .int .i64 wo, .int .i64 po, .int .i64 f, .slice A len cap, .int .i64 be, .int .u8 0, .int .i64 ti] 24) = W at *
  have q2 := bn.cell 2
  go_region
  clear q2
  replace bn := bn.drew
  replace bel := bel.drew
  generalize W.drew = W1 at *
  go_upto_region 2 with fail
  have z0 : ∀ t : Tw (fun w' => Blk w' w.heap.size 24 #[.bool true, .int .i64 wt, .int .i64 wo, .int .i64 po, .int .i64 f, .slice A len cap, .int .i64 be, .int .u8 0, .int .i64 ti]), t.w.cell? ⟨w.heap.size, 0, none⟩ = some (.bool true) := fun t => t.h.cell 0
  have z1 : ∀ t : Tw (fun w' => Blk w' w.heap.size 24 #[.bool true, .int .i64 wt, .int .i64 wo, .int .i64 po, .int .i64 f, .slice A len cap, .int .i64 be, .int .u8 0, .int .i64 ti]), t.w.cell? ⟨w.heap.size, 1, none⟩ = some (.int .i64 wt) := fun t => t.h.cell 1
  have z2 : ∀ t : Tw (fun w' => Blk w' w.heap.size 24 #[.bool true, .int .i64 wt, .int .i64 wo, .int .i64 po, .int .i64 f, .slice A len cap, .int .i64 be, .int .u8 0, .int .i64 ti]), t.w.cell? ⟨w.heap.size, 2, none⟩ = some (.int .i64 wo) := fun t => t.h.cell 2
  have z3 : ∀ t : Tw (fun w' => Blk w' w.heap.size 24 #[.bool true, .int .i64 wt, .int .i64 wo, .int .i64 po, .int .i64 f, .slice A len cap, .int .i64 be, .int .u8 0, .int .i64 ti]), t.w.cell? ⟨w.heap.size, 3, none⟩ = some (.int .i64 po) := fun t => t.h.cell 3
  have z4 : ∀ t : Tw (fun w' => Blk w' w.heap.size 24 #[.bool true, .int .i64 wt, .int .i64 wo, .int .i64 po, .int .i64 f, .slice A len cap, .int .i64 be, .int .u8 0, .int .i64 ti]), t.w.cell? ⟨w.heap.size, 4, none⟩ = some (.int .i64 f) := fun t => t.h.cell 4
  have z5 : ∀ t : Tw (fun w' => Blk w' w.heap.size 24 #[.bool true, .int .i64 wt, .int .i64 wo, .int .i64 po, .int .i64 f, .slice A len cap, .int .i64 be, .int .u8 0, .int .i64 ti]), t.w.cell? ⟨w.heap.size, 5, none⟩ = some (.slice A len cap) := fun t => t.h.cell 5
  have ne : Nonempty (Tw (fun w' => Blk w' w.heap.size 24 #[.bool true, .int .i64 wt, .int .i64 wo, .int .i64 po, .int .i64 f, .slice A len cap, .int .i64 be, .int .u8 0, .int .i64 ti])) := ⟨⟨_, bn⟩⟩
  refine wp_region_plan (fun w' => Blk w' w.heap.size 24 #[.bool true, .int .i64 wt, .int .i64 wo, .int .i64 po, .int .i64 f, .slice A len cap, .int .i64 be, .int .u8 0, .int .i64 ti]) [(0, true), (1, true), (2, true), (3, true), (4, true), (5, true), (6, true), (7, true), (8, true), (9, true), (10, true), (11, true), (12, true), (13, true), (14, true), (15, true), (16, true), (17, true), (18, true), (19, true), (20, false), (21, false)] (by kernel_rfl) (by kernel_rfl) (by kernel_rfl) (by kernel_rfl) bn.drew ?_
  replace bn := bn.drew
  replace bel := bel.drew
  generalize W1.drew = W2 at *
  refine wpPl_qs 20 _ _ _ (by kernel_rfl) (by kernel_rfl) (by simp) ?_
  unfold clsS
  simp only [List.take_succ_cons, List.take_zero, List.drop_succ_cons, List.drop_zero, List.filterMap_cons, List.filterMap_nil, List.getElem?_toArray, List.getElem?_cons_zero, List.getElem?_cons_succ]
  repeat (first
    | go_big_quiet_skip
    | (go_big_quiet_want; go_big_quiet_op; go_big_quiet_on)
    | (refine id (?_ : wpQuiet _ _ _ _ (_ :: _) _); first | go_big_quiet_skip | (go_big_quiet_want; go_big_quiet_op; go_big_quiet_on)))
  refine wpQuiet_nil ?_
  clear z0 z1 z2 z3 z4 z5 hav hav2 hmn hj0 hj1
  refine wpPl_e _ (by rfl) (by kernel_rfl) (fun K hK => ?_)
  go_simp
  refine hK _ _ (bn.alloc _) ?_
  clear hK K
  refine wpPl_e _ (by rfl) (by kernel_rfl) (fun K hK => ?_)
  have hnl := bn.lt
  refine wp_stRow rfl rfl rfl rfl (Blk.new W2 _ _) sn_size rfl (by simp [Value.oneCell']) ?_
  refine hK _ _ ((bn.alloc _).setRow_far (by omega) _) ?_
  clear hK K ne
  unfold wpPl
  refine NoPanic.normal ?_
  have bx := (Blk.new W2 73 #[.int .i64 0, .int .u32 0, .int .u32 0, .int .u16 0, .int .u16 0, .int .i64 0, .slice none 0 0]).setRow #[.int .i64 wt, .int .u32 (167772161 + (a1 : Int)), .int .u32 (134744065 + (a2 : Int)), .int .u16 (5 + (p5 : Int)), .int .u16 53, .int .i64 f, .slice A m cap]
  have hbg : w.heap.size ≤ W2.heap.size := bel.size
  replace bn := (bn.alloc (.cells #[.int .i64 0, .int .u32 0, .int .u32 0, .int .u16 0, .int .u16 0, .int .i64 0, .slice none 0 0] 73)).setRow_far (g' := W2.heap.size) (by omega) #[.int .i64 wt, .int .u32 (167772161 + (a1 : Int)), .int .u32 (134744065 + (a2 : Int)), .int .u16 (5 + (p5 : Int)), .int .u16 53, .int .i64 f, .slice A m cap]
  replace bel := below_setRow (bel.alloc bel.size (.cells #[.int .i64 0, .int .u32 0, .int .u32 0, .int .u16 0, .int .u16 0, .int .i64 0, .slice none 0 0] 73)) bel.size #[.int .i64 wt, .int .u32 (167772161 + (a1 : Int)), .int .u32 (134744065 + (a2 : Int)), .int .u16 (5 + (p5 : Int)), .int .u16 53, .int .i64 f, .slice A m cap]
  generalize (W2.alloc (.cells #[.int .i64 0, .int .u32 0, .int .u32 0, .int .u16 0, .int .u16 0, .int .i64 0, .slice none 0 0] 73)).setRow W2.heap.size #[.int .i64 wt, .int .u32 (167772161 + (a1 : Int)), .int .u32 (134744065 + (a2 : Int)), .int .u16 (5 + (p5 : Int)), .int .u16 53, .int .i64 f, .slice A m cap] = W3 at *
  generalize W2.heap.size = g5 at *
  have q0 := bn.cell 0
  have q1 := bn.cell 1
  have q7 := bn.cell 7
  have hk7 : (k : Int) < 7 := by omega
  have d3 : ((k : Int) == 3) = false := by simp; omega
  have d6 : ((k : Int) == 6) = false := by simp; omega
  have hk' : k = 2 ∨ k ≠ 2 := by omega
  rcases hk' with hk0 | hk0
  · have d2 : ((k : Int) == 2) = true := by simp; omega
    replace hk0 := Lib.hid hk0
    go_wp2_with (refine wpList_ldRow rfl rfl rfl bx Tryz.underlying73 sn_size ?_)
    refine (hfr.out _ bel).mono ?_
    rintro e w1 ⟨v1, rfl, own1, bel1⟩
    replace own1 := own1.mono_ bel.size
    replace bn := bn.bel bel1
    replace bel := bel_after bel bel1
    clear bel1 bx hbg q0 q1 q7
    have q7 := bn.cell 7
    go_wp2
    go_ret
    exact ⟨_, rfl, own1, bel⟩
  · have d2 : ((k : Int) == 2) = false := by simp; omega
    replace hk0 := Lib.hid hk0
    go_wp2_with (refine wpList_ldRow rfl rfl rfl bx Tryz.underlying73 sn_size ?_)
    refine (hfr.out _ bel).mono ?_
    rintro e w1 ⟨v1, rfl, own1, bel1⟩
    replace own1 := own1.mono_ bel.size
    replace bn := bn.bel bel1
    replace bel := bel_after bel bel1
    clear bel1 bx hbg q0 q1 q7
    have q7 := bn.cell 7
    go_wp2
    go_ret
    exact ⟨_, rfl, own1, bel⟩
end Go.Proofs.YtbckoohljkmahaaGreat
namespace Go.Proofs.YtbckoohljkmahaaGreat
set_option linter.unusedVariables false
set_option linter.unusedSimpArgs false
open Go.RowKit
def partI (l : List Int) : Pt × Bool := if getE l = 0 then ((getR (hdIf l 0) l).2, (getR (hdIf l 0) l).1 == 0) else (Pt.z, false)
def PartT (w : World) (p : Pt × Bool) (e : Ending) (w' : World) : Prop := e = .returned (.tuple #[p.1.val, .bool p.2]) ∧ Below w.heap.size w w'
set_option maxRecDepth 100000 in
set_option maxHeartbeats 4000000 in
theorem rPart_any (l : List Int) (A : Option Addr) (len c : Nat) (w : World) (hr : Rd .u8 w w.heap.size A len l) (hlc : len ≤ c) (hcm : c ≤ 9223372036854775807) (hl : len ≤ 60000) :
    Calls Tryz.prog 24 #[.slice A len c] w (PartT w (partI l)) := by
  have k1 := fun W (h : Below w.heap.size w W) => rGet_any l false A len c _ W ((hr.below h).more h.size) (Nat.le_refl _) hlc hcm (by omega)
  rw [show getP l false = getE l from rfl] at k1
  unfold partI
  by_cases hE : getE l = 0
  · have hbb := frm_bdh (fun x hx => inr_u8 (hr.rng x hx)) hE
    rw [if_pos hE]
    rw [hE] at k1
    have k2 := fun W (h : Below w.heap.size w W) => rPGet_any (hdIf l 0) l A len c _ W ((hr.below h).more h.size) (Nat.le_refl _) hlc hcm (by omega) hbb.1 hbb.2
    generalize hdIf l 0 = H at *
    generalize getR H l = R at *
    obtain ⟨h0, h1, h2, h3, h4, h5⟩ := H
    obtain ⟨E, pr, sr, ds, fl, ki, co, er, ⟨isz, i1, i2, i3, i4, i5⟩, pat, ba⟩ := R
    simp only [PartT, Hd.val, Pt.val, Tells] at k1 k2 ⊢
    obtain ⟨ok, hok⟩ : ∃ ok, (E == 0) = ok := ⟨_, rfl⟩
    rw [hok]
    clear hbb hE hr
    replace k1 := Lib.hid k1
    replace k2 := Lib.hid k2
    go_enter Tryz.func24, Tryz.ntmps24
    go_upto_region 1 with fail
    have bk := Blk.new w 69 #[.int .i64 0, .int .u16 0, .int .u16 0, .int .i64 0, .int .i64 0, .int .i64 0, .bool false, .int .i64 0, .int .i64 0, .int .i64 0, .int .i64 0, .int .u32 0, .int .u32 0, .int .i64 0, .bool false]
    have bel := bel_alloc w (.cells #[.int .i64 0, .int .u16 0, .int .u16 0, .int .i64 0, .int .i64 0, .int .i64 0, .bool false, .int .i64 0, .int .i64 0, .int .i64 0, .int .i64 0, .int .u32 0, .int .u32 0, .int .i64 0, .bool false] 69)
    generalize w.alloc (.cells #[.int .i64 0, .int .u16 0, .int .u16 0, .int .i64 0, .int .i64 0, .int .i64 0, .bool false, .int .i64 0, .int .i64 0, .int .i64 0, .int .i64 0, .int .u32 0, .int .u32 0, .int .i64 0, .bool false] 69) = W1 at *
    go_wp2_with fail
    refine (k1.out _ bel).mono ?_
    rintro e w2 ⟨rfl, hb⟩
    replace bel := bel_after bel hb
    replace bk := bk.bel hb
    clear hb k1
    have hlt := bk.lt
    have bh := (Blk.new w2 67 #[.int .i64 0, .int .i64 0, .int .i64 0, .int .i64 0, .int .u32 0, .int .u32 0]).setRow #[.int .i64 h0, .int .i64 h1, .int .i64 h2, .int .i64 h3, .int .u32 h4, .int .u32 h5]
    replace bk := (bk.alloc (.cells #[.int .i64 0, .int .i64 0, .int .i64 0, .int .i64 0, .int .u32 0, .int .u32 0] 67)).setRow_far (g' := w2.heap.size) (by omega) #[.int .i64 h0, .int .i64 h1, .int .i64 h2, .int .i64 h3, .int .u32 h4, .int .u32 h5]
    replace bel := below_setRow (bel.alloc bel.size (.cells #[.int .i64 0, .int .i64 0, .int .i64 0, .int .i64 0, .int .u32 0, .int .u32 0] 67)) bel.size #[.int .i64 h0, .int .i64 h1, .int .i64 h2, .int .i64 h3, .int .u32 h4, .int .u32 h5]
    clear hlt
    go_wp2_with (first
      | (refine wpList_stRow rfl rfl rfl rfl rfl (Blk.new w2 _ _) rhd_size rfl (by simp [Value.oneCell']) ?_; generalize (w2.alloc (.cells #[.int .i64 0, .int .i64 0, .int .i64 0, .int .i64 0, .int .u32 0, .int .u32 0] 67)).setRow w2.heap.size #[.int .i64 h0, .int .i64 h1, .int .i64 h2, .int .i64 h3, .int .u32 h4, .int .u32 h5] = W4 at *; generalize w2.heap.size = gh at *)
      | (refine wpList_ldRow rfl rfl rfl bh Tryz.underlying67 rhd_size ?_))
    refine (k2.out _ bel).mono ?_
    rintro e w3 ⟨rfl, hb⟩
    replace bel := bel_after bel hb
    replace bk := bk.bel hb
    clear hb k2 bh
    have hlt := bk.lt
    have bp := (Blk.new w3 69 #[.int .i64 0, .int .u16 0, .int .u16 0, .int .i64 0, .int .i64 0, .int .i64 0, .bool false, .int .i64 0, .int .i64 0, .int .i64 0, .int .i64 0, .int .u32 0, .int .u32 0, .int .i64 0, .bool false]).setRow #[.int .i64 pr, .int .u16 sr, .int .u16 ds, .int .i64 fl, .int .i64 ki, .int .i64 co, .bool er, .int .i64 isz, .int .i64 i1, .int .i64 i2, .int .i64 i3, .int .u32 i4, .int .u32 i5, .int .i64 pat, .bool ba]
    replace bk := (bk.alloc (.cells #[.int .i64 0, .int .u16 0, .int .u16 0, .int .i64 0, .int .i64 0, .int .i64 0, .bool false, .int .i64 0, .int .i64 0, .int .i64 0, .int .i64 0, .int .u32 0, .int .u32 0, .int .i64 0, .bool false] 69)).setRow_far (g' := w3.heap.size) (by omega) #[.int .i64 pr, .int .u16 sr, .int .u16 ds, .int .i64 fl, .int .i64 ki, .int .i64 co, .bool er, .int .i64 isz, .int .i64 i1, .int .i64 i2, .int .i64 i3, .int .u32 i4, .int .u32 i5, .int .i64 pat, .bool ba]
    replace bel := below_setRow (bel.alloc bel.size (.cells #[.int .i64 0, .int .u16 0, .int .u16 0, .int .i64 0, .int .i64 0, .int .i64 0, .bool false, .int .i64 0, .int .i64 0, .int .i64 0, .int .i64 0, .int .u32 0, .int .u32 0, .int .i64 0, .bool false] 69)) bel.size #[.int .i64 pr, .int .u16 sr, .int .u16 ds, .int .i64 fl, .int .i64 ki, .int .i64 co, .bool er, .int .i64 isz, .int .i64 i1, .int .i64 i2, .int .i64 i3, .int .u32 i4, .int .u32 i5, .int .i64 pat, .bool ba]
    clear hlt
    go_upto_region 5 with (refine wpList_stRow rfl rfl rfl rfl rfl (Blk.new w3 _ _) rpt_size rfl (by simp [Value.oneCell']) ?_; generalize (w3.alloc (.cells #[.int .i64 0, .int .u16 0, .int .u16 0, .int .i64 0, .int .i64 0, .int .i64 0, .bool false, .int .i64 0, .int .i64 0, .int .i64 0, .int .i64 0, .int .u32 0, .int .u32 0, .int .i64 0, .bool false] 69)).setRow w3.heap.size #[.int .i64 pr, .int .u16 sr, .int .u16 ds, .int .i64 fl, .int .i64 ki, .int .i64 co, .bool er, .int .i64 isz, .int .i64 i1, .int .i64 i2, .int .i64 i3, .int .u32 i4, .int .u32 i5, .int .i64 pat, .bool ba] = W5 at *; generalize w3.heap.size = gp at *)
    go_wp2_with (first
      | (refine wpList_ldRow rfl rfl rfl bp Tryz.underlying69 rpt_size ?_)
      | (refine wpList_stRow rfl rfl rfl rfl rfl bk rpt_size rfl (by simp [Value.oneCell']) ?_))
    exact bodyPost_ret (results_row2 rfl _ rfl (bk.setRow _) Tryz.underlying69 rpt_size) rfl ⟨rfl, below_setRow bel (Nat.le_refl _) _⟩
  · rw [if_neg hE]
    have hz : hdIf l (getE l) = Hd.z := by unfold hdIf; rw [if_neg hE]
    rw [hz] at k1
    generalize getE l = E at *
    have d1 : (E != 0) = true := by simpa using hE
    have d2 : (E == 0) = false := by simpa using hE
    clear hE hr hz
    obtain ⟨h0, h1, h2, h3, h4, h5, hh⟩ : ∃ h0 h1 h2 h3 h4 h5 : Int, Hd.z = ⟨h0, h1, h2, h3, h4, h5⟩ := ⟨_, _, _, _, _, _, rfl⟩
    rw [hh] at k1
    clear hh
    simp only [PartT, Hd.val, Pt.val, Pt.z, Hd.z] at k1 ⊢
    replace k1 := Lib.hid k1
    go_enter Tryz.func24, Tryz.ntmps24
    go_upto_region 1 with fail
    have bk := Blk.new w 69 #[.int .i64 0, .int .u16 0, .int .u16 0, .int .i64 0, .int .i64 0, .int .i64 0, .bool false, .int .i64 0, .int .i64 0, .int .i64 0, .int .i64 0, .int .u32 0, .int .u32 0, .int .i64 0, .bool false]
    have bel := bel_alloc w (.cells #[.int .i64 0, .int .u16 0, .int .u16 0, .int .i64 0, .int .i64 0, .int .i64 0, .bool false, .int .i64 0, .int .i64 0, .int .i64 0, .int .i64 0, .int .u32 0, .int .u32 0, .int .i64 0, .bool false] 69)
    generalize w.alloc (.cells #[.int .i64 0, .int .u16 0, .int .u16 0, .int .i64 0, .int .i64 0, .int .i64 0, .bool false, .int .i64 0, .int .i64 0, .int .i64 0, .int .i64 0, .int .u32 0, .int .u32 0, .int .i64 0, .bool false] 69) = W1 at *
    go_wp2_with fail
    refine (k1.out _ bel).mono ?_
    rintro e w2 ⟨rfl, hb⟩
    replace bel := bel_after bel hb
    replace bk := bk.bel hb
    clear hb k1
    have hlt := bk.lt
    replace bk := (bk.alloc (.cells #[.int .i64 0, .int .i64 0, .int .i64 0, .int .i64 0, .int .u32 0, .int .u32 0] 67)).setRow_far (g' := w2.heap.size) (by omega) #[.int .i64 h0, .int .i64 h1, .int .i64 h2, .int .i64 h3, .int .u32 h4, .int .u32 h5]
    replace bel := below_setRow (bel.alloc bel.size (.cells #[.int .i64 0, .int .i64 0, .int .i64 0, .int .i64 0, .int .u32 0, .int .u32 0] 67)) bel.size #[.int .i64 h0, .int .i64 h1, .int .i64 h2, .int .i64 h3, .int .u32 h4, .int .u32 h5]
    clear hlt
    go_upto_region 3 with (refine wpList_stRow rfl rfl rfl rfl rfl (Blk.new w2 _ _) rhd_size rfl (by simp [Value.oneCell']) ?_; generalize (w2.alloc (.cells #[.int .i64 0, .int .i64 0, .int .i64 0, .int .i64 0, .int .u32 0, .int .u32 0] 67)).setRow w2.heap.size #[.int .i64 h0, .int .i64 h1, .int .i64 h2, .int .i64 h3, .int .u32 h4, .int .u32 h5] = W4 at *; generalize w2.heap.size = gh at *)
    go_wp2_with (refine wpList_stRow rfl rfl rfl rfl rfl bk rpt_size rfl (by simp [Value.oneCell']) ?_)
    exact bodyPost_ret (results_row2 rfl _ rfl (bk.setRow _) Tryz.underlying69 rpt_size) rfl ⟨rfl, below_setRow bel (Nat.le_refl _) _⟩
end Go.Proofs.YtbckoohljkmahaaGreat
namespace Go.Proofs.YtbckoohljkmahaaGreat
set_option linter.unusedVariables false
set_option linter.unusedSimpArgs false
open Go.RowKit
section
variable {k : Nat} {s d a b f : Int} {l : List Int}
theorem gotP_err : (gotP k a b f).err = false := by
  unfold gotP
  repeat' split
  all_goals rfl
theorem gotP_src : (gotP k a b f).src = a := by
  unfold gotP
  repeat' split
  all_goals rfl
theorem gotP_proto : (gotP k a b f).proto = carP k := by
  unfold gotP carP
  repeat' split
  all_goals rfl
theorem carP_kind (hk : k < 3) (po : Int) (c : Cf) (h : c.lo ≤ po ∧ po ≤ c.hi) : placeP c (carP k) po = kindP (carP k) * c.n + po - c.lo ∧ 0 ≤ kindP (carP k) ∧ kindP (carP k) ≤ 2 := by
  have h3 : k = 0 ∨ k = 1 ∨ k = 2 := by omega
  have hkp : 0 ≤ kindP (carP k) ∧ kindP (carP k) ≤ 2 := by rcases h3 with rfl | rfl | rfl <;> decide
  refine ⟨?_, hkp⟩
  unfold placeP
  rw [if_neg (by omega)]
theorem kindP_inj {p q : Int} (h : kindP p = kindP q) (h0 : 0 ≤ kindP p) : p = q := by
  unfold kindP at h h0
  repeat' split at h
  all_goals first | omega | (simp at h0; omega)
theorem placeP_inj {c : Cf} {p q x y : Int} (h : placeP c p x = placeP c q y) (h0 : 0 ≤ placeP c p x) : p = q ∧ x = y := by
  have hp := kindP_bd p
  have hq := kindP_bd q
  unfold placeP at h h0
  split at h
  · rename_i h1; rw [if_pos h1] at h0; omega
  rename_i h1
  rw [if_neg h1] at h0
  split at h
  · omega
  rename_i h2
  have e3 : kindP p = 0 ∨ kindP p = 1 ∨ kindP p = 2 := by omega
  have e4 : kindP q = 0 ∨ kindP q = 1 ∨ kindP q = 2 := by omega
  have hk : kindP p = kindP q := by
    have hn : c.n = c.hi - c.lo + 1 := rfl
    rcases e3 with e3 | e3 | e3 <;> rcases e4 with e4 | e4 | e4 <;> rw [e3, e4] at h ⊢ <;> omega
  refine ⟨kindP_inj hk (by omega), ?_⟩
  rw [hk] at h
  omega
theorem frame_hd (hs : 0 ≤ s ∧ s ≤ 4294967295) (hd : 0 ≤ d ∧ d ≤ 4294967295) (hn : l.length ≤ 40) : hdOf (frameL k s d a b f l) = ⟨20, (frameL k s d a b f l).length, 64, carP k, s, d⟩ := (frame_get hs hd hn).2
section
variable (hs : 0 ≤ s ∧ s ≤ 4294967295) (hd : 0 ≤ d ∧ d ≤ 4294967295) (ha : 0 ≤ a ∧ a ≤ 65535) (hb : 0 ≤ b ∧ b ≤ 65535) (hl : Bytes8 l) (hn : l.length ≤ 40) (hk : k < 4)
include hs hd ha hb hl hn hk
theorem frame_rw2 : rwE (frameL k s d a b f l) = 0 ∧ (getR (hdOf (frameL k s d a b f l)) (frameL k s d a b f l)).2 = gotP k a b f := by
  have h1 := (frame_get (k := k) (a := a) (b := b) (f := f) hs hd hn).1
  have h2 := frame_got (k := k) (f := f) hs hd ha hb hl hk
  have h3 := frame_hd (k := k) (a := a) (b := b) (f := f) hs hd hn
  refine ⟨?_, ?_⟩
  · unfold rwE; rw [if_neg (by simp [h1]), h3, h2]
  · rw [h3, h2]
theorem frame_rd : rdE (frameL k s d a b f l) = 0 ∧ rdH (frameL k s d a b f l) = ⟨20, (frameL k s d a b f l).length, 64, carP k, s, d⟩ ∧ rdP (frameL k s d a b f l) = gotP k a b f := by
  have h1 := (frame_get (k := k) (a := a) (b := b) (f := f) hs hd hn).1
  have h2 := frame_got (k := k) (f := f) hs hd ha hb hl hk
  have h3 := frame_hd (k := k) (a := a) (b := b) (f := f) hs hd hn
  have e : rdE (frameL k s d a b f l) = 0 := by unfold rdE; rw [if_pos h1, h3, h2]
  refine ⟨e, ?_, ?_⟩
  · unfold rdH; rw [if_pos e, h3]
  · unfold rdP; rw [if_pos e, h3, h2]
theorem frame_who (ou : Int) : whoP ou true (frameL k s d a b f l) = (⟨carP k, s, a⟩, 0) := by
  obtain ⟨h1, h2, h3⟩ := frame_rd (f := f) hs hd ha hb hl hn hk
  unfold whoP insF
  rw [if_neg (by simp [h1]), if_pos rfl, h2, h3, if_neg (by simp [gotP_err]), gotP_src]
theorem frame_begins (h : k < 3) (hf : k = 1 → f = 2) : begP true (frameL k s d a b f l) = true := by
  obtain ⟨h1, h2, h3⟩ := frame_rd (f := f) hs hd ha hb hl hn hk
  unfold begP
  rw [h1, h3, gotP_err]
  have h3 : k = 0 ∨ k = 1 ∨ k = 2 := by omega
  rcases h3 with rfl | rfl | rfl
  · rfl
  · rw [hf rfl]
    show (true && ((0 : Int) == 0) && !false && beginsS 6 0 2) = true
    decide +kernel
  · rfl
theorem frame_again (out : Bool) {ou po : Int} (h8 : Bytes8 (frameL k s d a b f l)) (hou : 0 ≤ ou ∧ ou ≤ 4294967295) (hpo : 0 ≤ po ∧ po ≤ 65535) : Again (frameL k s d a b f l) (rwL (frameL k s d a b f l) out ou po) ⟨20, (frameL k s d a b f l).length, 64, carP k, s, d⟩ (gotP k a b f) out ou po := by
  obtain ⟨h1, h2⟩ := frame_rw2 (f := f) hs hd ha hb hl hn hk
  have h3 := frame_hd (k := k) (a := a) (b := b) (f := f) hs hd hn
  have := rw_again h8 h1 out hou hpo
  rw [h2, h3] at this
  exact this
end
theorem part_again {X Y : List Int} {h : Hd} {p : Pt} {out : Bool} {x y : Int} (g : Again X Y h p out x y) : partI Y = (chP p out x y, true) := by
  unfold partI
  rw [if_pos g.getE]
  have e : hdIf Y 0 = hdOf Y := rfl
  rw [e, g.part]; rfl
theorem chP_plain {p : Pt} (h : p.err = false) (out : Bool) (x y : Int) : chP p out x y = chPorts p (p.proto == 1) out y := by unfold chP; rw [if_neg (by simp [h])]
theorem chP_src {p : Pt} (h : p.err = false) (x y : Int) : (chP p true x y).src = y ∧ (chP p true x y).err = false := by
  rw [chP_plain h]
  unfold chPorts
  exact ⟨by simp, h⟩
theorem chP_dst {p : Pt} (h : p.err = false) (x y : Int) : (chP p false x y).dst = y ∧ (chP p false x y).err = false := by
  rw [chP_plain h]
  unfold chPorts
  exact ⟨by simp, h⟩
theorem part_src {X Y : List Int} {h : Hd} {p : Pt} {x y : Int} (g : Again X Y h p true x y) (he : p.err = false) : ∃ q : Pt, partI Y = (q, true) ∧ q.src = y ∧ q.err = false := ⟨_, part_again g, chP_src he x y⟩
theorem nxt_first (hk : k < 3) (hf : k = 1 → f = 2) : nxt (carP k) 0 true (fb (gotP k a b f).flags 4) (fb (gotP k a b f).flags 1) (fb (gotP k a b f).flags 2) (fb (gotP k a b f).flags 16) = 0 := by
  have h3 : k = 0 ∨ k = 1 ∨ k = 2 := by omega
  rcases h3 with rfl | rfl | rfl
  · rfl
  · rw [hf rfl]
    show nxt 6 0 true (fb 2 4) (fb 2 1) (fb 2 2) (fb 2 16) = 0
    decide +kernel
  · rfl
section
variable (hs : 0 ≤ s ∧ s ≤ 4294967295) (hd : 0 ≤ d ∧ d ≤ 4294967295) (ha : 0 ≤ a ∧ a ≤ 65535) (hb : 0 ≤ b ∧ b ≤ 65535) (hl : Bytes8 l) (hn : l.length ≤ 40) (hk : k < 3)
include hs hd ha hb hl hn hk
theorem step_new (c : Cf) (L : List Bd) (ti po : Int) (hf : k = 1 → f = 2) (hti : 0 ≤ ti ∧ ti ≤ 4294967295) (hpo : 0 ≤ po) (hno : ofB ⟨carP k, s, a⟩ L = none) (hpl : 0 ≤ placeP c (carP k) po) (hat : atB c (placeP c (carP k) po) L = none) :
    stepP c L true (frameL k s d a b f l) ti po = (putB c ⟨⟨carP k, s, a⟩, po, 0, ti⟩ L, 0, rwL (frameL k s d a b f l) true c.ou po) := by
  have h1 := frame_who (f := f) hs hd ha hb hl hn (by omega : k < 4) c.ou
  have h2 := frame_begins (f := f) hs hd ha hb hl hn (by omega : k < 4) hk hf
  obtain ⟨_, _, h3⟩ := frame_rd (f := f) hs hd ha hb hl hn (by omega : k < 4)
  obtain ⟨h4, _⟩ := frame_rw2 (f := f) hs hd ha hb hl hn (by omega : k < 4)
  unfold stepP outS
  rw [if_neg (by omega), h1, if_neg (by simp), if_pos rfl, hno, h2, h3, h4]
  simp only
  rw [if_neg (by simp), if_neg (by omega), if_neg (by omega), if_neg (by rw [hat]; simp; omega), nxt_first hk hf]
theorem step_old (c : Cf) (L : List Bd) (x : Bd) (ti po : Int) (hti : 0 ≤ ti ∧ ti ≤ 4294967295) (hof : ofB ⟨carP k, s, a⟩ L = some x) :
    stepP c L true (frameL k s d a b f l) ti po = (putB c (seenB x (gotP k a b f) true ti) L, 0, rwL (frameL k s d a b f l) true c.ou x.po) := by
  have h1 := frame_who (f := f) hs hd ha hb hl hn (by omega : k < 4) c.ou
  obtain ⟨_, _, h3⟩ := frame_rd (f := f) hs hd ha hb hl hn (by omega : k < 4)
  obtain ⟨h4, _⟩ := frame_rw2 (f := f) hs hd ha hb hl hn (by omega : k < 4)
  unfold stepP outS
  rw [if_neg (by omega), h1, if_neg (by simp), if_pos rfl, hof, h3, h4]
  simp only
  rw [if_neg (by simp [gotP_err])]
end
end
end Go.Proofs.YtbckoohljkmahaaGreat
namespace Go.Proofs.YtbckoohljkmahaaGreat
set_option linter.unusedVariables false
set_option linter.unusedSimpArgs false
open Go.RowKit
theorem s15_size : (Tryz.prog.info? 24).map (·.size) = some 9 := by kernel_rfl
theorem arr9 {cs : Array Value} {x0 x1 x2 x3 x4 x5 x6 x7 x8 : Value} (h : cs.size = 9) (h0 : cs.toList[0]? = some x0) (h1 : cs.toList[1]? = some x1) (h2 : cs.toList[2]? = some x2) (h3 : cs.toList[3]? = some x3) (h4 : cs.toList[4]? = some x4) (h5 : cs.toList[5]? = some x5) (h6 : cs.toList[6]? = some x6) (h7 : cs.toList[7]? = some x7) (h8 : cs.toList[8]? = some x8) : cs = #[x0, x1, x2, x3, x4, x5, x6, x7, x8] := by
  obtain ⟨l⟩ := cs
  match l, h with
  | [y0, y1, y2, y3, y4, y5, y6, y7, y8], _ =>
    simp only [List.getElem?_cons_zero, List.getElem?_cons_succ, Option.some.injEq] at h0 h1 h2 h3 h4 h5 h6 h7 h8
    rw [h0, h1, h2, h3, h4, h5, h6, h7, h8]
theorem arg_s15 {W : World} {v : Value} (h : Arg Tryz.prog W 24 v) : ∃ (out : Bool) (wt wo po f be by_ ti : Int) (A : Option Addr) (len cap : Nat) (l : List Int), v = .agg #[.bool out, .int .i64 wt, .int .i64 wo, .int .i64 po, .int .i64 f, .slice A len cap, .int .i64 be, .int .u8 by_, .int .i64 ti] ∧
    (0 ≤ by_ ∧ by_ ≤ 255) ∧ len ≤ cap ∧ cap ≤ maxLen ∧ Rd .u8 W W.heap.size A len l := by
  obtain ⟨cs, m, rfl, hs, hf⟩ := arg_struct Tryz.underlying24 h
  have hC : Tryz.prog.cellsOf 24 = 9 := by kernel_rfl
  have hCi : Tryz.prog.cellsOf 3 = 1 := by kernel_rfl
  have hCl : Tryz.prog.cellsOf 4 = 1 := by kernel_rfl
  have hCb : Tryz.prog.cellsOf 5 = 1 := by kernel_rfl
  have hCs : Tryz.prog.cellsOf 22 = 1 := by kernel_rfl
  obtain ⟨x0, e0⟩ := fld_bool (i := 0) hf rfl Tryz.underlying4 hCl
  obtain ⟨x1, e1, _⟩ := fld_int (i := 1) hf rfl Tryz.underlying3 hCi
  obtain ⟨x2, e2, _⟩ := fld_int (i := 2) hf rfl Tryz.underlying3 hCi
  obtain ⟨x3, e3, _⟩ := fld_int (i := 3) hf rfl Tryz.underlying3 hCi
  obtain ⟨x4, e4, _⟩ := fld_int (i := 4) hf rfl Tryz.underlying3 hCi
  obtain ⟨A, len, cap, l, e5, h1, h2, h3⟩ := fld_ints (i := 5) hf rfl Tryz.underlying22 Tryz.underlying5 hCb hCs
  obtain ⟨x6, e6, _⟩ := fld_int (i := 6) hf rfl Tryz.underlying3 hCi
  obtain ⟨x7, e7, r7⟩ := fld_int (i := 7) hf rfl Tryz.underlying5 hCb
  obtain ⟨x8, e8, _⟩ := fld_int (i := 8) hf rfl Tryz.underlying3 hCi
  exact ⟨x0, x1, x2, x3, x4, x6, x7, x8, A, len, cap, l, by rw [arr9 (hs.trans hC) e0 e1 e2 e3 e4 e5 e6 e7 e8], inr_u8 r7, h1, h2, h3⟩
end Go.Proofs.YtbckoohljkmahaaGreat
namespace Go.Proofs.YtbckoohljkmahaaGreat
set_option linter.unusedVariables false
set_option linter.unusedSimpArgs false
open Go.RowKit
theorem Own.rdS {k : IntKind} {e : TypeId} {w : World} {base n c : Nat} {A : Option Addr} {l : List Int} (h : Own k e w base (.slice A n c) l) (hn : l.length = n) : Rd k w w.heap.size A n l := by
  obtain ⟨A', c', e1, _, _, hr⟩ := h.form hn
  simp only [Value.slice.injEq] at e1
  obtain ⟨rfl, _, rfl⟩ := e1
  exact hr
end Go.Proofs.YtbckoohljkmahaaGreat
namespace Go.Proofs.YtbckoohljkmahaaGreat
set_option linter.unusedVariables false
set_option linter.unusedSimpArgs false
open Go.RowKit
section
variable {c : Cf} {b b' : Bd}
theorem cutB_one : cutB c (keyB c b) [b] = [] := by simp [cutB]
theorem ofB_one : ofB b.fl [b] = some b := by simp [ofB]
theorem putB_nil : putB c b [] = [b] := rfl
theorem putB_one (h : keyB c b' = keyB c b) : putB c b' [b] = [b'] := by
  unfold putB
  rw [h, cutB_one]; rfl
theorem seenB_key (p : Pt) (o : Bool) (t : Int) : keyB c (seenB b p o t) = keyB c b := rfl
end
section
variable {k : Nat} {s d a b f : Int} {l : List Int}
theorem gotP_dst2 (hk : k < 2) : (gotP k a b f).dst = b := by
  have h : k = 0 ∨ k = 1 := by omega
  rcases h with rfl | rfl <;> rfl
section
variable (hs : 0 ≤ s ∧ s ≤ 4294967295) (hd : 0 ≤ d ∧ d ≤ 4294967295) (ha : 0 ≤ a ∧ a ≤ 65535) (hb : 0 ≤ b ∧ b ≤ 65535) (hl : Bytes8 l) (hn : l.length ≤ 40) (hk : k < 4)
include hs hd ha hb hl hn hk
theorem frame_back : whoP d false (frameL k s d a b f l) = (⟨carP k, d, (gotP k a b f).dst⟩, 0) := by
  obtain ⟨h1, h2, h3⟩ := frame_rd (f := f) hs hd ha hb hl hn hk
  unfold whoP outF
  rw [if_neg (by simp [h1]), if_neg (by simp), h2, h3]
  simp [gotP_err]
theorem step_back (c : Cf) (L : List Bd) (x : Bd) (ti po : Int) (hc : c.ou = d) (hti : 0 ≤ ti ∧ ti ≤ 4294967295) (hat : atB c (placeP c (carP k) (gotP k a b f).dst) L = some x) :
    stepP c L false (frameL k s d a b f l) ti po = (putB c (seenB x (gotP k a b f) false ti) L, 0, rwL (frameL k s d a b f l) false x.fl.ad x.fl.po) := by
  have h1 := frame_back (f := f) hs hd ha hb hl hn hk
  obtain ⟨_, _, h3⟩ := frame_rd (f := f) hs hd ha hb hl hn hk
  obtain ⟨h4, _⟩ := frame_rw2 (f := f) hs hd ha hb hl hn hk
  unfold stepP inS
  rw [if_neg (by omega), hc, h1, if_neg (by simp), if_neg (by simp)]
  simp only
  rw [hat, h3, h4]
  simp only
  rw [if_neg (by simp [gotP_err])]
end
end
end Go.Proofs.YtbckoohljkmahaaGreat
