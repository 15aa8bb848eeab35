/- What the laws' proofs lean on: plain facts and contracts of the program's functions, laid together (8). -/
import Derived.Test.YtbckoohljkmahaaGreatPa01
import Derived.Test.YtbckoohljkmahaaGreatPa02
import Derived.RegionTactic
import Derived.Deep.DeepCutAuto
import Derived.Deep.CutBlock
namespace Go.Proofs.YtbckoohljkmahaaGreat
set_option linter.unusedVariables false
set_option linter.unusedSimpArgs false
open Go.RowKit
theorem u16_shl_or_ (a b : Int) (h0 : 0 ≤ a ∧ a ≤ 255) (h1 : 0 ≤ b ∧ b ≤ 255) : bits .or .u16 (a * 256) b = a * 256 + b := by
  rw [u16_or _ _ (by omega) (by omega) (by omega) (by omega)]
  have : (a * 256).toNat ||| b.toNat = (a * 256).toNat + b.toNat := by
    have e : (a * 256).toNat = 2 ^ 8 * a.toNat := by omega
    rw [e, Nat.two_pow_add_eq_or_of_lt (by omega)]
  rw [this]; omega
/-- two bytes set -/
def put2 (l : List Int) (i : Nat) (v : Int) : List Int := (l.set i (v / 256)).set (i + 1) (v % 256)
theorem put2_len (l : List Int) (i : Nat) (v : Int) : (put2 l i v).length = l.length := by unfold put2; rw [List.length_set, List.length_set]
/-- a writer at gw: its bytes at g, whether it goes out -/
def Wr (W : World) (base gw g n c : Nat) (out : Bool) (X : List Int) : Prop :=
  Blk W gw 169 #[.slice (some ⟨g, 0, none⟩) n c, .bool out] ∧ Own .u8 5 W base (.slice (some ⟨g, 0, none⟩) n c) X ∧ X.length = n ∧ base ≤ g ∧ n ≤ 60000
set_option maxRecDepth 100000 in
set_option maxHeartbeats 1000000 in
theorem wget_any (base gw g n c : Nat) (out : Bool) (X : List Int) (i : Nat) (W : World) (h : Wr W base gw g n c out X) (hi : i + 2 ≤ n) :
    Calls Tryz.prog 125 #[.pointer (some ⟨gw, 0, none⟩), .int .i64 i] W fun e w' => e = .returned (.int .u16 (n2 X i)) ∧ Below W.heap.size W w' := by
  obtain ⟨hb, ho, hX, _, hn⟩ := h
  obtain ⟨c0, _, x0⟩ := ho.at_ hX (j := i) (by omega)
  obtain ⟨c1, _, x1⟩ := ho.at_ hX (j := i + 1) (by omega)
  rw [n2_eq _ _ (by omega)]
  replace x0 := inr_u8 x0
  replace x1 := inr_u8 x1
  generalize X.getD i 0 = a at *
  generalize X.getD (i + 1) 0 = b at *
  have hor := u16_shl_or_ a b x0 x1
  obtain ⟨i1, hj⟩ : ∃ i1, i + 1 = i1 := ⟨_, rfl⟩
  have hi1 : (i : Int) + 1 = (i1 : Int) := by omega
  have k0 : (0 : Int) ≤ (i : Int) := by omega
  have k1 : (i : Int) < (n : Int) := by omega
  have k2 : (0 : Int) ≤ (i1 : Int) := by omega
  have k3 : (i1 : Int) < (n : Int) := by omega
  rw [hj] at c1
  clear hj
  clear ho hX
  go_enter Tryz.func125, Tryz.ntmps125
  go_upto_region 1 with fail
  have F0 : ∀ t : Tw (fun w' => Below W.heap.size W w'), t.w.cell? ⟨gw, 0, none⟩ = some (.slice (some ⟨g, 0, none⟩) n c) := fun t => (hb.below t.h hb.lt).cell 0
  have F1 : ∀ t : Tw (fun w' => Below W.heap.size W w'), t.w.cell? ⟨g, i, none⟩ = some (.int .u8 a) := fun t => (t.h.cell (p := ⟨g, i, none⟩) (cell_lt c0)).trans c0
  have F2 : ∀ t : Tw (fun w' => Below W.heap.size W w'), t.w.cell? ⟨g, i1, none⟩ = some (.int .u8 b) := fun t => (t.h.cell (p := ⟨g, i1, none⟩) (cell_lt c1)).trans c1
  have : Nonempty (Tw (fun w' => Below W.heap.size W w')) := ⟨⟨_, Below.refl _ _⟩⟩
  clear c0 c1 hb
  refine region_tw (fun w' => Below (W).heap.size (W) w') (by kernel_rfl) (by kernel_rfl) (Below.refl _ _).drew ?_
  unfold clsS
  repeat (first
    | go_big_quiet_skip
    | (go_big_quiet_want; go_big_quiet_op; first | go_big_quiet_on | go_big_quiet_call (
      (first |(fail)))))
  refine wpQuiet_nil ?_
  intro tq
  go_wp2
  go_ret
  exact ⟨rfl, tq.h⟩
set_option maxRecDepth 100000 in
set_option maxHeartbeats 1000000 in
theorem wset_any (base gw g n c : Nat) (out : Bool) (X : List Int) (i : Nat) (v : Int) (W : World) (h : Wr W base gw g n c out X) (hi : i + 2 ≤ n) (hv : 0 ≤ v ∧ v ≤ 65535) :
    Calls Tryz.prog 124 #[.pointer (some ⟨gw, 0, none⟩), .int .i64 i, .int .u16 v] W fun e w' => e = .returned (.tuple #[]) ∧ Wr w' base gw g n c out (put2 X i v) ∧ Upd (fun k => k = g) W w' := by
  obtain ⟨hb, ho, hX, hg, hn⟩ := h
  have hne := ho.ne hb (by decide)
  obtain ⟨c0, f0, x0⟩ := ho.at_ hX (j := i) (by omega)
  have ho2 := ho.set hX i (x := v / 256) (u8_inr (by omega))
  have hX2 : (X.set i (v / 256)).length = n := by rw [List.length_set]; exact hX
  have ho3 := ho2.set hX2 (i + 1) (x := v % 256) (u8_inr (by omega))
  have hX3 : (put2 X i v).length = n := by rw [put2_len]; exact hX
  obtain ⟨c1, f1, x1⟩ := ho.at_ hX (j := i + 1) (by omega)
  obtain ⟨i1, hj⟩ : ∃ i1, i + 1 = i1 := ⟨_, rfl⟩
  have hi1 : (i : Int) + 1 = (i1 : Int) := by omega
  have k0 : (0 : Int) ≤ (i : Int) := by omega
  have k1 : (i : Int) < (n : Int) := by omega
  have k2 : (0 : Int) ≤ (i1 : Int) := by omega
  have k3 : (i1 : Int) < (n : Int) := by omega
  have hii : i ≠ i1 := by omega
  unfold put2 at hX3 ⊢
  rw [hj] at c1 f1 ho3 hX3 ⊢
  clear hj
  go_enter Tryz.func124, Tryz.ntmps124
  have q0 := hb.cell 0
  have z0 : ∀ t : Tw (fun w' => w'.cell? ⟨gw, 0, none⟩ = some (.slice (some ⟨g, 0, none⟩) n c)), t.w.cell? ⟨gw, 0, none⟩ = some (.slice (some ⟨g, 0, none⟩) n c) := fun t => t.h
  have ne : Nonempty (Tw (fun w' => w'.cell? ⟨gw, 0, none⟩ = some (.slice (some ⟨g, 0, none⟩) n c))) := ⟨⟨_, q0⟩⟩
  go_upto_region 0 with fail
  refine wp_region_plan (fun w' => w'.cell? ⟨gw, 0, none⟩ = some (.slice (some ⟨g, 0, none⟩) n c)) [(0, true), (1, true), (2, true), (3, true), (4, true), (5, true), (6, true), (7, true), (8, true), (9, true), (10, true), (11, true), (12, true), (13, true), (14, true), (15, true), (16, true), (17, false), (18, true), (19, false)] (by kernel_rfl) (by kernel_rfl) (by kernel_rfl) (by kernel_rfl) (hb.drew.cell 0) ?_
  replace c0 : W.drew.cell? ⟨g, i, none⟩ = _ := c0
  replace f0 : W.drew.frozen? ⟨g, i, none⟩ = _ := f0
  replace hb := hb.drew
  have bel : Upd (fun k => k = g) W W.drew := (Upd.refl _ W).drew
  replace ho3 : Own .u8 5 ((W.drew.setCell ⟨g, i, none⟩ (.int .u8 (v / 256))).setCell ⟨g, i1, none⟩ (.int .u8 (v % 256))) base (.slice (some ⟨g, 0, none⟩) n c) ((X.set i (v / 256)).set i1 (v % 256)) := by
    have h2 := (ho.drew.set hX i (x := v / 256) (u8_inr (by omega))).set hX2 i1 (x := v % 256) (u8_inr (by omega))
    exact h2
  obtain ⟨c1, f1, _⟩ := (ho.drew.set hX i (x := v / 256) (u8_inr (by omega))).at_ hX2 (j := i1) (by omega)
  clear ho ho2 q0
  generalize W.drew = W1 at *
  refine wpPl_qs 17 _ _ _ (by kernel_rfl) (by kernel_rfl) (by simp) ?_
  unfold clsS
  simp only [List.take_succ_cons, List.take_zero, List.drop_succ_cons, List.drop_zero, List.filterMap_cons, List.filterMap_nil, List.getElem?_toArray, List.getElem?_cons_zero, List.getElem?_cons_succ]
  repeat (first
    | go_big_quiet_skip
    | (go_big_quiet_want; go_big_quiet_op; go_big_quiet_on)
    | (refine id (?_ : wpQuiet _ _ _ _ (_ :: _) _); first | go_big_quiet_skip | (go_big_quiet_want; go_big_quiet_op; go_big_quiet_on)))
  refine wpQuiet_nil ?_
  clear z0
  refine wpPl_e _ (by rfl) (by kernel_rfl) (fun K hK => ?_)
  go_simp
  replace hb := hb.far (p := ⟨g, i, none⟩) hne (.int .u8 (v / 256))
  replace bel := bel.setCell (p := ⟨g, i, none⟩) (fun _ => rfl) (.int .u8 (v / 256))
  refine hK _ _ (hb.cell 0) ?_
  clear hK K c0 f0
  generalize W1.setCell ⟨g, i, none⟩ (.int .u8 (v / 256)) = W2 at *
  refine wpPl_qs 1 _ _ _ (by kernel_rfl) (by kernel_rfl) (by simp) ?_
  unfold clsS
  simp only [List.take_succ_cons, List.take_zero, List.drop_succ_cons, List.drop_zero, List.filterMap_cons, List.filterMap_nil, List.getElem?_toArray, List.getElem?_cons_zero, List.getElem?_cons_succ]
  repeat (first
    | go_big_quiet_skip
    | (go_big_quiet_want; go_big_quiet_op; go_big_quiet_on)
    | (refine id (?_ : wpQuiet _ _ _ _ (_ :: _) _); first | go_big_quiet_skip | (go_big_quiet_want; go_big_quiet_op; go_big_quiet_on)))
  refine wpQuiet_nil ?_
  refine wpPl_e _ (by rfl) (by kernel_rfl) (fun K hK => ?_)
  go_simp
  replace hb := hb.far (p := ⟨g, i1, none⟩) hne (.int .u8 (v % 256))
  replace bel := bel.setCell (p := ⟨g, i1, none⟩) (fun _ => rfl) (.int .u8 (v % 256))
  refine hK _ _ (hb.cell 0) ?_
  clear hK K c1 f1
  generalize W2.setCell ⟨g, i1, none⟩ (.int .u8 (v % 256)) = W3 at *
  unfold wpPl
  refine NoPanic.normal ?_
  go_wp2
  go_end0
  exact ⟨rfl, ⟨hb, ho3, hX3, hg, hn⟩, bel⟩
end Go.Proofs.YtbckoohljkmahaaGreat
namespace Go.Proofs.YtbckoohljkmahaaGreat
set_option linter.unusedVariables false
set_option linter.unusedSimpArgs false
open Go.RowKit
theorem Wr.bel {W W' : World} {base gw g n c : Nat} {out : Bool} {X : List Int} (h : Wr W base gw g n c out X) (hb : Below W.heap.size W W') : Wr W' base gw g n c out X :=
  ⟨h.1.bel hb, h.2.1.below hb, h.2.2⟩
def fixW (s o n : Int) : Int := fixOf (fixOf s (o / 65536) (n / 65536)) (o % 65536) (n % 65536)
def put4 (l : List Int) (i : Nat) (v : Int) : List Int := put2 (put2 l i (v / 65536)) (i + 2) (v % 65536)
theorem n4_of {l : List Int} {i : Nat} (h : i + 4 ≤ l.length) : n2 l i * 65536 + n2 l (i + 2) = n4 l i := by
  rw [n4_eq _ _ h, n2_eq _ _ (by omega), n2_eq _ _ (by omega), show i + 2 + 1 = i + 3 from rfl]; omega
theorem or32_ (a b : Int) (ha : 0 ≤ a ∧ a ≤ 65535) (hb : 0 ≤ b ∧ b ≤ 65535) : bits .or .u32 (a * 65536) b = a * 65536 + b := by
  rw [u32_or _ _ (by omega) (by omega) (by omega) (by omega)]
  have : (a * 65536).toNat ||| b.toNat = (a * 65536).toNat + b.toNat := by
    have e : (a * 65536).toNat = 2 ^ 16 * a.toNat := by omega
    rw [e, Nat.two_pow_add_eq_or_of_lt (by omega)]
  rw [this]; omega
theorem Wr.bd {W : World} {base gw g n c : Nat} {out : Bool} {X : List Int} (h : Wr W base gw g n c out X) : ∀ x, x ∈ X → 0 ≤ x ∧ x ≤ 255 := fun x hx => inr_u8 (h.2.1.rng x hx)
theorem Wr.len {W : World} {base gw g n c : Nat} {out : Bool} {X : List Int} (h : Wr W base gw g n c out X) : X.length = n := h.2.2.1
set_option maxRecDepth 100000 in
set_option maxHeartbeats 1000000 in
theorem wwide_any (base gw g n c : Nat) (out : Bool) (X : List Int) (i : Nat) (W : World) (h : Wr W base gw g n c out X) (hi : i + 4 ≤ n) :
    Calls Tryz.prog 121 #[.pointer (some ⟨gw, 0, none⟩), .int .i64 i] W fun e w' => e = .returned (.int .u32 (n4 X i)) ∧ Below W.heap.size W w' := by
  have hl := h.len
  have a1 := n2_bd h.bd (i := i) (by omega)
  have a2 := n2_bd h.bd (i := i + 2) (by omega)
  rw [← n4_of (by omega)]
  have hor := or32_ (n2 X i) (n2 X (i + 2)) a1 a2
  obtain ⟨j, hj⟩ : ∃ j, i + 2 = j := ⟨_, rfl⟩
  have hj2 : (i : Int) + 2 = (j : Int) := by omega
  have hn : n ≤ 60000 := h.2.2.2.2
  have g1 := fun W' (hb : Below W.heap.size W W') => wget_any base gw g n c out X i W' (h.bel hb) (by omega)
  have g2 := fun W' (hb : Below W.heap.size W W') => wget_any base gw g n c out X (i + 2) W' (h.bel hb) (by omega)
  rw [hj] at g2 hor a2 ⊢
  generalize n2 X i = a at *
  generalize n2 X j = b at *
  have hi60 : (i : Int) ≤ 60000 := by omega
  replace g1 := Lib.hid g1
  replace g2 := Lib.hid g2
  clear hj hl hi
  go_enter Tryz.func121, Tryz.ntmps121
  go_wp2_with fail
  refine (g1.out _ (Below.refl _ _)).mono ?_
  rintro e w1 ⟨rfl, hb1⟩
  go_wp2_with fail
  refine (g2.out _ hb1).mono ?_
  rintro e w2 ⟨rfl, hb2⟩
  go_wp2
  go_ret
  exact ⟨rfl, bel_after hb1 hb2⟩
end Go.Proofs.YtbckoohljkmahaaGreat
namespace Go.Proofs.YtbckoohljkmahaaGreat
set_option linter.unusedVariables false
set_option linter.unusedSimpArgs false
open Go.RowKit
theorem fixW_bd {s o n : Int} (hs : 0 ≤ s ∧ s ≤ 65535) (ho : 0 ≤ o ∧ o ≤ 4294967295) (hn : 0 ≤ n ∧ n ≤ 4294967295) : 0 ≤ fixW s o n ∧ fixW s o n ≤ 65535 :=
  fixOf_bd (fixOf_bd hs (o := o / 65536) (n := n / 65536) (by omega) (by omega)) (o := o % 65536) (n := n % 65536) (by omega) (by omega)
theorem put4_len (l : List Int) (i : Nat) (v : Int) : (put4 l i v).length = l.length := by unfold put4; rw [put2_len, put2_len]
/-- what a step of the writer leaves -/
def WStep (W : World) (base gw g n c : Nat) (out : Bool) (Y : List Int) (r : Value) (e : Ending) (w' : World) : Prop := e = .returned r ∧ Wr w' base gw g n c out Y ∧ Upd (fun k => k = g) W w'
set_option maxRecDepth 100000 in
set_option maxHeartbeats 1000000 in
theorem wsetWide_any (base gw g n c : Nat) (out : Bool) (X : List Int) (i : Nat) (v : Int) (W : World) (h : Wr W base gw g n c out X) (hi : i + 4 ≤ n) (hv : 0 ≤ v ∧ v ≤ 4294967295) :
    Calls Tryz.prog 122 #[.pointer (some ⟨gw, 0, none⟩), .int .i64 i, .int .u32 v] W (WStep W base gw g n c out (put4 X i v) (.tuple #[])) := by
  have hn : n ≤ 60000 := h.2.2.2.2
  have g1 := wset_any base gw g n c out X i (v / 65536) W h (by omega) (by omega)
  have g2 := fun W' (h' : Wr W' base gw g n c out (put2 X i (v / 65536))) => wset_any base gw g n c out (put2 X i (v / 65536)) (i + 2) (v % 65536) W' h' (by omega) (by omega)
  unfold put4
  obtain ⟨j, hj⟩ : ∃ j, i + 2 = j := ⟨_, rfl⟩
  have hj2 : (i : Int) + 2 = (j : Int) := by omega
  rw [hj] at g2 ⊢
  generalize put2 X i (v / 65536) = Y at *
  generalize put2 Y j (v % 65536) = Z at *
  have hi60 : (i : Int) ≤ 60000 := by omega
  replace g1 := Lib.hid g1
  replace g2 := Lib.hid g2
  clear hj hi h
  go_enter Tryz.func122, Tryz.ntmps122
  go_wp2_with fail
  refine g1.out.mono ?_
  rintro e w1 ⟨rfl, h1, b1⟩
  go_wp2_with fail
  refine (g2.out _ h1).mono ?_
  rintro e w2 ⟨rfl, h2, b2⟩
  go_wp2
  go_end0
  exact ⟨rfl, h2, b1.trans b2⟩
set_option maxRecDepth 100000 in
set_option maxHeartbeats 1000000 in
theorem wthere_any (base gw g n c : Nat) (out : Bool) (X : List Int) (i : Nat) (W : World) (h : Wr W base gw g n c out X) (hi : i ≤ 60000) :
    Calls Tryz.prog 127 #[.pointer (some ⟨gw, 0, none⟩), .int .i64 i] W fun e w' => e = .returned (.bool (decide (i + 2 ≤ n))) ∧ W = w' := by
  obtain ⟨hb, _, _, _, hn⟩ := h
  have q0 := hb.cell 0
  have hd : decide (((i : Int) + 2) ≤ (n : Int)) = decide (i + 2 ≤ n) := by congr 1; apply propext; omega
  generalize decide (i + 2 ≤ n) = B at *
  go_enter Tryz.func127, Tryz.ntmps127
  go_wp2
  go_ret
  exact ⟨rfl, rfl⟩
set_option maxRecDepth 100000 in
set_option maxHeartbeats 1000000 in
theorem wfix_any (base gw g n c : Nat) (out : Bool) (X : List Int) (i : Nat) (o v : Int) (W : World) (h : Wr W base gw g n c out X) (hi : i + 2 ≤ n) (ho : 0 ≤ o ∧ o ≤ 4294967295) (hv : 0 ≤ v ∧ v ≤ 4294967295) :
    Calls Tryz.prog 123 #[.pointer (some ⟨gw, 0, none⟩), .int .i64 i, .int .u32 o, .int .u32 v] W (WStep W base gw g n c out (put2 X i (fixW (n2 X i) o v)) (.tuple #[])) := by
  have hl := h.len
  have a1 := n2_bd h.bd (i := i) (by omega)
  have f1 := fixW_bd a1 ho hv
  have g1 := wget_any base gw g n c out X i W h hi
  have g2 := fun W' => FixWide_any (n2 X i) o v W' a1 ho hv
  have g3 := fun W' (hb : Below W.heap.size W W') => wset_any base gw g n c out X i (fixW (n2 X i) o v) W' (h.bel hb) hi f1
  have e1 : fixOf (fixOf (n2 X i) (o / 65536) (v / 65536)) (o % 65536) (v % 65536) = fixW (n2 X i) o v := rfl
  rw [e1] at g2
  have hbs : base ≤ W.heap.size := by have := h.2.1.lt g rfl; have := h.2.2.2.1; omega
  generalize fixW (n2 X i) o v = S at *
  generalize n2 X i = a at *
  replace g1 := Lib.hid g1
  replace g2 := Lib.hid g2
  replace g3 := Lib.hid g3
  clear e1 hl h
  go_enter Tryz.func123, Tryz.ntmps123
  go_wp2_with fail
  refine g1.out.mono ?_
  rintro e w1 ⟨rfl, b1⟩
  go_wp2_with fail
  refine (g2.out _).mono ?_
  rintro e w2 ⟨rfl, rfl⟩
  go_wp2_with fail
  refine (g3.out _ b1).mono ?_
  rintro e w3 ⟨rfl, h3, b3⟩
  go_wp2
  go_end0
  exact ⟨rfl, h3, (Upd.of_below b1 _).trans b3⟩
end Go.Proofs.YtbckoohljkmahaaGreat
namespace Go.Proofs.YtbckoohljkmahaaGreat
set_option linter.unusedVariables false
set_option linter.unusedSimpArgs false
open Go.RowKit
def addrAt (at_ : Nat) (src : Bool) : Nat := if src then at_ + 12 else at_ + 16
def addrL (l : List Int) (at_ : Nat) (src : Bool) (v : Int) : List Int :=
  put2 (put4 l (addrAt at_ src) v) (at_ + 10) (fixW (n2 (put4 l (addrAt at_ src) v) (at_ + 10)) (n4 l (addrAt at_ src)) v)
theorem addrL_len (l : List Int) (at_ : Nat) (src : Bool) (v : Int) : (addrL l at_ src v).length = l.length := by unfold addrL; rw [put2_len, put4_len]
theorem Wr.base_le {W : World} {base gw g n c : Nat} {out : Bool} {X : List Int} (h : Wr W base gw g n c out X) : base ≤ W.heap.size := by
  have := (h.2.1.lt g rfl).2; have := h.2.2.2.1; omega
set_option maxRecDepth 100000 in
set_option maxHeartbeats 1000000 in
theorem waddr_any (base gw g n c : Nat) (out : Bool) (X : List Int) (i : Nat) (src : Bool) (v : Int) (W : World) (h : Wr W base gw g n c out X) (hi : i + 20 ≤ n) (hv : 0 ≤ v ∧ v ≤ 4294967295) :
    Calls Tryz.prog 103 #[.pointer (some ⟨gw, 0, none⟩), .int .i64 i, .bool src, .int .u32 v] W (WStep W base gw g n c out (addrL X i src v) (.int .u32 (n4 X (addrAt i src)))) := by
  have hl := h.len
  have hn : n ≤ 60000 := h.2.2.2.2
  have hp : addrAt i src + 4 ≤ n := by unfold addrAt; split <;> omega
  have ho := n4_bd h.bd (i := addrAt i src) (by omega)
  have hbs := h.base_le
  have g1 := wwide_any base gw g n c out X (addrAt i src) W h hp
  have g2 := fun W' (hb : Below W.heap.size W W') => wsetWide_any base gw g n c out X (addrAt i src) v W' (h.bel hb) hp hv
  have g3 := fun W' (h' : Wr W' base gw g n c out (put4 X (addrAt i src) v)) => wfix_any base gw g n c out (put4 X (addrAt i src) v) (i + 10) (n4 X (addrAt i src)) v W' h' (by omega) ho hv
  unfold addrL
  obtain ⟨j, hj⟩ : ∃ j, i + 10 = j := ⟨_, rfl⟩
  have hj2 : (i : Int) + 10 = (j : Int) := by omega
  rw [hj] at g3 ⊢
  have hpl : (src = true → (i : Int) + 12 = (addrAt i src : Int)) ∧ (src = false → (i : Int) + 16 = (addrAt i src : Int)) := by
    unfold addrAt
    cases src
    · exact ⟨(fun h => by cases h), (fun _ => by simp)⟩
    · exact ⟨(fun _ => by simp), (fun h => by cases h)⟩
  generalize addrAt i src = p at *
  generalize put2 (put4 X p v) j (fixW (n2 (put4 X p v) j) (n4 X p) v) = Z at *
  generalize put4 X p v = Y at *
  generalize n4 X p = o at *
  have hi60 : (i : Int) ≤ 60000 := by omega
  replace g1 := Lib.hid g1
  replace g2 := Lib.hid g2
  replace g3 := Lib.hid g3
  clear hj hl h hi hp
  cases src with
  | true =>
    have hq := hpl.1 rfl
    clear hpl
    go_enter Tryz.func103, Tryz.ntmps103
    go_wp2_with fail
    refine g1.out.mono ?_
    rintro e w1 ⟨rfl, b1⟩
    go_wp2_with fail
    refine (g2.out _ b1).mono ?_
    rintro e w2 ⟨rfl, h2, b2⟩
    go_wp2_with fail
    refine (g3.out _ h2).mono ?_
    rintro e w3 ⟨rfl, h3, b3⟩
    go_wp2
    go_ret
    exact ⟨rfl, h3, ((Upd.of_below b1 _).trans b2).trans b3⟩
  | false =>
    have hq := hpl.2 rfl
    clear hpl
    go_enter Tryz.func103, Tryz.ntmps103
    go_wp2_with fail
    refine g1.out.mono ?_
    rintro e w1 ⟨rfl, b1⟩
    go_wp2_with fail
    refine (g2.out _ b1).mono ?_
    rintro e w2 ⟨rfl, h2, b2⟩
    go_wp2_with fail
    refine (g3.out _ h2).mono ?_
    rintro e w3 ⟨rfl, h3, b3⟩
    go_wp2
    go_ret
    exact ⟨rfl, h3, ((Upd.of_below b1 _).trans b2).trans b3⟩
def nevS (s : Int) : Int := if s = 0 then 65535 else s
def echoS (l : List Int) (i : Nat) (v : Int) : Int := nevS (fixOf (n2 (put2 l (i + 4) v) (i + 2)) (n2 l (i + 4)) v)
def echoW (l : List Int) (i : Nat) (v : Int) : List Int := put2 (put2 l (i + 4) v) (i + 2) (echoS l i v)
theorem nevS_bd {s : Int} (h : 0 ≤ s ∧ s ≤ 65535) : 0 ≤ nevS s ∧ nevS s ≤ 65535 := by unfold nevS; split <;> omega
set_option maxRecDepth 100000 in
set_option maxHeartbeats 1000000 in
theorem wecho_any (base gw g n c : Nat) (out : Bool) (X : List Int) (i : Nat) (v : Int) (W : World) (h : Wr W base gw g n c out X) (hi : i + 6 ≤ n) (hv : 0 ≤ v ∧ v ≤ 65535) :
    Calls Tryz.prog 105 #[.pointer (some ⟨gw, 0, none⟩), .int .i64 i, .int .u16 v] W (WStep W base gw g n c out (echoW X i v) (.tuple #[])) := by
  have hl := h.len
  have hn : n ≤ 60000 := h.2.2.2.2
  have hbs := h.base_le
  have a1 := n2_bd h.bd (i := i + 4) (by omega)
  have hY8 : ∀ x, x ∈ put2 X (i + 4) v → 0 ≤ x ∧ x ≤ 255 := fun x hx => by
    unfold put2 at hx
    rcases List.mem_or_eq_of_mem_set hx with h1 | h1
    · rcases List.mem_or_eq_of_mem_set h1 with h2 | h2
      · exact h.bd x h2
      · omega
    · omega
  have a2 := n2_bd hY8 (i := i + 2) (by rw [put2_len]; omega)
  have f1 := fixOf_bd a2 a1 hv
  have f2 := nevS_bd f1
  have g1 := wget_any base gw g n c out X (i + 4) W h (by omega)
  have g2 := fun W' (hb : Below W.heap.size W W') => wset_any base gw g n c out X (i + 4) v W' (h.bel hb) (by omega) hv
  have g3 := fun W' (h' : Wr W' base gw g n c out (put2 X (i + 4) v)) => wget_any base gw g n c out (put2 X (i + 4) v) (i + 2) W' h' (by omega)
  have g4 := fun W' => Fix_any (n2 (put2 X (i + 4) v) (i + 2)) (n2 X (i + 4)) v W' a2 a1 hv
  have g5 := fun W' (h' : Wr W' base gw g n c out (put2 X (i + 4) v)) => wset_any base gw g n c out (put2 X (i + 4) v) (i + 2) (nevS (fixOf (n2 (put2 X (i + 4) v) (i + 2)) (n2 X (i + 4)) v)) W' h' (by omega) f2
  unfold echoW echoS
  obtain ⟨j4, hj4⟩ : ∃ j, i + 4 = j := ⟨_, rfl⟩
  obtain ⟨j2, hj2⟩ : ∃ j, i + 2 = j := ⟨_, rfl⟩
  have e4 : (i : Int) + 4 = (j4 : Int) := by omega
  have e2 : (i : Int) + 2 = (j2 : Int) := by omega
  rw [hj4] at g1 g2 g4 ⊢
  rw [hj4, hj2] at g3 g5
  rw [hj2] at g4 ⊢
  rw [hj4] at f1 f2
  rw [hj2] at f1 f2
  generalize fixOf (n2 (put2 X j4 v) j2) (n2 X j4) v = S at *
  generalize put2 (put2 X j4 v) j2 (nevS S) = Z at *
  generalize n2 (put2 X j4 v) j2 = b at *
  generalize put2 X j4 v = Y at *
  generalize n2 X j4 = a at *
  have hi60 : (i : Int) ≤ 60000 := by omega
  clear hj2 hj4 hl h hi hY8 a1 a2
  replace g1 := Lib.hid g1
  replace g2 := Lib.hid g2
  replace g3 := Lib.hid g3
  replace g4 := Lib.hid g4
  by_cases hS : S = 0
  · have eS : nevS S = 65535 := by unfold nevS; rw [if_pos hS]
    rw [eS] at g5
    replace g5 := Lib.hid g5
    have d1 : (S == 0) = true := by simpa using hS
    clear f2 eS f1
    replace hS := Lib.hid hS
    go_enter Tryz.func105, Tryz.ntmps105
    go_wp2_with fail
    refine g1.out.mono ?_
    rintro e w1 ⟨rfl, b1⟩
    go_wp2_with fail
    refine (g2.out _ b1).mono ?_
    rintro e w2 ⟨rfl, h2, b2⟩
    go_wp2_with fail
    refine (g3.out _ h2).mono ?_
    rintro e w3 ⟨rfl, b3⟩
    have bs2 : base ≤ w2.heap.size := h2.base_le
    replace h2 := h2.bel b3
    go_wp2_with fail
    refine (g4.out _).mono ?_
    rintro e w4 ⟨rfl, rfl⟩
    go_wp2_with fail
    refine (g5.out _ h2).mono ?_
    rintro e w5 ⟨rfl, h5, b5⟩
    go_wp2
    go_end0
    exact ⟨rfl, h5, (((Upd.of_below b1 _).trans b2).trans (Upd.of_below b3 _)).trans b5⟩
  · have eS : nevS S = S := by unfold nevS; rw [if_neg hS]
    rw [eS] at g5
    replace g5 := Lib.hid g5
    have d1 : (S == 0) = false := by simpa using hS
    clear f2 eS
    replace hS := Lib.hid hS
    go_enter Tryz.func105, Tryz.ntmps105
    go_wp2_with fail
    refine g1.out.mono ?_
    rintro e w1 ⟨rfl, b1⟩
    go_wp2_with fail
    refine (g2.out _ b1).mono ?_
    rintro e w2 ⟨rfl, h2, b2⟩
    go_wp2_with fail
    refine (g3.out _ h2).mono ?_
    rintro e w3 ⟨rfl, b3⟩
    have bs2 : base ≤ w2.heap.size := h2.base_le
    replace h2 := h2.bel b3
    go_wp2_with fail
    refine (g4.out _).mono ?_
    rintro e w4 ⟨rfl, rfl⟩
    go_wp2_with fail
    refine (g5.out _ h2).mono ?_
    rintro e w5 ⟨rfl, h5, b5⟩
    go_wp2
    go_end0
    exact ⟨rfl, h5, (((Upd.of_below b1 _).trans b2).trans (Upd.of_below b3 _)).trans b5⟩
end Go.Proofs.YtbckoohljkmahaaGreat
namespace Go.Proofs.YtbckoohljkmahaaGreat
set_option linter.unusedVariables false
set_option linter.unusedSimpArgs false
open Go.RowKit
theorem put2_bd {X : List Int} (hX : ∀ x, x ∈ X → 0 ≤ x ∧ x ≤ 255) (i : Nat) {v : Int} (hv : 0 ≤ v ∧ v ≤ 65535) : ∀ x, x ∈ put2 X i v → 0 ≤ x ∧ x ≤ 255 := fun x hx => by
  unfold put2 at hx
  rcases List.mem_or_eq_of_mem_set hx with h1 | h1
  · rcases List.mem_or_eq_of_mem_set h1 with h2 | h2
    · exact hX x h2
    · omega
  · omega
def portAt (i : Nat) (src : Bool) : Nat := if src then i else i + 2
def sumAt (i : Nat) (udp : Bool) : Nat := if udp then i + 6 else i + 16
def carS (Y : List Int) (q : Nat) (udp : Bool) (was port o a : Int) : Int :=
  if udp = true ∧ fixOf (n2 (put2 Y q (fixW (n2 Y q) o a)) q) was port = 0 then 65535 else fixOf (n2 (put2 Y q (fixW (n2 Y q) o a)) q) was port
def carW (l : List Int) (i : Nat) (udp src : Bool) (port o a : Int) : List Int :=
  if l.length < sumAt i udp + 2 ∨ (udp = true ∧ n2 (put2 l (portAt i src) port) (sumAt i udp) = 0) then put2 l (portAt i src) port else
  put2 (put2 (put2 l (portAt i src) port) (sumAt i udp) (fixW (n2 (put2 l (portAt i src) port) (sumAt i udp)) o a)) (sumAt i udp)
    (carS (put2 l (portAt i src) port) (sumAt i udp) udp (n2 l (portAt i src)) port o a)
theorem carW_len (l : List Int) (i : Nat) (udp src : Bool) (port o a : Int) : (carW l i udp src port o a).length = l.length := by
  unfold carW
  split
  · rw [put2_len]
  · rw [put2_len, put2_len, put2_len]
set_option maxRecDepth 100000 in
set_option maxHeartbeats 1000000 in
theorem wcar_go (base gw g n c : Nat) (out : Bool) (X : List Int) (i p q : Nat) (proto : Int) (src : Bool) (port o a : Int) (W : World) (h : Wr W base gw g n c out X) (hi : i ≤ 50000) (hp : p + 2 ≤ n) (hq6 : q ≤ 60000) (hport : 0 ≤ port ∧ port ≤ 65535) (ho : 0 ≤ o ∧ o ≤ 4294967295) (ha : 0 ≤ a ∧ a ≤ 4294967295)
    (hpp : (if src then (i : Int) else (i : Int) + 2) = (p : Int)) (hqq : (if proto == 17 then (i : Int) + 6 else (i : Int) + 16) = (q : Int)) (Y : List Int) (hY : Y = put2 X p port) (Z : List Int)
    (hZ : Z = (if n < q + 2 ∨ ((proto == 17) = true ∧ n2 Y q = 0) then Y else put2 (put2 Y q (fixW (n2 Y q) o a)) q (carS Y q (proto == 17) (n2 X p) port o a))) :
    Calls Tryz.prog 106 #[.pointer (some ⟨gw, 0, none⟩), .int .i64 i, .int .i64 proto, .bool src, .int .u16 port, .int .u32 o, .int .u32 a] W (WStep W base gw g n c out Z (.tuple #[])) := by
  have hl := h.len
  have hbs := h.base_le
  have hn : n ≤ 60000 := h.2.2.2.2
  have hb1 := n2_bd h.bd (i := p) (by omega)
  have hY8 : ∀ x, x ∈ Y → 0 ≤ x ∧ x ≤ 255 := by rw [hY]; exact put2_bd h.bd p hport
  have hYl : Y.length = n := by rw [hY, put2_len]; exact hl
  have hY1b := fun (hq : q + 2 ≤ n) => fixW_bd (n2_bd hY8 (i := q) (by omega)) ho ha
  have cg1 := wget_any base gw g n c out X p W h hp
  have cs1 : ∀ w1, Wr w1 base gw g n c out X → Calls Tryz.prog 124 #[.pointer (some ⟨gw, 0, none⟩), .int .i64 p, .int .u16 port] w1 fun e w' => e = .returned (.tuple #[]) ∧ Wr w' base gw g n c out Y ∧ Upd (fun k => k = g) w1 w' := fun w1 h1 => by rw [hY]; exact wset_any base gw g n c out X p port w1 h1 hp hport
  have ct := fun w1 (h1 : Wr w1 base gw g n c out Y) => wthere_any base gw g n c out Y q w1 h1 hq6
  generalize n2 X p = was at *
  clear hY hl
  replace h := Lib.hid h
  replace cg1 := Lib.hid cg1
  replace cs1 := Lib.hid cs1
  by_cases hq : q + 2 ≤ n
  · rw [decide_eq_true hq] at ct
    replace ct := Lib.hid ct
    have cz := fun w1 (h1 : Wr w1 base gw g n c out Y) => wget_any base gw g n c out Y q w1 h1 hq
    have cf := fun w1 (h1 : Wr w1 base gw g n c out Y) => wfix_any base gw g n c out Y q o a w1 h1 hq ho ha
    have y1 := put2_bd hY8 q (hY1b hq)
    have y1l : (put2 Y q (fixW (n2 Y q) o a)).length = n := by rw [put2_len]; exact hYl
    unfold carS at hZ
    generalize put2 Y q (fixW (n2 Y q) o a) = Y1 at *
    have b2d := n2_bd y1 (i := q) (by omega)
    have cg2 := fun w1 (h1 : Wr w1 base gw g n c out Y1) => wget_any base gw g n c out Y1 q w1 h1 hq
    have cx := fun W' => Fix_any (n2 Y1 q) was port W' b2d hb1 hport
    have sbd := fixOf_bd b2d hb1 hport
    generalize fixOf (n2 Y1 q) was port = S at *
    have cs2 := fun v (hv : 0 ≤ v ∧ v ≤ 65535) w1 (h1 : Wr w1 base gw g n c out Y1) => wset_any base gw g n c out Y1 q v w1 h1 hq hv
    unfold WStep at cf ⊢
    generalize n2 Y q = z at *
    generalize n2 Y1 q = z1 at *
    clear y1 y1l hY8 hYl hY1b b2d hb1
    replace cz := Lib.hid cz
    replace cf := Lib.hid cf
    replace cg2 := Lib.hid cg2
    replace cx := Lib.hid cx
    by_cases hpr : proto = 17
    · subst hpr
      simp only [beq_self_eq_true, if_true, true_and] at hqq hZ
      by_cases hz : z = 0
      · rw [if_pos (.inr hz)] at hZ
        subst hZ hz
        cases src with
        | true =>
          simp only [if_true] at hpp
          obtain rfl : p = i := by omega
          clear hpp
          go_enter Tryz.func106, Tryz.ntmps106
          go_wp2_with fail
          refine (cg1.out).mono ?_
          rintro e w1 ⟨rfl, b1⟩
          go_wp2_with fail
          refine (cs1.out w1 (h.out.bel b1)).mono ?_
          rintro e w2 ⟨rfl, h2, b2⟩
          replace b2 := (Upd.of_below b1 _).trans b2
          clear b1
          go_wp2_with fail
          refine (ct.out w2 h2).mono ?_
          rintro e w3 ⟨rfl, rfl⟩
          go_wp2_with fail
          refine (cz.out w2 h2).mono ?_
          rintro e w4 ⟨rfl, b4⟩
          replace b2 := b2.trans (Upd.of_below b4 _)
          replace h2 := h2.bel b4
          clear b4
          go_wp2
          exact bodyPost_ret (results_none (by rfl) _ _ _) rfl ⟨rfl, h2, b2⟩
        | false =>
          simp only [Bool.false_eq_true, if_false] at hpp
          go_enter Tryz.func106, Tryz.ntmps106
          go_wp2_with fail
          refine (cg1.out).mono ?_
          rintro e w1 ⟨rfl, b1⟩
          go_wp2_with fail
          refine (cs1.out w1 (h.out.bel b1)).mono ?_
          rintro e w2 ⟨rfl, h2, b2⟩
          replace b2 := (Upd.of_below b1 _).trans b2
          clear b1
          go_wp2_with fail
          refine (ct.out w2 h2).mono ?_
          rintro e w3 ⟨rfl, rfl⟩
          go_wp2_with fail
          refine (cz.out w2 h2).mono ?_
          rintro e w4 ⟨rfl, b4⟩
          replace b2 := b2.trans (Upd.of_below b4 _)
          replace h2 := h2.bel b4
          clear b4
          go_wp2
          exact bodyPost_ret (results_none (by rfl) _ _ _) rfl ⟨rfl, h2, b2⟩
      · rw [if_neg (by omega)] at hZ
        have dz : (z == 0) = false := by simpa using hz
        by_cases hS : S = 0
        · rw [if_pos hS] at hZ
          replace cs2 := cs2 65535 (by omega)
          have dS : (S == 0) = true := by simpa using hS
          rw [← hZ] at cs2
          replace cs2 := Lib.hid cs2
          clear hz hS hZ sbd
          cases src with
          | true =>
            simp only [if_true] at hpp
            obtain rfl : p = i := by omega
            clear hpp
            go_enter Tryz.func106, Tryz.ntmps106
            go_wp2_with fail
            refine (cg1.out).mono ?_
            rintro e w1 ⟨rfl, b1⟩
            go_wp2_with fail
            refine (cs1.out w1 (h.out.bel b1)).mono ?_
            rintro e w2 ⟨rfl, h2, b2⟩
            replace b2 := (Upd.of_below b1 _).trans b2
            clear b1
            go_wp2_with fail
            refine (ct.out w2 h2).mono ?_
            rintro e w3 ⟨rfl, rfl⟩
            go_wp2_with fail
            refine (cz.out w2 h2).mono ?_
            rintro e w4 ⟨rfl, b4⟩
            replace b2 := b2.trans (Upd.of_below b4 _)
            replace h2 := h2.bel b4
            clear b4
            go_wp2_with fail
            refine (cf.out _ h2).mono ?_
            rintro e w5 ⟨rfl, h5, b5⟩
            replace b2 := b2.trans b5
            clear b5 h2
            go_wp2_with fail
            refine (cg2.out _ h5).mono ?_
            rintro e w6 ⟨rfl, b6⟩
            replace b2 := b2.trans (Upd.of_below b6 _)
            replace h5 := h5.bel b6
            clear b6
            go_wp2_with fail
            refine (cx.out _).mono ?_
            rintro e w7 ⟨rfl, rfl⟩
            go_wp2_with fail
            refine (cs2.out _ h5).mono ?_
            rintro e w8 ⟨rfl, h8, b8⟩
            go_wp2
            go_end0
            exact ⟨rfl, h8, b2.trans b8⟩
          | false =>
            simp only [Bool.false_eq_true, if_false] at hpp
            go_enter Tryz.func106, Tryz.ntmps106
            go_wp2_with fail
            refine (cg1.out).mono ?_
            rintro e w1 ⟨rfl, b1⟩
            go_wp2_with fail
            refine (cs1.out w1 (h.out.bel b1)).mono ?_
            rintro e w2 ⟨rfl, h2, b2⟩
            replace b2 := (Upd.of_below b1 _).trans b2
            clear b1
            go_wp2_with fail
            refine (ct.out w2 h2).mono ?_
            rintro e w3 ⟨rfl, rfl⟩
            go_wp2_with fail
            refine (cz.out w2 h2).mono ?_
            rintro e w4 ⟨rfl, b4⟩
            replace b2 := b2.trans (Upd.of_below b4 _)
            replace h2 := h2.bel b4
            clear b4
            go_wp2_with fail
            refine (cf.out _ h2).mono ?_
            rintro e w5 ⟨rfl, h5, b5⟩
            replace b2 := b2.trans b5
            clear b5 h2
            go_wp2_with fail
            refine (cg2.out _ h5).mono ?_
            rintro e w6 ⟨rfl, b6⟩
            replace b2 := b2.trans (Upd.of_below b6 _)
            replace h5 := h5.bel b6
            clear b6
            go_wp2_with fail
            refine (cx.out _).mono ?_
            rintro e w7 ⟨rfl, rfl⟩
            go_wp2_with fail
            refine (cs2.out _ h5).mono ?_
            rintro e w8 ⟨rfl, h8, b8⟩
            go_wp2
            go_end0
            exact ⟨rfl, h8, b2.trans b8⟩
        · rw [if_neg hS] at hZ
          replace cs2 := cs2 S sbd
          have dS : (S == 0) = false := by simpa using hS
          rw [← hZ] at cs2
          replace cs2 := Lib.hid cs2
          clear hz hS hZ sbd
          cases src with
          | true =>
            simp only [if_true] at hpp
            obtain rfl : p = i := by omega
            clear hpp
            go_enter Tryz.func106, Tryz.ntmps106
            go_wp2_with fail
            refine (cg1.out).mono ?_
            rintro e w1 ⟨rfl, b1⟩
            go_wp2_with fail
            refine (cs1.out w1 (h.out.bel b1)).mono ?_
            rintro e w2 ⟨rfl, h2, b2⟩
            replace b2 := (Upd.of_below b1 _).trans b2
            clear b1
            go_wp2_with fail
            refine (ct.out w2 h2).mono ?_
            rintro e w3 ⟨rfl, rfl⟩
            go_wp2_with fail
            refine (cz.out w2 h2).mono ?_
            rintro e w4 ⟨rfl, b4⟩
            replace b2 := b2.trans (Upd.of_below b4 _)
            replace h2 := h2.bel b4
            clear b4
            go_wp2_with fail
            refine (cf.out _ h2).mono ?_
            rintro e w5 ⟨rfl, h5, b5⟩
            replace b2 := b2.trans b5
            clear b5 h2
            go_wp2_with fail
            refine (cg2.out _ h5).mono ?_
            rintro e w6 ⟨rfl, b6⟩
            replace b2 := b2.trans (Upd.of_below b6 _)
            replace h5 := h5.bel b6
            clear b6
            go_wp2_with fail
            refine (cx.out _).mono ?_
            rintro e w7 ⟨rfl, rfl⟩
            go_wp2_with fail
            refine (cs2.out _ h5).mono ?_
            rintro e w8 ⟨rfl, h8, b8⟩
            go_wp2
            go_end0
            exact ⟨rfl, h8, b2.trans b8⟩
          | false =>
            simp only [Bool.false_eq_true, if_false] at hpp
            go_enter Tryz.func106, Tryz.ntmps106
            go_wp2_with fail
            refine (cg1.out).mono ?_
            rintro e w1 ⟨rfl, b1⟩
            go_wp2_with fail
            refine (cs1.out w1 (h.out.bel b1)).mono ?_
            rintro e w2 ⟨rfl, h2, b2⟩
            replace b2 := (Upd.of_below b1 _).trans b2
            clear b1
            go_wp2_with fail
            refine (ct.out w2 h2).mono ?_
            rintro e w3 ⟨rfl, rfl⟩
            go_wp2_with fail
            refine (cz.out w2 h2).mono ?_
            rintro e w4 ⟨rfl, b4⟩
            replace b2 := b2.trans (Upd.of_below b4 _)
            replace h2 := h2.bel b4
            clear b4
            go_wp2_with fail
            refine (cf.out _ h2).mono ?_
            rintro e w5 ⟨rfl, h5, b5⟩
            replace b2 := b2.trans b5
            clear b5 h2
            go_wp2_with fail
            refine (cg2.out _ h5).mono ?_
            rintro e w6 ⟨rfl, b6⟩
            replace b2 := b2.trans (Upd.of_below b6 _)
            replace h5 := h5.bel b6
            clear b6
            go_wp2_with fail
            refine (cx.out _).mono ?_
            rintro e w7 ⟨rfl, rfl⟩
            go_wp2_with fail
            refine (cs2.out _ h5).mono ?_
            rintro e w8 ⟨rfl, h8, b8⟩
            go_wp2
            go_end0
            exact ⟨rfl, h8, b2.trans b8⟩
    · have dp : (proto == 17) = false := by simpa using hpr
      rw [dp] at hqq hZ
      simp only [Bool.false_eq_true, if_false, false_and, or_false] at hqq hZ
      rw [if_neg (by omega)] at hZ
      replace cs2 := cs2 S sbd
      rw [← hZ] at cs2
      replace cs2 := Lib.hid cs2
      clear hpr hZ sbd
      cases src with
      | true =>
        simp only [if_true] at hpp
        obtain rfl : p = i := by omega
        clear hpp
        go_enter Tryz.func106, Tryz.ntmps106
        go_wp2_with fail
        refine (cg1.out).mono ?_
        rintro e w1 ⟨rfl, b1⟩
        go_wp2_with fail
        refine (cs1.out w1 (h.out.bel b1)).mono ?_
        rintro e w2 ⟨rfl, h2, b2⟩
        replace b2 := (Upd.of_below b1 _).trans b2
        clear b1
        go_wp2_with fail
        refine (ct.out w2 h2).mono ?_
        rintro e w3 ⟨rfl, rfl⟩
        go_wp2_with fail
        refine (cf.out _ h2).mono ?_
        rintro e w5 ⟨rfl, h5, b5⟩
        replace b2 := b2.trans b5
        clear b5 h2
        go_wp2_with fail
        refine (cg2.out _ h5).mono ?_
        rintro e w6 ⟨rfl, b6⟩
        replace b2 := b2.trans (Upd.of_below b6 _)
        replace h5 := h5.bel b6
        clear b6
        go_wp2_with fail
        refine (cx.out _).mono ?_
        rintro e w7 ⟨rfl, rfl⟩
        go_wp2_with fail
        refine (cs2.out _ h5).mono ?_
        rintro e w8 ⟨rfl, h8, b8⟩
        go_wp2
        go_end0
        exact ⟨rfl, h8, b2.trans b8⟩
      | false =>
        simp only [Bool.false_eq_true, if_false] at hpp
        go_enter Tryz.func106, Tryz.ntmps106
        go_wp2_with fail
        refine (cg1.out).mono ?_
        rintro e w1 ⟨rfl, b1⟩
        go_wp2_with fail
        refine (cs1.out w1 (h.out.bel b1)).mono ?_
        rintro e w2 ⟨rfl, h2, b2⟩
        replace b2 := (Upd.of_below b1 _).trans b2
        clear b1
        go_wp2_with fail
        refine (ct.out w2 h2).mono ?_
        rintro e w3 ⟨rfl, rfl⟩
        go_wp2_with fail
        refine (cf.out _ h2).mono ?_
        rintro e w5 ⟨rfl, h5, b5⟩
        replace b2 := b2.trans b5
        clear b5 h2
        go_wp2_with fail
        refine (cg2.out _ h5).mono ?_
        rintro e w6 ⟨rfl, b6⟩
        replace b2 := b2.trans (Upd.of_below b6 _)
        replace h5 := h5.bel b6
        clear b6
        go_wp2_with fail
        refine (cx.out _).mono ?_
        rintro e w7 ⟨rfl, rfl⟩
        go_wp2_with fail
        refine (cs2.out _ h5).mono ?_
        rintro e w8 ⟨rfl, h8, b8⟩
        go_wp2
        go_end0
        exact ⟨rfl, h8, b2.trans b8⟩
  · rw [decide_eq_false hq] at ct
    replace ct := Lib.hid ct
    rw [if_pos (.inl (by omega))] at hZ
    subst hZ
    clear hY1b
    unfold WStep
    by_cases hpr : proto = 17
    · subst hpr
      simp only [beq_self_eq_true, if_true] at hqq
      cases src with
      | true =>
        simp only [if_true] at hpp
        obtain rfl : p = i := by omega
        clear hpp
        go_enter Tryz.func106, Tryz.ntmps106
        go_wp2_with fail
        refine (cg1.out).mono ?_
        rintro e w1 ⟨rfl, b1⟩
        go_wp2_with fail
        refine (cs1.out w1 (h.out.bel b1)).mono ?_
        rintro e w2 ⟨rfl, h2, b2⟩
        replace b2 := (Upd.of_below b1 _).trans b2
        clear b1
        go_wp2_with fail
        refine (ct.out w2 h2).mono ?_
        rintro e w3 ⟨rfl, rfl⟩
        go_wp2
        exact bodyPost_ret (results_none (by rfl) _ _ _) rfl ⟨rfl, h2, b2⟩
      | false =>
        simp only [Bool.false_eq_true, if_false] at hpp
        go_enter Tryz.func106, Tryz.ntmps106
        go_wp2_with fail
        refine (cg1.out).mono ?_
        rintro e w1 ⟨rfl, b1⟩
        go_wp2_with fail
        refine (cs1.out w1 (h.out.bel b1)).mono ?_
        rintro e w2 ⟨rfl, h2, b2⟩
        replace b2 := (Upd.of_below b1 _).trans b2
        clear b1
        go_wp2_with fail
        refine (ct.out w2 h2).mono ?_
        rintro e w3 ⟨rfl, rfl⟩
        go_wp2
        exact bodyPost_ret (results_none (by rfl) _ _ _) rfl ⟨rfl, h2, b2⟩
    · have dp : (proto == 17) = false := by simpa using hpr
      rw [dp] at hqq
      simp only [Bool.false_eq_true, if_false] at hqq
      clear hpr
      cases src with
      | true =>
        simp only [if_true] at hpp
        obtain rfl : p = i := by omega
        clear hpp
        go_enter Tryz.func106, Tryz.ntmps106
        go_wp2_with fail
        refine (cg1.out).mono ?_
        rintro e w1 ⟨rfl, b1⟩
        go_wp2_with fail
        refine (cs1.out w1 (h.out.bel b1)).mono ?_
        rintro e w2 ⟨rfl, h2, b2⟩
        replace b2 := (Upd.of_below b1 _).trans b2
        clear b1
        go_wp2_with fail
        refine (ct.out w2 h2).mono ?_
        rintro e w3 ⟨rfl, rfl⟩
        go_wp2
        exact bodyPost_ret (results_none (by rfl) _ _ _) rfl ⟨rfl, h2, b2⟩
      | false =>
        simp only [Bool.false_eq_true, if_false] at hpp
        go_enter Tryz.func106, Tryz.ntmps106
        go_wp2_with fail
        refine (cg1.out).mono ?_
        rintro e w1 ⟨rfl, b1⟩
        go_wp2_with fail
        refine (cs1.out w1 (h.out.bel b1)).mono ?_
        rintro e w2 ⟨rfl, h2, b2⟩
        replace b2 := (Upd.of_below b1 _).trans b2
        clear b1
        go_wp2_with fail
        refine (ct.out w2 h2).mono ?_
        rintro e w3 ⟨rfl, rfl⟩
        go_wp2
        exact bodyPost_ret (results_none (by rfl) _ _ _) rfl ⟨rfl, h2, b2⟩
theorem wcar_any (base gw g n c : Nat) (out : Bool) (X : List Int) (i : Nat) (proto : Int) (src : Bool) (port o a : Int) (W : World) (h : Wr W base gw g n c out X) (hi : i + 4 ≤ n) (hport : 0 ≤ port ∧ port ≤ 65535) (ho : 0 ≤ o ∧ o ≤ 4294967295) (ha : 0 ≤ a ∧ a ≤ 4294967295) (hn5 : n ≤ 50000) :
    Calls Tryz.prog 106 #[.pointer (some ⟨gw, 0, none⟩), .int .i64 i, .int .i64 proto, .bool src, .int .u16 port, .int .u32 o, .int .u32 a] W (WStep W base gw g n c out (carW X i (proto == 17) src port o a) (.tuple #[])) := by
  refine wcar_go base gw g n c out X i (portAt i src) (sumAt i (proto == 17)) proto src port o a W h (by omega) ?_ ?_ hport ho ha ?_ ?_ _ rfl _ ?_
  · unfold portAt; split <;> omega
  · unfold sumAt; split <;> omega
  · unfold portAt; cases src <;> simp
  · unfold sumAt; cases (proto == 17) <;> simp
  · unfold carW; rw [h.len]
end Go.Proofs.YtbckoohljkmahaaGreat
namespace Go.Proofs.YtbckoohljkmahaaGreat
set_option linter.unusedVariables false
set_option linter.unusedSimpArgs false
open Go.RowKit
theorem fix_mod {s o n : Int} (hs : 0 ≤ s ∧ s ≤ 65535) (ho : 0 ≤ o ∧ o ≤ 65535) (hn : 0 ≤ n ∧ n ≤ 65535) : ∃ q : Int, fixOf s o n = s + o - n + 65535 * q := by
  unfold fixOf fo
  split
  · exact ⟨-1, by omega⟩
  · exact ⟨(65535 - s + (65535 - o) + n - 1) / 65535 - 1, by omega⟩
theorem fixW_mod {s o n : Int} (hs : 0 ≤ s ∧ s ≤ 65535) (ho : 0 ≤ o ∧ o ≤ 4294967295) (hn : 0 ≤ n ∧ n ≤ 4294967295) : ∃ q : Int, fixW s o n = s + (o / 65536 + o % 65536) - (n / 65536 + n % 65536) + 65535 * q := by
  unfold fixW
  obtain ⟨q1, h1⟩ := fix_mod hs (o := o / 65536) (n := n / 65536) (by omega) (by omega)
  have hb := fixOf_bd hs (o := o / 65536) (n := n / 65536) (by omega) (by omega)
  obtain ⟨q2, h2⟩ := fix_mod hb (o := o % 65536) (n := n % 65536) (by omega) (by omega)
  exact ⟨q1 + q2, by rw [h2, h1]; omega⟩
theorem getD_set_ne_ {l : List Int} {i j : Nat} {x : Int} (h : i ≠ j) : (l.set i x).getD j 0 = l.getD j 0 := by
  simp only [List.getD_eq_getElem?_getD, List.getElem?_set_ne h]
theorem sb_put2 (l : List Int) (i : Nat) (v : Int) (he : i % 2 = 0) (h : i + 2 ≤ l.length) : sb true (put2 l i v) = sb true l + (v - n2 l i) := by
  unfold put2
  rw [sb_set (l.set i (v / 256)) (i + 1) (v % 256) (by rw [List.length_set]; omega) true, sb_set l i (v / 256) (by omega) true, getD_set_ne_ (by omega), n2_eq l i h]
  have h1 : (i % 2 = 0) = (true = true) := by simp [he]
  have h2 : ¬ (((i + 1) % 2 = 0) = (true = true)) := by simp; omega
  rw [if_pos h1, if_neg h2]
  omega
theorem n2_put2_ne {l : List Int} {i j : Nat} {v : Int} (h : i + 2 ≤ j ∨ j + 2 ≤ i) (hj : j + 2 ≤ l.length) : n2 (put2 l i v) j = n2 l j := by
  rw [n2_eq _ _ (by rw [put2_len]; omega), n2_eq _ _ hj]
  unfold put2
  rw [getD_set_ne_ (by omega), getD_set_ne_ (by omega), getD_set_ne_ (by omega), getD_set_ne_ (by omega)]
theorem n2_put2 {l : List Int} {i : Nat} {v : Int} (h : i + 2 ≤ l.length) (hv : 0 ≤ v ∧ v ≤ 65535) : n2 (put2 l i v) i = v := by
  rw [n2_eq _ _ (by rw [put2_len]; omega)]
  unfold put2
  rw [getD_set_ne_ (by omega)]
  simp only [List.getD_eq_getElem?_getD]
  rw [List.getElem?_set_self (by omega), List.getElem?_set_self (by rw [List.length_set]; omega)]
  show v / 256 * 256 + v % 256 = v
  omega
/-- an address set: the words that change -/
theorem sb_put4 (l : List Int) (i : Nat) (v : Int) (he : i % 2 = 0) (h : i + 4 ≤ l.length) : sb true (put4 l i v) = sb true l + ((v / 65536 + v % 65536) - (n2 l i + n2 l (i + 2))) := by
  unfold put4
  rw [sb_put2 _ _ _ (by omega) (by rw [put2_len]; omega), sb_put2 _ _ _ he (by omega), n2_put2_ne (by omega) (by omega)]
  omega
/-- an address changed and the head's sum mended: the sum stays what it was, modulo 65535 -/
theorem sb_addr (l : List Int) (i : Nat) (src : Bool) (v : Int) (he : i % 2 = 0) (h : i + 20 ≤ l.length) (hl : ∀ x, x ∈ l → 0 ≤ x ∧ x ≤ 255) (hv : 0 ≤ v ∧ v ≤ 4294967295) : ∃ q : Int, sb true (addrL l i src v) = sb true l + 65535 * q := by
  have hp : addrAt i src + 4 ≤ l.length ∧ addrAt i src % 2 = 0 ∧ i + 12 ≤ addrAt i src := by
    unfold addrAt
    cases src <;> simp <;> omega
  unfold addrL
  generalize addrAt i src = p at *
  have h0 : n2 (put4 l p v) (i + 10) = n2 l (i + 10) := by
    unfold put4
    rw [n2_put2_ne (by omega) (by rw [put2_len]; omega), n2_put2_ne (by omega) (by omega)]
  have hb := n2_bd hl (i := i + 10) (by omega)
  have h4 := n4_bd hl (i := p) (by omega)
  have a1 := n2_bd hl (i := p) (by omega)
  have a2 := n2_bd hl (i := p + 2) (by omega)
  have e4 := n4_of (l := l) (i := p) (by omega)
  rw [h0]
  obtain ⟨q, hq⟩ := fixW_mod (s := n2 l (i + 10)) (o := n4 l p) (n := v) hb h4 hv
  refine ⟨q, ?_⟩
  rw [sb_put2 _ _ _ (by omega) (by rw [put4_len]; omega), h0, sb_put4 _ _ _ (by omega) (by omega), hq]
  have d1 : n4 l p / 65536 = n2 l p := by omega
  have d2 : n4 l p % 65536 = n2 l (p + 2) := by omega
  rw [d1, d2]
  omega
end Go.Proofs.YtbckoohljkmahaaGreat
namespace Go.Proofs.YtbckoohljkmahaaGreat
set_option linter.unusedVariables false
set_option linter.unusedSimpArgs false
open Go.RowKit
theorem nevS_mod (s : Int) : ∃ q : Int, nevS s = s + 65535 * q := by
  unfold nevS
  split
  · exact ⟨1, by omega⟩
  · exact ⟨0, by omega⟩
/-- an echo's number changed and its sum mended -/
theorem sb_echo (l : List Int) (i : Nat) (v : Int) (he : i % 2 = 0) (h : i + 6 ≤ l.length) (hl : ∀ x, x ∈ l → 0 ≤ x ∧ x ≤ 255) (hv : 0 ≤ v ∧ v ≤ 65535) : ∃ q : Int, sb true (echoW l i v) = sb true l + 65535 * q := by
  have h0 : n2 (put2 l (i + 4) v) (i + 2) = n2 l (i + 2) := n2_put2_ne (by omega) (by omega)
  have a1 := n2_bd hl (i := i + 4) (by omega)
  have a2 := n2_bd hl (i := i + 2) (by omega)
  unfold echoW echoS
  rw [h0]
  obtain ⟨q1, h1⟩ := fix_mod a2 a1 hv
  obtain ⟨q2, h2⟩ := nevS_mod (fixOf (n2 l (i + 2)) (n2 l (i + 4)) v)
  refine ⟨q1 + q2, ?_⟩
  rw [sb_put2 _ _ _ (by omega) (by rw [put2_len]; omega), h0, sb_put2 _ _ _ (by omega) (by omega), h2, h1]
  omega
/-- a port changed and the sum, which is there, mended by it and by the address: the sum changes as the words of the address in the pseudo head do -/
theorem sb_car (l : List Int) (i : Nat) (udp src : Bool) (port o a : Int) (he : i % 2 = 0) (h : sumAt i udp + 2 ≤ l.length) (hl : ∀ x, x ∈ l → 0 ≤ x ∧ x ≤ 255) (hp : 0 ≤ port ∧ port ≤ 65535) (ho : 0 ≤ o ∧ o ≤ 4294967295) (ha : 0 ≤ a ∧ a ≤ 4294967295)
    (hz : ¬ (udp = true ∧ n2 l (sumAt i udp) = 0)) : ∃ q : Int, sb true (carW l i udp src port o a) = sb true l + (o / 65536 + o % 65536) - (a / 65536 + a % 65536) + 65535 * q := by
  have hpq : portAt i src + 2 ≤ sumAt i udp ∧ portAt i src % 2 = 0 ∧ sumAt i udp % 2 = 0 := by
    unfold portAt sumAt
    cases src <;> cases udp <;> simp <;> omega
  unfold carW
  generalize portAt i src = p at *
  generalize sumAt i udp = q at *
  have h0 : n2 (put2 l p port) q = n2 l q := n2_put2_ne (by omega) (by omega)
  rw [h0, if_neg (by intro e; rcases e with e | e; omega; exact hz e)]
  have b1 := n2_bd hl (i := p) (by omega)
  have b2 := n2_bd hl (i := q) (by omega)
  have w1 := fixW_bd b2 ho ha
  obtain ⟨k1, e1⟩ := fixW_mod b2 ho ha
  have h1 : n2 (put2 (put2 l p port) q (fixW (n2 l q) o a)) q = fixW (n2 l q) o a := n2_put2 (by rw [put2_len]; omega) w1
  have hS : ∃ k : Int, carS (put2 l p port) q udp (n2 l p) port o a = fixW (n2 l q) o a + n2 l p - port + 65535 * k := by
    unfold carS
    rw [h0, h1]
    obtain ⟨k2, e2⟩ := fix_mod w1 b1 hp
    split
    · rename_i hc
      have := hc.2
      exact ⟨k2 + 1, by omega⟩
    · exact ⟨k2, by omega⟩
  obtain ⟨k, hk⟩ := hS
  refine ⟨k1 + k, ?_⟩
  rw [sb_put2 _ _ _ (by omega) (by rw [put2_len, put2_len]; omega), h1, sb_put2 _ _ _ (by omega) (by rw [put2_len]; omega), h0, sb_put2 _ _ _ (by omega) (by omega), hk, e1]
  omega
end Go.Proofs.YtbckoohljkmahaaGreat
namespace Go.Proofs.YtbckoohljkmahaaGreat
set_option linter.unusedVariables false
set_option linter.unusedSimpArgs false
open Go.RowKit
theorem put2_far {l : List Int} {i j : Nat} {v : Int} (h1 : j ≠ i) (h2 : j ≠ i + 1) : (put2 l i v).getD j 0 = l.getD j 0 := by
  unfold put2; rw [getD_set_ne_ (by omega), getD_set_ne_ (by omega)]
theorem put4_far {l : List Int} {i j : Nat} {v : Int} (h : j < i ∨ i + 4 ≤ j) : (put4 l i v).getD j 0 = l.getD j 0 := by
  unfold put4; rw [put2_far (by omega) (by omega), put2_far (by omega) (by omega)]
theorem addrL_far {l : List Int} {i j : Nat} {src : Bool} {v : Int} (h1 : j < addrAt i src ∨ addrAt i src + 4 ≤ j) (h2 : j ≠ i + 10) (h3 : j ≠ i + 11) : (addrL l i src v).getD j 0 = l.getD j 0 := by
  unfold addrL; rw [put2_far (by omega) (by omega), put4_far h1]
theorem echoW_far {l : List Int} {i j : Nat} {v : Int} (h : j < i + 2 ∨ i + 6 ≤ j) : (echoW l i v).getD j 0 = l.getD j 0 := by
  unfold echoW; rw [put2_far (by omega) (by omega), put2_far (by omega) (by omega)]
theorem carW_far {l : List Int} {i j : Nat} {udp src : Bool} {port o a : Int} (h1 : j ≠ portAt i src) (h2 : j ≠ portAt i src + 1) (h3 : j ≠ sumAt i udp) (h4 : j ≠ sumAt i udp + 1) : (carW l i udp src port o a).getD j 0 = l.getD j 0 := by
  unfold carW
  split
  · rw [put2_far h1 h2]
  · rw [put2_far h3 h4, put2_far h3 h4, put2_far h1 h2]
theorem put4_n4 {l : List Int} {i : Nat} {v : Int} (h : i + 4 ≤ l.length) (hv : 0 ≤ v ∧ v ≤ 4294967295) : n4 (put4 l i v) i = v := by
  rw [← n4_of (by rw [put4_len]; omega)]
  unfold put4
  rw [n2_put2_ne (by omega) (by rw [put2_len]; omega), n2_put2 (by omega) (by omega), n2_put2 (by rw [put2_len]; omega) (by omega)]
  omega
theorem addrL_n4 {l : List Int} {i : Nat} {src : Bool} {v : Int} (h : i + 20 ≤ l.length) (hv : 0 ≤ v ∧ v ≤ 4294967295) : n4 (addrL l i src v) (addrAt i src) = v := by
  have hp : addrAt i src + 4 ≤ l.length ∧ i + 12 ≤ addrAt i src := by
    unfold addrAt
    cases src <;> simp <;> omega
  unfold addrL
  generalize addrAt i src = p at *
  rw [← n4_of (by rw [put2_len, put4_len]; omega), n2_put2_ne (by omega) (by rw [put4_len]; omega), n2_put2_ne (by omega) (by rw [put4_len]; omega), n4_of (by rw [put4_len]; omega), put4_n4 (by omega) hv]
end Go.Proofs.YtbckoohljkmahaaGreat
namespace Go.Proofs.YtbckoohljkmahaaGreat
set_option linter.unusedVariables false
set_option linter.unusedSimpArgs false
open Go.RowKit
theorem put2_left {A B : List Int} {i : Nat} {v : Int} (h : i + 2 ≤ A.length) : put2 (A ++ B) i v = put2 A i v ++ B := by
  unfold put2
  rw [List.set_append_left _ _ (by omega), List.set_append_left _ _ (by rw [List.length_set]; omega)]
theorem put2_right (A B : List Int) (j : Nat) (v : Int) : put2 (A ++ B) (A.length + j) v = A ++ put2 B j v := by
  unfold put2
  rw [List.set_append_right _ _ (by omega), List.set_append_right _ _ (by omega), show A.length + j - A.length = j by omega, show A.length + j + 1 - A.length = j + 1 by omega]
theorem getD_left {A B : List Int} {i : Nat} (h : i < A.length) : (A ++ B).getD i 0 = A.getD i 0 := by
  simp only [List.getD_eq_getElem?_getD, List.getElem?_append_left h]
theorem getD_right (A B : List Int) (j : Nat) : (A ++ B).getD (A.length + j) 0 = B.getD j 0 := by
  simp only [List.getD_eq_getElem?_getD, List.getElem?_append_right (show A.length ≤ A.length + j by omega), show A.length + j - A.length = j by omega]
theorem seg_right (A B : List Int) (j n : Nat) : seg (A ++ B) (A.length + j) n = seg B j n := by
  unfold seg
  rw [List.drop_append, List.drop_of_length_le (by omega), List.nil_append, show A.length + j - A.length = j by omega]
theorem n2_right (A B : List Int) (j : Nat) : n2 (A ++ B) (A.length + j) = n2 B j := by unfold n2; rw [seg_right]
theorem n4_right (A B : List Int) (j : Nat) : n4 (A ++ B) (A.length + j) = n4 B j := by unfold n4; rw [seg_right]
theorem n2_left {A B : List Int} {i : Nat} (h : i + 2 ≤ A.length) : n2 (A ++ B) i = n2 A i := by
  rw [n2_eq _ _ (by rw [List.length_append]; omega), n2_eq _ _ h, getD_left (by omega), getD_left (by omega)]
theorem n4_left {A B : List Int} {i : Nat} (h : i + 4 ≤ A.length) : n4 (A ++ B) i = n4 A i := by
  rw [n4_eq _ _ (by rw [List.length_append]; omega), n4_eq _ _ h, getD_left (by omega), getD_left (by omega), getD_left (by omega), getD_left (by omega)]
theorem put4_left {A B : List Int} {i : Nat} {v : Int} (h : i + 4 ≤ A.length) : put4 (A ++ B) i v = put4 A i v ++ B := by
  unfold put4
  rw [put2_left (by omega), put2_left (by rw [put2_len]; omega)]
theorem put4_right (A B : List Int) (j : Nat) (v : Int) : put4 (A ++ B) (A.length + j) v = A ++ put4 B j v := by
  unfold put4
  rw [put2_right, show A.length + j + 2 = A.length + (j + 2) by omega, put2_right]
theorem addrAt_bd (i : Nat) (src : Bool) : addrAt i src = i + 12 ∨ addrAt i src = i + 16 := by unfold addrAt; cases src <;> simp
theorem addrL_left {A B : List Int} {i : Nat} {src : Bool} {v : Int} (h : i + 20 ≤ A.length) : addrL (A ++ B) i src v = addrL A i src v ++ B := by
  have := addrAt_bd i src
  unfold addrL
  rw [put4_left (by omega), n2_left (by rw [put4_len]; omega), n4_left (by omega), put2_left (by rw [put4_len]; omega)]
theorem addrAt_add (a i : Nat) (src : Bool) : addrAt (a + i) src = a + addrAt i src := by unfold addrAt; cases src <;> simp <;> omega
theorem addrL_right (A B : List Int) (i : Nat) (src : Bool) (v : Int) : addrL (A ++ B) (A.length + i) src v = A ++ addrL B i src v := by
  unfold addrL
  rw [addrAt_add, put4_right, n4_right, show A.length + i + 10 = A.length + (i + 10) by omega, n2_right, put2_right]
theorem echoW_right (A B : List Int) (i : Nat) (v : Int) : echoW (A ++ B) (A.length + i) v = A ++ echoW B i v := by
  unfold echoW echoS
  rw [show A.length + i + 4 = A.length + (i + 4) by omega, show A.length + i + 2 = A.length + (i + 2) by omega, put2_right, n2_right, n2_right, put2_right]
theorem portAt_add (a i : Nat) (src : Bool) : portAt (a + i) src = a + portAt i src := by unfold portAt; cases src <;> simp <;> omega
theorem sumAt_add (a i : Nat) (udp : Bool) : sumAt (a + i) udp = a + sumAt i udp := by unfold sumAt; cases udp <;> simp <;> omega
theorem carW_right (A B : List Int) (i : Nat) (udp src : Bool) (port o a : Int) : carW (A ++ B) (A.length + i) udp src port o a = A ++ carW B i udp src port o a := by
  have hc : ((A ++ B).length < A.length + sumAt i udp + 2) = (B.length < sumAt i udp + 2) := by rw [List.length_append]; apply propext; omega
  unfold carW carS
  simp only [portAt_add, sumAt_add, put2_right, n2_right, hc]
  split <;> rfl
/-- what is carried, with another port -/
def carChg (B : List Int) (proto : Int) (src : Bool) (port old addr : Int) : List Int := if proto = 1 then echoW B 0 port else carW B 0 (proto == 17) src port old addr
theorem carChg_len (B : List Int) (proto : Int) (src : Bool) (port old addr : Int) : (carChg B proto src port old addr).length = B.length := by
  unfold carChg
  split
  · unfold echoW; rw [put2_len, put2_len]
  · rw [carW_len]
/-- what an error carries -/
def errMid (E I J : List Int) (proto : Int) (src : Bool) (port addr : Int) : List Int := E ++ (addrL I 0 src addr ++ carChg J proto src port (n4 I (addrAt 0 src)) addr)
def errChg (E I J : List Int) (proto : Int) (src : Bool) (port addr : Int) : List Int :=
  put2 (put2 (errMid E I J proto src port addr) 2 0) 2 (sumOf (put2 (errMid E I J proto src port addr) 2 0))
theorem errMid_len (E I J : List Int) (proto : Int) (src : Bool) (port addr : Int) : (errMid E I J proto src port addr).length = E.length + I.length + J.length := by
  unfold errMid
  rw [List.length_append, List.length_append, addrL_len, carChg_len]; omega
theorem errChg_len (E I J : List Int) (proto : Int) (src : Bool) (port addr : Int) : (errChg E I J proto src port addr).length = E.length + I.length + J.length := by
  unfold errChg
  rw [put2_len, put2_len, errMid_len]
/-! ### as the walk tells it -/
def innerW (l : List Int) (at_ isz : Nat) (iproto : Int) (size : Nat) (src : Bool) (addr port : Int) : List Int :=
  let l1 := addrL l at_ src addr
  let l2 := if iproto = 1 then echoW l1 (at_ + isz) port else carW l1 (at_ + isz) (iproto == 17) src port (n4 l (addrAt at_ src)) addr
  put2 (put2 l2 (size + 2) 0) (size + 2) (sumOf ((put2 l2 (size + 2) 0).drop size))
def chgW (l : List Int) (h : Hd) (p : Pt) (out : Bool) (addr port : Int) : List Int :=
  let l1 := addrL l 0 out addr
  if p.err = true then innerW l1 p.pat.toNat p.inner.size.toNat p.inner.proto h.size.toNat (!out) addr port else
  if p.proto = 1 then echoW l1 h.size.toNat port else carW l1 h.size.toNat (p.proto == 17) out port (n4 l (addrAt 0 out)) addr
/-- a plain one in its pieces -/
theorem chgW_plain {A B : List Int} {h : Hd} {p : Pt} {out : Bool} {addr port : Int} (he : p.err = false) (hA : 20 ≤ A.length) (hs : h.size.toNat = A.length) :
    chgW (A ++ B) h p out addr port = addrL A 0 out addr ++ carChg B p.proto out port (n4 A (addrAt 0 out)) addr := by
  have hb := addrAt_bd 0 out
  have e : A.length = (addrL A 0 out addr).length + 0 := by rw [addrL_len]; rfl
  unfold chgW carChg
  simp only [he, Bool.false_eq_true, if_false]
  rw [addrL_left (by omega), hs, n4_left (by omega), e, echoW_right, carW_right]
  split <;> rfl
theorem chgW_err {A E I J : List Int} {h : Hd} {p : Pt} {out : Bool} {addr port : Int} (he : p.err = true) (hA : 20 ≤ A.length) (hE : E.length = 8) (hI : 20 ≤ I.length) (hs : h.size.toNat = A.length) (hp : p.pat.toNat = A.length + 8) (hz : p.inner.size.toNat = I.length) :
    chgW (A ++ (E ++ (I ++ J))) h p out addr port = addrL A 0 out addr ++ errChg E I J p.inner.proto (!out) port addr := by
  have hb := addrAt_bd 0 (!out)
  have eA : (addrL A 0 out addr).length = A.length := addrL_len _ _ _ _
  unfold chgW innerW
  simp only [he, if_true]
  rw [addrL_left (by omega), hs, hp, hz]
  have e1 : A.length + 8 = (addrL A 0 out addr ++ E).length + 0 := by simp only [List.length_append, addrL_len, hE] <;> omega
  have e2 : A.length + 8 + I.length = (addrL A 0 out addr ++ E ++ addrL I 0 (!out) addr).length + 0 := by simp only [List.length_append, addrL_len, hE] <;> omega
  have h1 : addrL (addrL A 0 out addr ++ (E ++ (I ++ J))) (A.length + 8) (!out) addr = addrL A 0 out addr ++ E ++ addrL I 0 (!out) addr ++ J := by
    rw [e1, ← List.append_assoc, addrL_right, addrL_left (by omega), ← List.append_assoc]
  have h2 : n4 (addrL A 0 out addr ++ (E ++ (I ++ J))) (addrAt (A.length + 8) (!out)) = n4 I (addrAt 0 (!out)) := by
    rw [e1, addrAt_add, ← List.append_assoc, n4_right, n4_left (by omega)]
  rw [h1, h2, e2, echoW_right, carW_right]
  have h3 : (if p.inner.proto = 1 then addrL A 0 out addr ++ E ++ addrL I 0 (!out) addr ++ echoW J 0 port else addrL A 0 out addr ++ E ++ addrL I 0 (!out) addr ++ carW J 0 (p.inner.proto == 17) (!out) port (n4 I (addrAt 0 (!out))) addr) =
      addrL A 0 out addr ++ errMid E I J p.inner.proto (!out) port addr := by
    unfold errMid carChg
    split <;> simp only [List.append_assoc]
  rw [h3, ← eA, put2_right, List.drop_left, put2_right]
  rfl
end Go.Proofs.YtbckoohljkmahaaGreat
