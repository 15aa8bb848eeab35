/- What the laws' proofs lean on: plain facts and contracts of the program's functions, laid together (2). -/
import Derived.Test.YtilhkhnjloplfaaGreatDoorPp01
import Derived.Deep.WholeRow
import Derived.Deep.DeepCutAuto
import Derived.Deep.CutBlock
namespace Go.Proofs.YtilhkhnjloplfaaGreatDoor
set_option linter.unusedVariables false
set_option linter.unusedSimpArgs false
open Go.RowKit
def Hd.val (h : Hd) : Value := .agg #[.int .i64 h.size, .int .i64 h.len, .int .i64 h.ttl, .int .i64 h.proto, .int .u32 h.src, .int .u32 h.dst]
theorem u32_shl_or (a b : Int) (h0 : 0 ≤ a ∧ a < 16777216) (h1 : 0 ≤ b ∧ b ≤ 255) : bits .or .u32 (a * 256) b = a * 256 + b := by
  rw [u32_or _ _ (by omega) (by omega) (by omega) (by omega)]
  have : (a * 256).toNat ||| b.toNat = (a * 256).toNat + b.toNat := by
    have e : (a * 256).toNat = 2 ^ 8 * a.toNat := by omega
    rw [e, Nat.two_pow_add_eq_or_of_lt (by omega)]
  rw [this]; omega
set_option maxHeartbeats 400000 in
theorem num_any (l : List Int) (A : Option Addr) (len c B : Nat) (w : World) (hl : len ≤ 4) (hr : Rd .u8 w B A len l) :
    Calls Tryz.prog 76 #[.slice A len c] w fun e w' => e = .returned (.int .u32 (numOf l)) ∧ w = w' := by
  have hlen := Lib.hid hr.len
  have hB := numOf_bd l (fun x hx => inr_u8 (hr.rng x hx))
  go_enter Tryz.func76, Tryz.ntmps76
  go_wp2
  go_loop [3, 8, 5] (fun n i c => ∃ k : Nat, k ≤ len ∧ i = .int .i64 k ∧ n = .int .u32 (numOf (l.take k))) (fun _ i _ => len - (intOf i).toNat)
  case atStart => exact ⟨0, by omega, rfl, by simp [numOf]⟩
  case round =>
    obtain ⟨k, hk, rfl, rfl⟩ := hrel
    by_cases hlt : k < len
    · obtain ⟨b, o, rfl, hbl, hc, hx⟩ := hr.at_ hlt
      have hx := inr_u8 hx
      have hb := hB k (by rw [hlen.out]; omega)
      have hb2 : numOf (l.take k) < 16777216 := by
        have : (256 : Int) ^ k ≤ 256 ^ 3 := by
          have h4 : k = 0 ∨ k = 1 ∨ k = 2 ∨ k = 3 := by omega
          rcases h4 with rfl | rfl | rfl | rfl <;> decide
        omega
      have hor := u32_shl_or (numOf (l.take k)) (l.getD k 0) (by omega) hx
      have HS : Hid (numOf (l.take (k + 1)) = numOf (l.take k) * 256 + l.getD k 0) := by
        have : k < l.length := by rw [hlen.out]; exact hlt
        show _ = _
        rw [List.take_succ_eq_append_getElem this, numOf_snoc, List.getD_eq_getElem?_getD, List.getElem?_eq_getElem this]; rfl
      replace hb := hb.1
      obtain ⟨x, hxe⟩ : ∃ x, x = l.getD k 0 := ⟨_, rfl⟩
      rw [← hxe] at hc hx hor HS
      obtain ⟨N, hN⟩ : ∃ N, N = numOf (l.take k) := ⟨_, rfl⟩
      rw [← hN] at hb hb2 hor HS ⊢
      clear hxe hN hB hlen
      have hd : decide (k < len) = true := by simpa using hlt
      go_wp2
      exact ⟨⟨k + 1, by omega, by go_num, by rw [HS.out]⟩, by simp [intOf]; omega⟩
    · have hke : k = len := by omega
      have hd : decide (k < len) = false := by simpa using hlt
      clear hB
      go_wp2
      go_ret
      exact ⟨by rw [List.take_of_length_le (by rw [hlen.out]; omega)]; rfl, rfl⟩
theorem Rd.sub {k : IntKind} {w : World} {B b o n : Nat} {l : List Int} (h : Rd k w B (some ⟨b, o, none⟩) n l) (i m : Nat) (hi : i + m ≤ n) : Rd k w B (some ⟨b, o + i, none⟩) m (seg l i m) := by
  have hl := h.len
  refine ⟨seg_length _ _ _ (by omega), fun x hx => h.rng x (seg_mem hx), fun h0 => ?_⟩
  obtain ⟨b', o', e, hb, hc⟩ := h.cel (by omega)
  simp only [Option.some.injEq, Addr.mk.injEq, and_true] at e
  obtain ⟨rfl, rfl⟩ := e
  refine ⟨_, _, rfl, hb, fun j hj => ?_⟩
  rw [Nat.add_assoc, hc (i + j) (by omega)]
  simp [seg, List.getD_eq_getElem?_getD, hj]
theorem Rd.form {k : IntKind} {w : World} {B n : Nat} {A : Option Addr} {l : List Int} (h : Rd k w B A n l) (hn : 0 < n) : ∃ b o, A = some ⟨b, o, none⟩ := by
  obtain ⟨b, o, e, _⟩ := h.cel hn; exact ⟨b, o, e⟩
theorem Rd.cell {k : IntKind} {w : World} {B b o n : Nat} {l : List Int} (h : Rd k w B (some ⟨b, o, none⟩) n l) (j : Nat) (hj : j < n) : w.cell? ⟨b, o + j, none⟩ = some (.int k (l.getD j 0)) ∧ inr k (l.getD j 0) := by
  obtain ⟨b', o', e, _, h1, h2⟩ := h.at_ hj
  simp only [Option.some.injEq, Addr.mk.injEq, and_true] at e
  obtain ⟨rfl, rfl⟩ := e
  exact ⟨h1, h2⟩
theorem Rd.cell0 {k : IntKind} {w : World} {B b o n : Nat} {l : List Int} (h : Rd k w B (some ⟨b, o, none⟩) n l) (hn : 0 < n) : w.cell? ⟨b, o, none⟩ = some (.int k (l.getD 0 0)) ∧ inr k (l.getD 0 0) := h.cell 0 hn
theorem u8_and15 (a : Int) : bits .and .u8 a 15 = a % 16 := and_mask (k := .u8) rfl 4 (by decide) a
theorem u32_and3FFF (a : Int) : bits .and .u32 a 16383 = a % 16384 := and_mask (k := .u32) rfl 14 (by decide) a
attribute [go_sem] u8_and15 u32_and3FFF
theorem Rd.of_cells (k : IntKind) (w : World) (b o : Nat) (l : List Int) (n : Nat) (hl : l.length = n) (hr : ∀ x, x ∈ l → inr k x) (hc : ∀ j, j < n → w.cell? ⟨b, o + j, none⟩ = some (.int k (l.getD j 0))) : Rd k w (b + 1) (some ⟨b, o, none⟩) n l :=
  ⟨hl, hr, fun _ => ⟨b, o, rfl, by omega, hc⟩⟩
theorem num2_cells (b o c : Nat) (x y : Int) (w : World) (hx : 0 ≤ x ∧ x ≤ 255) (hy : 0 ≤ y ∧ y ≤ 255) (h0 : w.cell? ⟨b, o, none⟩ = some (.int .u8 x)) (h1 : w.cell? ⟨b, o + 1, none⟩ = some (.int .u8 y)) :
    Calls Tryz.prog 76 #[.slice (some ⟨b, o, none⟩) 2 c] w fun e w' => e = .returned (.int .u32 (x * 256 + y)) ∧ w = w' := by
  have := num_any [x, y] (some ⟨b, o, none⟩) 2 c (b + 1) w (by omega) (Rd.of_cells .u8 w b o [x, y] 2 rfl (by simp; exact ⟨u8_inr hx, u8_inr hy⟩) (fun j hj => by
    have : j = 0 ∨ j = 1 := by omega
    rcases this with rfl | rfl
    · exact h0
    · exact h1))
  simpa [numOf] using this
set_option maxHeartbeats 2000000 in
set_option maxRecDepth 100000 in
theorem shaped_any (l : List Int) (most : Int) (A : Option Addr) (len c B : Nat) (w : World) (hr : Rd .u8 w B A len l) (hB : B ≤ w.heap.size) (hlc : len ≤ c) (hcm : c ≤ 9223372036854775807) :
    Calls Tryz.prog 60 #[.slice A len c, .int .i64 most] w fun e w' => e = .returned (.tuple #[(hdIf l (shapeE l most)).val, .int .i64 (shapeE l most)]) ∧ Below w.heap.size w w' := by
  have hcs := shape_cases l most
  rw [hr.len] at hcs
  rcases hcs with ⟨e, h1⟩ | hcs
  · rw [e]; clear e
    go_enter Tryz.func60, Tryz.ntmps60
    go_wp2
    exact bodyPost_ret (v := .tuple #[Hd.z.val, .int .i64 2]) (by simp [results, Tryz.results60, go_sem, Hd.val, Hd.z]) rfl ⟨rfl, (Below.refl _ _).alloc (Nat.le_refl _) _⟩
  have h20 : 20 ≤ len := by rcases hcs with ⟨_, h, _⟩ | ⟨_, h, _⟩ | ⟨_, h, _⟩ | ⟨_, h, _⟩ | ⟨_, h, _⟩ | ⟨_, h, _⟩ <;> exact h
  obtain ⟨b, o, rfl⟩ := hr.form (by omega)
  obtain ⟨c0, x0⟩ := hr.cell0 (by omega)
  replace x0 := inr_u8 x0
  have rd2 := hr.sub 2 2 (by omega)
  have hN := n2_bd (fun x hx => inr_u8 (hr.rng x hx)) (i := 2) (by rw [hr.len]; omega)
  obtain ⟨f0, hf0⟩ : ∃ x, x = l.getD 0 0 := ⟨_, rfl⟩
  rw [← hf0] at hcs c0 x0
  obtain ⟨c2, x2⟩ := hr.cell 2 (by omega)
  obtain ⟨c3, x3⟩ := hr.cell 3 (by omega)
  replace x2 := inr_u8 x2
  replace x3 := inr_u8 x3
  rw [n2_eq l 2 (by rw [hr.len]; omega)] at hcs hN
  simp only [Nat.reduceAdd] at hcs hN
  obtain ⟨f2, hf2⟩ : ∃ x, x = l.getD 2 0 := ⟨_, rfl⟩
  obtain ⟨f3, hf3⟩ : ∃ x, x = l.getD 3 0 := ⟨_, rfl⟩
  rw [← hf2] at hcs hN c2 x2
  rw [← hf3] at hcs hN c3 x3
  replace hf0 := Lib.hid hf0
  replace hf2 := Lib.hid hf2
  replace hf3 := Lib.hid hf3
  obtain ⟨W0, hW0⟩ : ∃ W, W = w.alloc (.cells #[.int .i64 0, .int .i64 0, .int .i64 0, .int .i64 0, .int .u32 0, .int .u32 0] 81) := ⟨_, rfl⟩
  obtain ⟨W1, hW1⟩ : ∃ W, W = W0.alloc (.cells #[.int .i64 0, .int .i64 0, .int .i64 0, .int .i64 0, .int .u32 0, .int .u32 0] 81) := ⟨_, rfl⟩
  obtain ⟨W3, hW3⟩ : ∃ W, W = W0.alloc (.cells #[.int .i64 (4 * (f0 % 16)), .int .i64 (f2 * 256 + f3), .int .i64 0, .int .i64 0, .int .u32 0, .int .u32 0] 81) := ⟨_, rfl⟩
  obtain ⟨F, hF⟩ : ∃ F, F = four W0 W1 W1 W3 := ⟨_, rfl⟩
  have Fc : ∀ p : Addr, ∀ v, w.cell? p = some v → ∀ t, (F t).cell? p = some v := by
    intro p v hp t
    have := cell_lt hp
    rw [hF, hW1, hW3, hW0]
    refine four_all (p := fun w' => w'.cell? p = some v) ?_ ?_ ?_ ?_ t <;> simp [World.cell?_alloc_lt, this, hp, Nat.lt_succ_of_lt]
  have F0 := Fc _ _ c0
  have F2 := Fc _ _ c2
  have F3 := Fc _ _ c3
  clear Fc
  replace hF := Lib.hid hF
  replace hW0 := Lib.hid hW0
  replace hW1 := Lib.hid hW1
  replace hW3 := Lib.hid hW3
  obtain ⟨E, hE⟩ : ∃ E, E = shapeE l most := ⟨_, rfl⟩
  rw [← hE] at hcs ⊢
  replace hE := Lib.hid hE
  replace hcs := Lib.hid hcs
  go_enter Tryz.func60, Tryz.ntmps60
  go_wp2_with fail
  refine wp_region_E (cls2 11 12 F) (by kernel_rfl) (by kernel_rfl) ⟨by simp, 1, by rw [hF.out]; show _ = W0.drew; rw [hW0.out]⟩ ?_
  refine wpE_qs (D := dom2 F) (fun _ _ h => h.dom) 8 _ _ _ (by kernel_rfl) (by simp) (fun i h1 h2 _ _ h => h.keep (by omega) (by omega)) ?_
  unfold dom2
  simp only [List.take_succ_cons, List.take_zero, List.drop_succ_cons, List.drop_zero]
  repeat (first
    | go_big_quiet_skip
    | (go_big_quiet_want; go_big_quiet_op; go_big_quiet_on))
  refine wpQuiet_nil ?_
  refine wpE_do (by kernel_rfl) (.int .u32 (f2 * 256 + f3)) (fun K hK => ⟨fun listed w' hrd hC => ?_, ?_⟩)
  · obtain ⟨t, m, rfl⟩ := hC.form
    go_simp
    refine (num2_cells b (o + 2) _ f2 f3 _ x2 x3 ?_ ?_).mono ?_
    · simp [F2]
    · simp [F3]
    · rintro e w' ⟨rfl, rfl⟩; exact ⟨rfl, hC.keep (by omega) (by omega)⟩
  go_simp; refine hK _ ?_; clear hK K
  refine wpE_qs (D := dom2 F) (fun _ _ h => h.dom) 2 _ _ _ (by kernel_rfl) (by simp) (fun i h1 h2 _ _ h => h.keep (by omega) (by omega)) ?_
  unfold dom2
  simp only [List.take_succ_cons, List.take_zero, List.drop_succ_cons, List.drop_zero]
  repeat (first
    | go_big_quiet_skip
    | (go_big_quiet_want; go_big_quiet_op; go_big_quiet_on))
  refine wpQuiet_nil ?_
  refine wpE_do (by kernel_rfl) (.pointer (some ⟨w.heap.size + 1, 0, none⟩)) (fun K hK => ⟨fun listed w' hrd hC => ?_, ?_⟩)
  · obtain ⟨m, rfl⟩ := hC.at1 hrd.1
    have := hC.to1 (by decide) hrd.1 m
    have e0 : F 0 = W0 := by rw [hF.out]; rfl
    have e1 : F 1 = W1 := by rw [hF.out]; rfl
    rw [e1, hW1.out, hW0.out] at this
    rw [e0, hW0.out]
    clear e0 e1 hC
    go_simp
    exact ⟨rfl, this⟩
  go_simp; refine hK _ ?_; clear hK K
  refine wpE_do (by kernel_rfl) (undef) (fun K hK => ⟨fun listed w' hrd hC => ?_, ?_⟩)
  · obtain ⟨m, rfl⟩ := hC.at2 hrd.1 (hrd.2 ⟨11, .data⟩ (by simp) rfl)
    have := cls2.to2 (F := F) (i := 11) (by decide) hrd.1 (hrd.2 ⟨11, .data⟩ (by simp) rfl) m
    have e0 : F 1 = W1 := by rw [hF.out]; rfl
    have e1 : F 3 = W3 := by rw [hF.out]; rfl
    rw [e1, hW3.out, hW0.out] at this
    rw [e0, hW1.out, hW0.out]
    clear e0 e1 hC
    go_simp
    exact ⟨rfl, this⟩
  go_simp; refine hK _ ?_; clear hK K
  intro w' hw'
  obtain ⟨m, rfl⟩ := cls2.end_ (F := F) hw' (by kernel_rfl) (by kernel_rfl)
  have e1 : F 3 = W3 := by rw [hF.out]; rfl
  rw [e1, hW3.out, hW0.out]
  clear hw' e1 F0 F2 F3 hF hW3 hW1 hW0
  have bel : Below w.heap.size w (((w.alloc (Obj.cells #[.int .i64 0, .int .i64 0, .int .i64 0, .int .i64 0, .int .u32 0, .int .u32 0] 81)).alloc (Obj.cells #[.int .i64 (4 * (f0 % 16)), .int .i64 (f2 * 256 + f3), .int .i64 0, .int .i64 0, .int .u32 0, .int .u32 0] 81)).drewN m) :=
    below_drewN (((Below.refl _ _).alloc (Nat.le_refl _) _).alloc (by simp) _) m
  have hb := cell_lt c0
  simp only at hb
  have hb0 : b ≠ w.heap.size := by omega
  have hb1 : b ≠ w.heap.size + 1 := by omega
  rcases hcs.out with ⟨e, _, h1, h2⟩ | ⟨e, _, h1, h2⟩ | ⟨e, _, h1, h2, h3⟩ | ⟨e, _, h1, h2, h3, h4⟩ | ⟨e, _, h1, h2, h3, h4, h5⟩ | ⟨e, _, h1, h2, h3, h4, h5⟩
  all_goals
    replace e := Lib.hid e
    clear hcs
  · go_wp2
    exact bodyPost_ret (v := .tuple #[Hd.z.val, .int .i64 3]) (by simp [results, Tryz.results60, go_sem, Hd.val, Hd.z]) rfl ⟨by rw [e.out]; rfl, bel⟩
  · go_wp2
    exact bodyPost_ret (v := .tuple #[Hd.z.val, .int .i64 3]) (by simp [results, Tryz.results60, go_sem, Hd.val, Hd.z]) rfl ⟨by rw [e.out]; rfl, bel⟩
  · go_wp2
    exact bodyPost_ret (v := .tuple #[Hd.z.val, .int .i64 2]) (by simp [results, Tryz.results60, go_sem, Hd.val, Hd.z]) rfl ⟨by rw [e.out]; rfl, bel⟩
  · go_wp2
    exact bodyPost_ret (v := .tuple #[Hd.z.val, .int .i64 3]) (by simp [results, Tryz.results60, go_sem, Hd.val, Hd.z]) rfl ⟨by rw [e.out]; rfl, bel⟩
  · go_wp2
    exact bodyPost_ret (v := .tuple #[Hd.z.val, .int .i64 3]) (by simp [results, Tryz.results60, go_sem, Hd.val, Hd.z]) rfl ⟨by rw [e.out]; rfl, bel⟩
  obtain ⟨c8, x8⟩ := hr.cell 8 (by omega)
  obtain ⟨c9, x9⟩ := hr.cell 9 (by omega)
  replace x8 := inr_u8 x8
  replace x9 := inr_u8 x9
  obtain ⟨f8, hf8⟩ : ∃ x, x = l.getD 8 0 := ⟨_, rfl⟩
  obtain ⟨f9, hf9⟩ : ∃ x, x = l.getD 9 0 := ⟨_, rfl⟩
  rw [← hf8] at c8 x8
  rw [← hf9] at c9 x9
  replace hf8 := Lib.hid hf8
  replace hf9 := Lib.hid hf9
  go_wp2
  obtain ⟨F, hF⟩ : ∃ F, F = four (((w.alloc (Obj.cells #[.int .i64 0, .int .i64 0, .int .i64 0, .int .i64 0, .int .u32 0, .int .u32 0] 81)).alloc (Obj.cells #[.int .i64 (4 * (f0 % 16)), .int .i64 (f2 * 256 + f3), .int .i64 0, .int .i64 0, .int .u32 0, .int .u32 0] 81))) (((w.alloc (Obj.cells #[.int .i64 0, .int .i64 0, .int .i64 0, .int .i64 0, .int .u32 0, .int .u32 0] 81)).alloc (Obj.cells #[.int .i64 (4 * (f0 % 16)), .int .i64 (f2 * 256 + f3), .int .i64 f8, .int .i64 0, .int .u32 0, .int .u32 0] 81))) (((w.alloc (Obj.cells #[.int .i64 0, .int .i64 0, .int .i64 0, .int .i64 0, .int .u32 0, .int .u32 0] 81)).alloc (Obj.cells #[.int .i64 (4 * (f0 % 16)), .int .i64 (f2 * 256 + f3), .int .i64 0, .int .i64 f9, .int .u32 0, .int .u32 0] 81))) (((w.alloc (Obj.cells #[.int .i64 0, .int .i64 0, .int .i64 0, .int .i64 0, .int .u32 0, .int .u32 0] 81)).alloc (Obj.cells #[.int .i64 (4 * (f0 % 16)), .int .i64 (f2 * 256 + f3), .int .i64 f8, .int .i64 f9, .int .u32 0, .int .u32 0] 81))) := ⟨_, rfl⟩
  have Fc : ∀ p : Addr, ∀ v, w.cell? p = some v → ∀ t, (F t).cell? p = some v := by
    intro p v hp t
    have := cell_lt hp
    rw [hF]
    refine four_all (p := fun w' => w'.cell? p = some v) ?_ ?_ ?_ ?_ t <;> simp [World.cell?_alloc_lt, this, hp, Nat.lt_succ_of_lt]
  have F8 := Fc _ _ c8
  have F9 := Fc _ _ c9
  clear Fc
  replace hF := Lib.hid hF
  refine wp_region_E (cls2f 9 11 F) (by kernel_rfl) (by kernel_rfl) ⟨m + 1, by rw [hF.out]; rfl⟩ ?_
  refine wpE_qs (D := dom2 F) (fun _ _ h => h.dom) 9 _ _ _ (by kernel_rfl) (by simp) (fun i h1 h2 _ _ h => h.keep (by omega) (by omega)) ?_
  unfold dom2
  simp only [List.take_succ_cons, List.take_zero, List.drop_succ_cons, List.drop_zero]
  repeat (first
    | go_big_quiet_skip
    | (go_big_quiet_want; go_big_quiet_op; go_big_quiet_on))
  refine wpQuiet_nil ?_
  refine wpE_do (by kernel_rfl) (undef) (fun K hK => ⟨fun listed w' hrd hC => ?_, ?_⟩)
  · obtain ⟨y, m, hy, rfl⟩ := cls2f.at1 (F := F) hC hrd.1
    have hnx := cls2f.to1 (F := F) (i := 9) (j := 11) (by decide) hrd.1 hy m
    replace hF := hF.out
    clear hC
    subst hF
    cases y <;> simp only [cd, four] at hnx ⊢ <;> go_simp <;> exact ⟨rfl, hnx⟩
  go_simp; refine hK _ ?_; clear hK K
  refine wpE_qs (D := dom2 F) (fun _ _ h => h.dom) 1 _ _ _ (by kernel_rfl) (by simp) (fun i h1 h2 _ _ h => h.keep (by omega) (by omega)) ?_
  unfold dom2
  simp only [List.take_succ_cons, List.take_zero, List.drop_succ_cons, List.drop_zero]
  repeat (first
    | go_big_quiet_skip
    | (go_big_quiet_want; go_big_quiet_op; go_big_quiet_on))
  refine wpQuiet_nil ?_
  refine wpE_do (by kernel_rfl) (undef) (fun K hK => ⟨fun listed w' hrd hC => ?_, ?_⟩)
  · obtain ⟨y, m, hy, rfl⟩ := cls2f.at2 (F := F) hC hrd.1
    have hnx := cls2f.to2 (F := F) (i := 9) (j := 11) (by decide) hrd.1 hy m
    replace hF := hF.out
    clear hC
    subst hF
    cases y <;> simp only [cd, four] at hnx ⊢ <;> go_simp <;> exact ⟨rfl, hnx⟩
  go_simp; refine hK _ ?_; clear hK K
  intro w' hw'
  obtain ⟨m, rfl⟩ := cls2f.end_ (F := F) hw' (by kernel_rfl) (by kernel_rfl)
  replace hF := hF.out
  clear hw'
  subst hF
  simp only [four]
  clear F8 F9
  have rd12 := (hr.more hB).sub 12 4 (by omega)
  have rd16 := (hr.more hB).sub 16 4 (by omega)
  obtain ⟨N12, hN12⟩ : ∃ x, x = numOf (seg l 12 4) := ⟨_, rfl⟩
  obtain ⟨N16, hN16⟩ : ∃ x, x = numOf (seg l 16 4) := ⟨_, rfl⟩
  replace hN12 := Lib.hid hN12
  replace hN16 := Lib.hid hN16
  go_wp2
  obtain ⟨F, hF⟩ : ∃ F, F = four (((w.alloc (Obj.cells #[.int .i64 0, .int .i64 0, .int .i64 0, .int .i64 0, .int .u32 0, .int .u32 0] 81)).alloc (Obj.cells #[.int .i64 (4 * (f0 % 16)), .int .i64 (f2 * 256 + f3), .int .i64 f8, .int .i64 f9, .int .u32 0, .int .u32 0] 81))) (((w.alloc (Obj.cells #[.int .i64 0, .int .i64 0, .int .i64 0, .int .i64 0, .int .u32 0, .int .u32 0] 81)).alloc (Obj.cells #[.int .i64 (4 * (f0 % 16)), .int .i64 (f2 * 256 + f3), .int .i64 f8, .int .i64 f9, .int .u32 N12, .int .u32 0] 81))) (((w.alloc (Obj.cells #[.int .i64 0, .int .i64 0, .int .i64 0, .int .i64 0, .int .u32 0, .int .u32 0] 81)).alloc (Obj.cells #[.int .i64 (4 * (f0 % 16)), .int .i64 (f2 * 256 + f3), .int .i64 f8, .int .i64 f9, .int .u32 0, .int .u32 N16] 81))) (((w.alloc (Obj.cells #[.int .i64 0, .int .i64 0, .int .i64 0, .int .i64 0, .int .u32 0, .int .u32 0] 81)).alloc (Obj.cells #[.int .i64 (4 * (f0 % 16)), .int .i64 (f2 * 256 + f3), .int .i64 f8, .int .i64 f9, .int .u32 N12, .int .u32 N16] 81))) := ⟨_, rfl⟩
  have FR : ∀ t, Below w.heap.size w (F t) := fun t => by
    rw [hF]
    refine four_all (p := fun w' => Below w.heap.size w w') ?_ ?_ ?_ ?_ t <;> exact ((Below.refl _ _).alloc (Nat.le_refl _) _).alloc (by simp) _
  replace FR := Lib.hid FR
  replace hF := Lib.hid hF
  refine wp_region_E (cls2f 7 9 F) (by kernel_rfl) (by kernel_rfl) ⟨m + 1, by rw [hF.out]; rfl⟩ ?_
  refine wpE_qs (D := dom2 F) (fun _ _ h => h.dom) 2 _ _ _ (by kernel_rfl) (by simp) (fun i h1 h2 _ _ h => h.keep (by omega) (by omega)) ?_
  unfold dom2
  simp only [List.take_succ_cons, List.take_zero, List.drop_succ_cons, List.drop_zero]
  repeat (first
    | go_big_quiet_skip
    | (go_big_quiet_want; go_big_quiet_op; go_big_quiet_on))
  refine wpQuiet_nil ?_
  refine wpE_do (by kernel_rfl) (.int .u32 N12) (fun K hK => ⟨fun listed w' hrd hC => ?_, ?_⟩)
  · obtain ⟨t, m, rfl⟩ := hC.form
    go_simp
    refine (num_any _ _ _ _ _ _ (by omega) ((rd12.below (FR.out t)).drewN m)).mono ?_
    rintro e w' ⟨rfl, rfl⟩; exact ⟨by rw [hN12.out], hC.keep (by omega) (by omega)⟩
  go_simp; refine hK _ ?_; clear hK K
  refine wpE_qs (D := dom2 F) (fun _ _ h => h.dom) 2 _ _ _ (by kernel_rfl) (by simp) (fun i h1 h2 _ _ h => h.keep (by omega) (by omega)) ?_
  unfold dom2
  simp only [List.take_succ_cons, List.take_zero, List.drop_succ_cons, List.drop_zero]
  repeat (first
    | go_big_quiet_skip
    | (go_big_quiet_want; go_big_quiet_op; go_big_quiet_on))
  refine wpQuiet_nil ?_
  refine wpE_do (by kernel_rfl) (.int .u32 N16) (fun K hK => ⟨fun listed w' hrd hC => ?_, ?_⟩)
  · obtain ⟨t, m, rfl⟩ := hC.form
    go_simp
    refine (num_any _ _ _ _ _ _ (by omega) ((rd16.below (FR.out t)).drewN m)).mono ?_
    rintro e w' ⟨rfl, rfl⟩; exact ⟨by rw [hN16.out], hC.keep (by omega) (by omega)⟩
  go_simp; refine hK _ ?_; clear hK K
  refine wpE_qs (D := dom2 F) (fun _ _ h => h.dom) 1 _ _ _ (by kernel_rfl) (by simp) (fun i h1 h2 _ _ h => h.keep (by omega) (by omega)) ?_
  unfold dom2
  simp only [List.take_succ_cons, List.take_zero, List.drop_succ_cons, List.drop_zero]
  repeat (first
    | go_big_quiet_skip
    | (go_big_quiet_want; go_big_quiet_op; go_big_quiet_on))
  refine wpQuiet_nil ?_
  refine wpE_do (by kernel_rfl) (undef) (fun K hK => ⟨fun listed w' hrd hC => ?_, ?_⟩)
  · obtain ⟨y, m, hy, rfl⟩ := cls2f.at1 (F := F) hC hrd.1
    have hnx := cls2f.to1 (F := F) (i := 7) (j := 9) (by decide) hrd.1 hy m
    replace hF := hF.out
    clear hC
    subst hF
    cases y <;> simp only [cd, four] at hnx ⊢ <;> go_simp <;> exact ⟨rfl, hnx⟩
  go_simp; refine hK _ ?_; clear hK K
  refine wpE_qs (D := dom2 F) (fun _ _ h => h.dom) 1 _ _ _ (by kernel_rfl) (by simp) (fun i h1 h2 _ _ h => h.keep (by omega) (by omega)) ?_
  unfold dom2
  simp only [List.take_succ_cons, List.take_zero, List.drop_succ_cons, List.drop_zero]
  repeat (first
    | go_big_quiet_skip
    | (go_big_quiet_want; go_big_quiet_op; go_big_quiet_on))
  refine wpQuiet_nil ?_
  refine wpE_do (by kernel_rfl) (undef) (fun K hK => ⟨fun listed w' hrd hC => ?_, ?_⟩)
  · obtain ⟨y, m, hy, rfl⟩ := cls2f.at2 (F := F) hC hrd.1
    have hnx := cls2f.to2 (F := F) (i := 7) (j := 9) (by decide) hrd.1 hy m
    replace hF := hF.out
    clear hC
    subst hF
    cases y <;> simp only [cd, four] at hnx ⊢ <;> go_simp <;> exact ⟨rfl, hnx⟩
  go_simp; refine hK _ ?_; clear hK K
  intro w' hw'
  obtain ⟨m, rfl⟩ := cls2f.end_ (F := F) hw' (by kernel_rfl) (by kernel_rfl)
  replace hF := hF.out
  clear hw'
  subst hF
  simp only [four]
  go_wp2
  exact bodyPost_ret (v := .tuple #[.agg #[.int .i64 (4 * (f0 % 16)), .int .i64 (f2 * 256 + f3), .int .i64 f8, .int .i64 f9, .int .u32 N12, .int .u32 N16], .int .i64 0]) (by simp [results, Tryz.results60, go_sem]) rfl
    ⟨by rw [e.out]; unfold hdIf hdOf Hd.val; rw [if_pos rfl, hN12.out, hN16.out, hf8.out, hf9.out, hf0.out, n2_eq l 2 (by rw [hr.len]; omega), hf2.out, hf3.out, Int.mul_comm]; rfl, below_drewN (((Below.refl _ _).alloc (Nat.le_refl _) _).alloc (by simp) _) m⟩
end Go.Proofs.YtilhkhnjloplfaaGreatDoor
namespace Go.Proofs.YtilhkhnjloplfaaGreatDoor
set_option linter.unusedVariables false
set_option linter.unusedSimpArgs false
open Go.RowKit
def selH (e : Int) (h : Hd) : Hd := if e = 0 then h else Hd.z
theorem wholeE_cases (l : List Int) : (wholeE l = 0 ∧ (n2 l 6 % 16384 != 0) = false) ∨ (wholeE l = 5 ∧ (n2 l 6 % 16384 != 0) = true) := by
  unfold wholeE
  by_cases h : n2 l 6 % 16384 = 0
  · left; rw [if_neg (by simpa using h)]; exact ⟨rfl, by simpa using h⟩
  · right; rw [if_pos h]; exact ⟨rfl, by simpa using h⟩
set_option maxHeartbeats 1000000 in
theorem whole_any (h : Hd) (l : List Int) (A : Option Addr) (len c B : Nat) (w : World) (hr : Rd .u8 w B A len l) (hB : B ≤ w.heap.size) (hlc : len ≤ c) (hcm : c ≤ 9223372036854775807) (h20 : 20 ≤ len) :
    Calls Tryz.prog 61 #[h.val, .slice A len c] w fun e w' => e = .returned (.tuple #[(selH (wholeE l) h).val, .int .i64 (wholeE l)]) ∧ Below w.heap.size w w' := by
  obtain ⟨b, o, rfl⟩ := hr.form (by omega)
  have rd6 := (hr.more hB).sub 6 2 (by omega)
  have hcs := wholeE_cases l
  have hnb := n2_bd (fun x hx => inr_u8 (hr.rng x hx)) (i := 6) (by rw [hr.len]; omega)
  unfold n2 at hcs hnb
  obtain ⟨N, hN⟩ : ∃ x, x = numOf (seg l 6 2) := ⟨_, rfl⟩
  rw [← hN] at hcs hnb
  replace hN := Lib.hid hN
  obtain ⟨x0, x1, x2, x3, x4, x5⟩ := h
  obtain ⟨E, hE⟩ : ∃ E, E = wholeE l := ⟨_, rfl⟩
  rw [← hE] at hcs ⊢
  replace hE := Lib.hid hE
  unfold Hd.val
  have bel : ∀ u v, Below w.heap.size w ((w.alloc (.cells #[.int .i64 x0, .int .i64 x1, .int .i64 x2, .int .i64 x3, .int .u32 x4, .int .u32 x5] u)).alloc v) := fun u v => ((Below.refl _ _).alloc (Nat.le_refl _) _).alloc (by simp) _
  replace bel := Lib.hid bel
  rcases hcs with ⟨he, hd⟩ | ⟨he, hd⟩ <;> replace he := Lib.hid he
  all_goals
    go_enter Tryz.func61, Tryz.ntmps61
    go_wp2_with (go_at_call 76; refine (num_any _ _ _ _ _ _ (by omega) (rd6.below (bel.out _ _))).mono ?_; rw [← hN.out]; rintro e w' ⟨rfl, rfl⟩)
  · exact bodyPost_ret (v := .tuple #[.agg #[.int .i64 x0, .int .i64 x1, .int .i64 x2, .int .i64 x3, .int .u32 x4, .int .u32 x5], .int .i64 0]) (by simp [results, Tryz.results61, go_sem]) rfl ⟨by rw [he.out]; rfl, bel.out _ _⟩
  · exact bodyPost_ret (v := .tuple #[Hd.z.val, .int .i64 5]) (by simp [results, Tryz.results61, go_sem, Hd.val, Hd.z]) rfl ⟨by rw [he.out]; rfl, bel.out _ _⟩
theorem getE_cases (l : List Int) :
    ((shapeE l 1500 = 2 ∨ shapeE l 1500 = 3) ∧ getE l = shapeE l 1500) ∨
    (shapeE l 1500 = 0 ∧ 20 ≤ l.length ∧ 20 ≤ l.getD 0 0 % 16 * 4 ∧ l.getD 0 0 % 16 * 4 ≤ l.length ∧ (l.length : Int) < n2 l 2 ∧ getE l = 2) ∨
    (shapeE l 1500 = 0 ∧ 20 ≤ l.length ∧ 20 ≤ l.getD 0 0 % 16 * 4 ∧ l.getD 0 0 % 16 * 4 ≤ l.length ∧ n2 l 2 ≤ l.length ∧ (sumOf (l.take (l.getD 0 0 % 16 * 4).toNat) != 0) = true ∧ getE l = 4) ∨
    (shapeE l 1500 = 0 ∧ 20 ≤ l.length ∧ 20 ≤ l.getD 0 0 % 16 * 4 ∧ l.getD 0 0 % 16 * 4 ≤ l.length ∧ n2 l 2 ≤ l.length ∧ (sumOf (l.take (l.getD 0 0 % 16 * 4).toNat) != 0) = false ∧ getE l = wholeE l) := by
  have h0 : shapeE l 1500 = 0 → 20 ≤ l.length ∧ 20 ≤ l.getD 0 0 % 16 * 4 ∧ l.getD 0 0 % 16 * 4 ≤ l.length := fun h => by
    rcases shape_cases l 1500 with h' | h' | h' | h' | h' | h' | h' <;> (try (have := h'.1; omega))
  have h1 : shapeE l 1500 = 0 ∨ shapeE l 1500 = 2 ∨ shapeE l 1500 = 3 := by
    rcases shape_cases l 1500 with h' | h' | h' | h' | h' | h' | h' <;> (have := h'.1; omega)
  unfold getE
  rcases h1 with h | h | h
  · obtain ⟨a, b, c⟩ := h0 h
    rw [if_neg (by simpa using h)]
    by_cases h2 : (l.length : Int) < n2 l 2
    · rw [if_pos h2]; exact .inr (.inl ⟨h, a, b, c, h2, rfl⟩)
    · rw [if_neg h2]
      by_cases h3 : sumOf (l.take (l.getD 0 0 % 16 * 4).toNat) = 0
      · rw [if_neg (by simpa using h3)]; exact .inr (.inr (.inr ⟨h, a, b, c, by omega, by simpa using h3, rfl⟩))
      · rw [if_pos h3]; exact .inr (.inr (.inl ⟨h, a, b, c, by omega, by simpa using h3, rfl⟩))
  · rw [if_pos (by omega)]; exact .inl ⟨.inl h, rfl⟩
  · rw [if_pos (by omega)]; exact .inl ⟨.inr h, rfl⟩
theorem shaped_err (l : List Int) (most : Int) (A : Option Addr) (len c B : Nat) (w : World) (hr : Rd .u8 w B A len l) (hB : B ≤ w.heap.size) (hlc : len ≤ c) (hcm : c ≤ 9223372036854775807) (h : shapeE l most ≠ 0) :
    Calls Tryz.prog 60 #[.slice A len c, .int .i64 most] w fun e w' => e = .returned (.tuple #[.agg #[.int .i64 0, .int .i64 0, .int .i64 0, .int .i64 0, .int .u32 0, .int .u32 0], .int .i64 (shapeE l most)]) ∧ Below w.heap.size w w' :=
  (shaped_any l most A len c B w hr hB hlc hcm).mono fun e w' ⟨h1, h2⟩ => ⟨by rw [h1]; unfold hdIf; rw [if_neg h]; rfl, h2⟩
theorem shaped_ok (l : List Int) (most : Int) (A : Option Addr) (len c B : Nat) (w : World) (hr : Rd .u8 w B A len l) (hB : B ≤ w.heap.size) (hlc : len ≤ c) (hcm : c ≤ 9223372036854775807) (h : shapeE l most = 0) (h0 h1 h2 h3 h4 h5 : Int) (hh : hdOf l = ⟨h0, h1, h2, h3, h4, h5⟩) :
    Calls Tryz.prog 60 #[.slice A len c, .int .i64 most] w fun e w' => e = .returned (.tuple #[.agg #[.int .i64 h0, .int .i64 h1, .int .i64 h2, .int .i64 h3, .int .u32 h4, .int .u32 h5], .int .i64 0]) ∧ Below w.heap.size w w' :=
  (shaped_any l most A len c B w hr hB hlc hcm).mono fun e w' ⟨e1, h2⟩ => ⟨by rw [e1]; unfold hdIf; rw [h, if_pos rfl, hh]; rfl, h2⟩
theorem whole_hd (l : List Int) (A : Option Addr) (len c B : Nat) (w : World) (hr : Rd .u8 w B A len l) (hB : B ≤ w.heap.size) (hlc : len ≤ c) (hcm : c ≤ 9223372036854775807) (h20 : 20 ≤ len)
    (h0 h1 h2 h3 h4 h5 y0 y1 y2 y3 y4 y5 E : Int) (hh : hdOf l = ⟨h0, h1, h2, h3, h4, h5⟩) (hy : hdIf l (wholeE l) = ⟨y0, y1, y2, y3, y4, y5⟩) (hE : wholeE l = E) :
    Calls Tryz.prog 61 #[.agg #[.int .i64 h0, .int .i64 h1, .int .i64 h2, .int .i64 h3, .int .u32 h4, .int .u32 h5], .slice A len c] w fun e w' => e = .returned (.tuple #[.agg #[.int .i64 y0, .int .i64 y1, .int .i64 y2, .int .i64 y3, .int .u32 y4, .int .u32 y5], .int .i64 E]) ∧ Below w.heap.size w w' := by
  have := whole_any (hdOf l) l A len c B w hr hB hlc hcm h20
  have e : selH (wholeE l) (hdOf l) = ⟨y0, y1, y2, y3, y4, y5⟩ := hy
  rw [e, hh, hE] at this
  exact this
set_option maxRecDepth 100000 in
set_option maxHeartbeats 2000000 in
theorem Get_any (l : List Int) (A : Option Addr) (len c B : Nat) (w : World) (hr : Rd .u8 w B A len l) (hB : B ≤ w.heap.size) (hlc : len ≤ c) (hcm : c ≤ 9223372036854775807) (hl : len ≤ 100000) :
    Calls Tryz.prog 37 #[.slice A len c] w fun e w' => e = .returned (.tuple #[(hdIf l (getE l)).val, .int .i64 (getE l)]) ∧ Below w.heap.size w w' := by
  have hcs := getE_cases l
  rw [hr.len] at hcs
  have hrB := hr.more hB
  have hdz : ∀ x : Int, x ≠ 0 → (hdIf l x).val = Hd.z.val := fun x hx => by unfold hdIf; rw [if_neg hx]
  replace hdz := Lib.hid hdz
  have hh : hdOf l = ⟨l.getD 0 0 % 16 * 4, n2 l 2, l.getD 8 0, l.getD 9 0, n4 l 12, n4 l 16⟩ := rfl
  rcases hcs with ⟨h, e⟩ | ⟨h, h20, h1, h2, h3, e⟩ | ⟨h, h20, h1, h2, h3, hs, e⟩ | ⟨h, h20, h1, h2, h3, hs, e⟩
  · have hsh := fun W' hr => shaped_err l 1500 A len c _ W' hr (Nat.le_refl _) hlc hcm (by omega)
    rw [e]
    replace hdz := hdz.out _ (show shapeE l 1500 ≠ 0 by omega)
    rw [hdz]
    clear hdz e hh
    have hb : (shapeE l 1500 != 0) = true := by simp; omega
    obtain ⟨E, hE⟩ : ∃ E, E = shapeE l 1500 := ⟨_, rfl⟩
    rw [← hE] at hb hsh ⊢
    replace hsh := Lib.hid hsh
    clear h hE
    go_enter Tryz.func37, Tryz.ntmps37
    go_wp2_with (go_at_call 60; refine (hsh.out _ (hrB.alloc (Nat.le_refl _) _ |>.more (by simp))).mono ?_; rintro e w1 ⟨rfl, hb1⟩; obtain ⟨hc, hf⟩ := bcell hb1; have hz : w.heap.size < w1.heap.size := (by have := hb1.size; simp at this; omega))
    exact bodyPost_ret (v := .tuple #[Hd.z.val, .int .i64 E]) (by simp [results, Tryz.results37, go_sem, Hd.val, Hd.z, hc, hf, hz]) rfl ⟨rfl, by
      have hb0 : Below w.heap.size w w1 := bel_after (bel_alloc _ _) hb1
      (repeat (first | (with_reducible exact hb0) | (with_reducible refine Below.setCell ?_ ?_ _; rotate_left; · (first | omega | (simp; done) | (simp; omega) | (have hsz := Below.size hb0; omega) | (have hsz := Below.size hb0; simp; omega))) | (with_reducible refine Below.alloc ?_ ?_ _; rotate_left; · (first | omega | (simp; done) | (simp; omega) | (have hsz := Below.size hb0; omega) | (have hsz := Below.size hb0; simp; omega))) | (with_reducible refine below_drewN ?_ _) | (with_reducible refine Below.drew ?_)))⟩
  all_goals
    have hsh := fun W' hr => shaped_ok l 1500 A len c _ W' hr (Nat.le_refl _) hlc hcm h _ _ _ _ _ _ hh
    obtain ⟨y0, y1, y2, y3, y4, y5, hy⟩ : ∃ y0 y1 y2 y3 y4 y5 : Int, hdIf l (wholeE l) = ⟨y0, y1, y2, y3, y4, y5⟩ := ⟨_, _, _, _, _, _, rfl⟩
    obtain ⟨E, hE⟩ : ∃ E, wholeE l = E := ⟨_, rfl⟩
    have hwh := fun W' hr => whole_hd l A len c _ W' hr (Nat.le_refl _) hlc hcm h20 _ _ _ _ _ _ _ _ _ _ _ _ _ hh hy hE
    replace hy := Lib.hid hy
    replace hE := Lib.hid hE
    have hof := fun W' k hr => Of_any (l.take (l.getD 0 0 % 16 * 4).toNat) A (l.getD 0 0 % 16 * 4).toNat c k W' (by omega) hr
    obtain ⟨k, hk⟩ : ∃ k : Nat, l.getD 0 0 % 16 * 4 = (k : Int) := ⟨(l.getD 0 0 % 16 * 4).toNat, by omega⟩
    have hrk := hrB.take (m := k) (by omega)
    rw [hk] at h1 h2 hsh hof hwh
    try rw [hk] at hs
    rw [Int.toNat_natCast] at hof
    try rw [Int.toNat_natCast] at hs
    obtain ⟨N, hN⟩ : ∃ N, N = n2 l 2 := ⟨_, rfl⟩
    rw [← hN] at h3 hsh hwh
    obtain ⟨f8, hf8⟩ : ∃ N, N = l.getD 8 0 := ⟨_, rfl⟩
    rw [← hf8] at hsh hwh
    obtain ⟨f9, hf9⟩ : ∃ N, N = l.getD 9 0 := ⟨_, rfl⟩
    rw [← hf9] at hsh hwh
    obtain ⟨f12, hf12⟩ : ∃ N, N = n4 l 12 := ⟨_, rfl⟩
    rw [← hf12] at hsh hwh
    obtain ⟨f16, hf16⟩ : ∃ N, N = n4 l 16 := ⟨_, rfl⟩
    rw [← hf16] at hsh hwh
    obtain ⟨S, hS⟩ : ∃ S, S = sumOf (l.take k) := ⟨_, rfl⟩
    rw [← hS] at hof
    try rw [← hS] at hs
    replace hsh := Lib.hid hsh
    replace hwh := Lib.hid hwh
    replace hof := Lib.hid hof
    replace hh := Lib.hid hh
    replace hk := Lib.hid hk
    rw [e]
    clear h e hN hf8 hf9 hf12 hf16 hS
  · rw [hdz.out 2 (by decide)]
    go_enter Tryz.func37, Tryz.ntmps37
    go_wp2_with (go_at_call 60; refine (hsh.out _ (hrB.alloc (Nat.le_refl _) _ |>.more (by simp))).mono ?_; rintro e w1 ⟨rfl, hb1⟩; obtain ⟨hc, hf⟩ := bcell hb1; have hz : w.heap.size < w1.heap.size := (by have := hb1.size; simp at this; omega))
    exact bodyPost_ret (v := .tuple #[Hd.z.val, .int .i64 2]) (by simp [results, Tryz.results37, go_sem, Hd.val, Hd.z, hc, hf, hz]) rfl ⟨rfl, by
      have hb0 : Below w.heap.size w w1 := bel_after (bel_alloc _ _) hb1
      (repeat (first | (with_reducible exact hb0) | (with_reducible refine Below.setCell ?_ ?_ _; rotate_left; · (first | omega | (simp; done) | (simp; omega) | (have hsz := Below.size hb0; omega) | (have hsz := Below.size hb0; simp; omega))) | (with_reducible refine Below.alloc ?_ ?_ _; rotate_left; · (first | omega | (simp; done) | (simp; omega) | (have hsz := Below.size hb0; omega) | (have hsz := Below.size hb0; simp; omega))) | (with_reducible refine below_drewN ?_ _) | (with_reducible refine Below.drew ?_)))⟩
  · rw [hdz.out 4 (by decide)]
    go_enter Tryz.func37, Tryz.ntmps37
    go_wp2_with (first | (go_at_call 60; refine (hsh.out _ (hrB.alloc (Nat.le_refl _) _ |>.more (by simp))).mono ?_; rintro e w1 ⟨rfl, hb1⟩; obtain ⟨hc, hf⟩ := bcell hb1; have hz : w.heap.size < w1.heap.size := (by have := hb1.size; simp at this; omega); have hb0 : Below w.heap.size w w1 := bel_after (bel_alloc _ _) hb1) | (go_at_call 55; refine (hof.out _ w.heap.size (hrk.below (by (repeat (first | (with_reducible exact hb0) | (with_reducible refine Below.setCell ?_ ?_ _; rotate_left; · (first | omega | (simp; done) | (simp; omega) | (have hsz := Below.size hb0; omega) | (have hsz := Below.size hb0; simp; omega))) | (with_reducible refine Below.alloc ?_ ?_ _; rotate_left; · (first | omega | (simp; done) | (simp; omega) | (have hsz := Below.size hb0; omega) | (have hsz := Below.size hb0; simp; omega))) | (with_reducible refine below_drewN ?_ _) | (with_reducible refine Below.drew ?_)))))).mono ?_; rintro e w2 ⟨rfl, rfl⟩))
    exact bodyPost_ret (v := .tuple #[Hd.z.val, .int .i64 4]) (by simp [results, Tryz.results37, go_sem, Hd.val, Hd.z, hc, hf, hz]) rfl ⟨rfl, by (repeat (first | (with_reducible exact hb0) | (with_reducible refine Below.setCell ?_ ?_ _; rotate_left; · (first | omega | (simp; done) | (simp; omega) | (have hsz := Below.size hb0; omega) | (have hsz := Below.size hb0; simp; omega))) | (with_reducible refine Below.alloc ?_ ?_ _; rotate_left; · (first | omega | (simp; done) | (simp; omega) | (have hsz := Below.size hb0; omega) | (have hsz := Below.size hb0; simp; omega))) | (with_reducible refine below_drewN ?_ _) | (with_reducible refine Below.drew ?_)))⟩
  · go_enter Tryz.func37, Tryz.ntmps37
    go_wp2_with (first | (go_at_call 60; refine (hsh.out _ (hrB.alloc (Nat.le_refl _) _ |>.more (by simp))).mono ?_; rintro e w1 ⟨rfl, hb1⟩; obtain ⟨hc, hf⟩ := bcell hb1; have hz : w.heap.size < w1.heap.size := (by have := hb1.size; simp at this; omega); have hb0 : Below w.heap.size w w1 := bel_after (bel_alloc _ _) hb1) | (go_at_call 55; refine (hof.out _ w.heap.size (hrk.below (by (repeat (first | (with_reducible exact hb0) | (with_reducible refine Below.setCell ?_ ?_ _; rotate_left; · (first | omega | (simp; done) | (simp; omega) | (have hsz := Below.size hb0; omega) | (have hsz := Below.size hb0; simp; omega))) | (with_reducible refine Below.alloc ?_ ?_ _; rotate_left; · (first | omega | (simp; done) | (simp; omega) | (have hsz := Below.size hb0; omega) | (have hsz := Below.size hb0; simp; omega))) | (with_reducible refine below_drewN ?_ _) | (with_reducible refine Below.drew ?_)))))).mono ?_; rintro e w2 ⟨rfl, rfl⟩))
    refine (hwh.out _ ((hrB.below (by (repeat (first | (with_reducible exact hb0) | (with_reducible refine Below.setCell ?_ ?_ _; rotate_left; · (first | omega | (simp; done) | (simp; omega) | (have hsz := Below.size hb0; omega) | (have hsz := Below.size hb0; simp; omega))) | (with_reducible refine Below.alloc ?_ ?_ _; rotate_left; · (first | omega | (simp; done) | (simp; omega) | (have hsz := Below.size hb0; omega) | (have hsz := Below.size hb0; simp; omega))) | (with_reducible refine below_drewN ?_ _) | (with_reducible refine Below.drew ?_))))).more ?hle)).mono ?_
    · simp; omega
    rintro e w2 ⟨rfl, hb2⟩
    have hb3 : Below w.heap.size w w2 := bel_after (by (repeat (first | (with_reducible exact hb0) | (with_reducible refine Below.setCell ?_ ?_ _; rotate_left; · (first | omega | (simp; done) | (simp; omega) | (have hsz := Below.size hb0; omega) | (have hsz := Below.size hb0; simp; omega))) | (with_reducible refine Below.alloc ?_ ?_ _; rotate_left; · (first | omega | (simp; done) | (simp; omega) | (have hsz := Below.size hb0; omega) | (have hsz := Below.size hb0; simp; omega))) | (with_reducible refine below_drewN ?_ _) | (with_reducible refine Below.drew ?_)))) hb2
    obtain ⟨hc2, hf2⟩ := bcell hb2
    have hz2 : w.heap.size < w2.heap.size := (by have := hb2.size; simp at this; omega)
    have hz3 : w.heap.size < w1.heap.size + 1 := by omega
    clear hb1
    go_wp2
    exact bodyPost_ret (v := .tuple #[.agg #[.int .i64 y0, .int .i64 y1, .int .i64 y2, .int .i64 y3, .int .u32 y4, .int .u32 y5], .int .i64 E]) (by simp [results, Tryz.results37, go_sem, hc2, hf2, hz2, hz3, hc, hf, hz]) rfl ⟨by rw [hy.out, hE.out]; rfl, by (repeat (first | (with_reducible exact hb3) | (with_reducible refine Below.setCell ?_ ?_ _; rotate_left; · (first | omega | (simp; done) | (simp; omega) | (have hsz := Below.size hb3; omega) | (have hsz := Below.size hb3; simp; omega))) | (with_reducible refine Below.alloc ?_ ?_ _; rotate_left; · (first | omega | (simp; done) | (simp; omega) | (have hsz := Below.size hb3; omega) | (have hsz := Below.size hb3; simp; omega))) | (with_reducible refine below_drewN ?_ _) | (with_reducible refine Below.drew ?_)))⟩
theorem partE_cases (l : List Int) :
    ((shapeE l 65535 = 2 ∨ shapeE l 65535 = 3) ∧ partE l = shapeE l 65535) ∨ (shapeE l 65535 = 0 ∧ 20 ≤ l.length ∧ partE l = wholeE l) := by
  have h0 : shapeE l 65535 = 0 → 20 ≤ l.length := fun h => by
    rcases shape_cases l 65535 with h' | h' | h' | h' | h' | h' | h' <;> (have := h'.1; omega)
  have h1 : shapeE l 65535 = 0 ∨ shapeE l 65535 = 2 ∨ shapeE l 65535 = 3 := by
    rcases shape_cases l 65535 with h' | h' | h' | h' | h' | h' | h' <;> (have := h'.1; omega)
  unfold partE
  rcases h1 with h | h | h
  · rw [if_neg (by simpa using h)]; exact .inr ⟨h, h0 h, rfl⟩
  · rw [if_pos (by omega)]; exact .inl ⟨.inl h, rfl⟩
  · rw [if_pos (by omega)]; exact .inl ⟨.inr h, rfl⟩
set_option maxRecDepth 100000 in
set_option maxHeartbeats 2000000 in
theorem Part_any (l : List Int) (A : Option Addr) (len c B : Nat) (w : World) (hr : Rd .u8 w B A len l) (hB : B ≤ w.heap.size) (hlc : len ≤ c) (hcm : c ≤ 9223372036854775807) :
    Calls Tryz.prog 84 #[.slice A len c] w fun e w' => e = .returned (.tuple #[(hdIf l (partE l)).val, .int .i64 (partE l)]) ∧ Below w.heap.size w w' := by
  have hcs := partE_cases l
  rw [hr.len] at hcs
  have hrB := hr.more hB
  have hh : hdOf l = ⟨l.getD 0 0 % 16 * 4, n2 l 2, l.getD 8 0, l.getD 9 0, n4 l 12, n4 l 16⟩ := rfl
  rcases hcs with ⟨h, e⟩ | ⟨h, h20, e⟩
  · have hsh := fun W' hr => shaped_err l 65535 A len c _ W' hr (Nat.le_refl _) hlc hcm (by omega)
    have hdz : (hdIf l (shapeE l 65535)).val = Hd.z.val := by unfold hdIf; rw [if_neg (by omega)]
    rw [e, hdz]
    clear hdz e hh
    have hb : (shapeE l 65535 != 0) = true := by simp; omega
    obtain ⟨E, hE⟩ : ∃ E, E = shapeE l 65535 := ⟨_, rfl⟩
    rw [← hE] at hb hsh ⊢
    replace hsh := Lib.hid hsh
    clear h hE
    go_enter Tryz.func84, Tryz.ntmps84
    go_wp2_with (go_at_call 60; refine (hsh.out _ (hrB.alloc (Nat.le_refl _) _ |>.more (by simp))).mono ?_; rintro e w1 ⟨rfl, hb1⟩; obtain ⟨hc, hf⟩ := bcell hb1; have hz : w.heap.size < w1.heap.size := (by have := hb1.size; simp at this; omega); have hb0 : Below w.heap.size w w1 := bel_after (bel_alloc _ _) hb1)
    exact bodyPost_ret (v := .tuple #[Hd.z.val, .int .i64 E]) (by simp [results, Tryz.results84, go_sem, Hd.val, Hd.z, hc, hf, hz]) rfl ⟨rfl, by (repeat (first | (with_reducible exact hb0) | (with_reducible refine Below.setCell ?_ ?_ _; rotate_left; · (first | omega | (simp; done) | (simp; omega) | (have hsz := Below.size hb0; omega) | (have hsz := Below.size hb0; simp; omega))) | (with_reducible refine Below.alloc ?_ ?_ _; rotate_left; · (first | omega | (simp; done) | (simp; omega) | (have hsz := Below.size hb0; omega) | (have hsz := Below.size hb0; simp; omega))) | (with_reducible refine below_drewN ?_ _) | (with_reducible refine Below.drew ?_)))⟩
  · obtain ⟨y0, y1, y2, y3, y4, y5, hy⟩ : ∃ y0 y1 y2 y3 y4 y5 : Int, hdIf l (wholeE l) = ⟨y0, y1, y2, y3, y4, y5⟩ := ⟨_, _, _, _, _, _, rfl⟩
    obtain ⟨E, hE⟩ : ∃ E, wholeE l = E := ⟨_, rfl⟩
    rw [e, hy, hE]
    unfold Hd.val
    simp only
    obtain ⟨f0, f1, f2, f3, f4, f5, hh⟩ : ∃ y0 y1 y2 y3 y4 y5 : Int, hdOf l = ⟨y0, y1, y2, y3, y4, y5⟩ := ⟨_, _, _, _, _, _, rfl⟩
    have hwh := fun W' hr => whole_hd l A len c _ W' hr (Nat.le_refl _) hlc hcm h20 _ _ _ _ _ _ _ _ _ _ _ _ _ hh hy hE
    have hsh := fun W' hr => shaped_ok l 65535 A len c _ W' hr (Nat.le_refl _) hlc hcm h _ _ _ _ _ _ hh
    replace hsh := Lib.hid hsh
    replace hwh := Lib.hid hwh
    clear hh hy hE h e
    go_enter Tryz.func84, Tryz.ntmps84
    go_wp2_with (go_at_call 60; refine (hsh.out _ (hrB.alloc (Nat.le_refl _) _ |>.more (by simp))).mono ?_; rintro e w1 ⟨rfl, hb1⟩; obtain ⟨hc, hf⟩ := bcell hb1; have hz : w.heap.size < w1.heap.size := (by have := hb1.size; simp at this; omega); have hb0 : Below w.heap.size w w1 := bel_after (bel_alloc _ _) hb1)
    refine (hwh.out _ ((hrB.below (by (repeat (first | (with_reducible exact hb0) | (with_reducible refine Below.setCell ?_ ?_ _; rotate_left; · (first | omega | (simp; done) | (simp; omega) | (have hsz := Below.size hb0; omega) | (have hsz := Below.size hb0; simp; omega))) | (with_reducible refine Below.alloc ?_ ?_ _; rotate_left; · (first | omega | (simp; done) | (simp; omega) | (have hsz := Below.size hb0; omega) | (have hsz := Below.size hb0; simp; omega))) | (with_reducible refine below_drewN ?_ _) | (with_reducible refine Below.drew ?_))))).more ?hle)).mono ?_
    · simp; omega
    rintro e w2 ⟨rfl, hb2⟩
    have hb3 : Below w.heap.size w w2 := bel_after (by (repeat (first | (with_reducible exact hb0) | (with_reducible refine Below.setCell ?_ ?_ _; rotate_left; · (first | omega | (simp; done) | (simp; omega) | (have hsz := Below.size hb0; omega) | (have hsz := Below.size hb0; simp; omega))) | (with_reducible refine Below.alloc ?_ ?_ _; rotate_left; · (first | omega | (simp; done) | (simp; omega) | (have hsz := Below.size hb0; omega) | (have hsz := Below.size hb0; simp; omega))) | (with_reducible refine below_drewN ?_ _) | (with_reducible refine Below.drew ?_)))) hb2
    obtain ⟨hc2, hf2⟩ := bcell hb2
    have hz2 : w.heap.size < w2.heap.size := (by have := hb2.size; simp at this; omega)
    have hz3 : w.heap.size < w1.heap.size + 1 := by omega
    clear hb1
    go_wp2
    exact bodyPost_ret (v := .tuple #[.agg #[.int .i64 y0, .int .i64 y1, .int .i64 y2, .int .i64 y3, .int .u32 y4, .int .u32 y5], .int .i64 E]) (by simp [results, Tryz.results84, go_sem, hc2, hf2, hz2, hz3, hc, hf, hz]) rfl ⟨rfl, by (repeat (first | (with_reducible exact hb3) | (with_reducible refine Below.setCell ?_ ?_ _; rotate_left; · (first | omega | (simp; done) | (simp; omega) | (have hsz := Below.size hb3; omega) | (have hsz := Below.size hb3; simp; omega))) | (with_reducible refine Below.alloc ?_ ?_ _; rotate_left; · (first | omega | (simp; done) | (simp; omega) | (have hsz := Below.size hb3; omega) | (have hsz := Below.size hb3; simp; omega))) | (with_reducible refine below_drewN ?_ _) | (with_reducible refine Below.drew ?_)))⟩
end Go.Proofs.YtilhkhnjloplfaaGreatDoor
namespace Go.Proofs.YtilhkhnjloplfaaGreatDoor
set_option linter.unusedVariables false
set_option linter.unusedSimpArgs false
open Go.RowKit
def Pt.val (p : Pt) : Value := .agg #[.int .i64 p.proto, .int .u16 p.src, .int .u16 p.dst, .int .i64 p.flags, .int .i64 p.kind, .int .i64 p.code, .bool p.err, .int .i64 p.inner.size, .int .i64 p.inner.len, .int .i64 p.inner.ttl, .int .i64 p.inner.proto, .int .u32 p.inner.src, .int .u32 p.inner.dst, .int .i64 p.pat, .bool p.bare]
theorem info_part : (Tryz.prog.info? 87).map (fun i => (i.zero, i.size)) = some (some (.agg #[.int .i64 Pt.z.proto, .int .u16 Pt.z.src, .int .u16 Pt.z.dst, .int .i64 Pt.z.flags, .int .i64 Pt.z.kind, .int .i64 Pt.z.code, .bool Pt.z.err, .int .i64 Pt.z.inner.size, .int .i64 Pt.z.inner.len, .int .i64 Pt.z.inner.ttl, .int .i64 Pt.z.inner.proto, .int .u32 Pt.z.inner.src, .int .u32 Pt.z.inner.dst, .int .i64 Pt.z.pat, .bool Pt.z.bare]), 15) := by kernel_rfl
/-- a place for a Part -/
def IsPt (W : World) (g : Nat) : Prop := ∃ cs, cs.size = 15 ∧ Blk W g 87 cs
theorem IsPt.of {W : World} {g : Nat} {cs : Array Value} (h : Blk W g 87 cs) (hs : cs.size = 15) : IsPt W g := ⟨cs, hs, h⟩
section
variable {P : Program} {ops : Array Oper} {Q : Exit → Act → World → Prop} {a : Act} {w : World} {rest : List Oper} {o : Oper}
end
theorem pt_size : (Tryz.prog.info? 87).map (·.size) = some 15 := (zero_of_info info_part).2
end Go.Proofs.YtilhkhnjloplfaaGreatDoor
namespace Go.Proofs.YtilhkhnjloplfaaGreatDoor
set_option linter.unusedVariables false
set_option linter.unusedSimpArgs false
open Go.RowKit
set_option maxHeartbeats 1000000 in
theorem ports_any (p : Pt) (l : List Int) (b o len c B : Nat) (w : World) (hr : Rd .u8 w B (some ⟨b, o, none⟩) len l) (hB : B ≤ w.heap.size) (h4 : 4 ≤ len) (hlc : len ≤ c) (hcm : c ≤ 9223372036854775807) :
    Calls Tryz.prog 78 #[p.val, .slice (some ⟨b, o, none⟩) len c] w fun e w' => e = .returned (portsP p l 0 2).val ∧ Below w.heap.size w w' := by
  obtain ⟨c0, x0⟩ := hr.cell 0 (by omega)
  obtain ⟨c1, x1⟩ := hr.cell 1 (by omega)
  obtain ⟨c2, x2⟩ := hr.cell 2 (by omega)
  obtain ⟨c3, x3⟩ := hr.cell 3 (by omega)
  have hn0 := n2_eq l 0 (by rw [hr.len]; omega)
  have hn2 := n2_eq l 2 (by rw [hr.len]; omega)
  obtain ⟨pr, sr, ds, fl, ki, co, er, ⟨i0, i1, i2, i3, i4, i5⟩, pa, ba⟩ := p
  unfold Pt.val portsP
  simp only
  obtain ⟨N0, hN0⟩ : ∃ N, N = n2 l 0 := ⟨_, rfl⟩
  obtain ⟨N2, hN2⟩ : ∃ N, N = n2 l 2 := ⟨_, rfl⟩
  rw [← hN0] at hn0 ⊢
  rw [← hN2] at hn2 ⊢
  have hp0 := fun w' (hb : Below w.heap.size w w') => pnum_any b o len c _ _ w' (by omega) (inr_u8 x0) (inr_u8 x1) ((hb.cell (p := ⟨b, o + 0, none⟩) (cell_lt c0)).trans c0) ((hb.cell (p := ⟨b, o + 1, none⟩) (cell_lt c1)).trans c1)
  have hp2 := fun w' (hb : Below w.heap.size w w') => pnum_any b (o + 2) (len - 2) (c - 2) _ _ w' (by omega) (inr_u8 x2) (inr_u8 x3) ((hb.cell (p := ⟨b, o + 2, none⟩) (cell_lt c2)).trans c2) ((hb.cell (p := ⟨b, o + 3, none⟩) (cell_lt c3)).trans c3)
  simp only [Nat.zero_add, Nat.reduceAdd] at hn0 hn2
  rw [← hn0] at hp0
  rw [← hn2] at hp2
  replace hp0 := Lib.hid hp0
  replace hp2 := Lib.hid hp2
  clear hN0 hN2 hn0 hn2 c0 c1 c2 c3 x0 x1 x2 x3 hr
  have hc2 : (c = 2) = False := by simp; omega
  go_enter Tryz.func78, Tryz.ntmps78
  go_wp2_with fail
  have bk2 := (Blk.new w 87 #[.int .i64 pr, .int .u16 sr, .int .u16 ds, .int .i64 fl, .int .i64 ki, .int .i64 co, .bool er, .int .i64 i0, .int .i64 i1, .int .i64 i2, .int .i64 i3, .int .u32 i4, .int .u32 i5, .int .i64 pa, .bool ba]).alloc (.cells #[.int .i64 0, .int .u16 0, .int .u16 0, .int .i64 0, .int .i64 0, .int .i64 0, .bool false, .int .i64 0, .int .i64 0, .int .i64 0, .int .i64 0, .int .u32 0, .int .u32 0, .int .i64 0, .bool false] 87)
  have bk4 := Blk.new (w.alloc (.cells #[.int .i64 pr, .int .u16 sr, .int .u16 ds, .int .i64 fl, .int .i64 ki, .int .i64 co, .bool er, .int .i64 i0, .int .i64 i1, .int .i64 i2, .int .i64 i3, .int .u32 i4, .int .u32 i5, .int .i64 pa, .bool ba] 87)) 87 #[.int .i64 0, .int .u16 0, .int .u16 0, .int .i64 0, .int .i64 0, .int .i64 0, .bool false, .int .i64 0, .int .i64 0, .int .i64 0, .int .i64 0, .int .u32 0, .int .u32 0, .int .i64 0, .bool false]
  have bel : Below w.heap.size w ((w.alloc (.cells #[.int .i64 pr, .int .u16 sr, .int .u16 ds, .int .i64 fl, .int .i64 ki, .int .i64 co, .bool er, .int .i64 i0, .int .i64 i1, .int .i64 i2, .int .i64 i3, .int .u32 i4, .int .u32 i5, .int .i64 pa, .bool ba] 87)).alloc (.cells #[.int .i64 0, .int .u16 0, .int .u16 0, .int .i64 0, .int .i64 0, .int .i64 0, .bool false, .int .i64 0, .int .i64 0, .int .i64 0, .int .i64 0, .int .u32 0, .int .u32 0, .int .i64 0, .bool false] 87)) := (bel_alloc _ _).alloc (by simp) _
  rw [show (w.alloc (.cells #[.int .i64 pr, .int .u16 sr, .int .u16 ds, .int .i64 fl, .int .i64 ki, .int .i64 co, .bool er, .int .i64 i0, .int .i64 i1, .int .i64 i2, .int .i64 i3, .int .u32 i4, .int .u32 i5, .int .i64 pa, .bool ba] 87)).heap.size = w.heap.size + 1 by simp] at bk4
  have hsz : ((w.alloc (.cells #[.int .i64 pr, .int .u16 sr, .int .u16 ds, .int .i64 fl, .int .i64 ki, .int .i64 co, .bool er, .int .i64 i0, .int .i64 i1, .int .i64 i2, .int .i64 i3, .int .u32 i4, .int .u32 i5, .int .i64 pa, .bool ba] 87)).alloc (.cells #[.int .i64 0, .int .u16 0, .int .u16 0, .int .i64 0, .int .i64 0, .int .i64 0, .bool false, .int .i64 0, .int .i64 0, .int .i64 0, .int .i64 0, .int .u32 0, .int .u32 0, .int .i64 0, .bool false] 87)).heap.size = w.heap.size + 2 := by simp
  generalize (w.alloc (.cells #[.int .i64 pr, .int .u16 sr, .int .u16 ds, .int .i64 fl, .int .i64 ki, .int .i64 co, .bool er, .int .i64 i0, .int .i64 i1, .int .i64 i2, .int .i64 i3, .int .u32 i4, .int .u32 i5, .int .i64 pa, .bool ba] 87)).alloc (.cells #[.int .i64 0, .int .u16 0, .int .u16 0, .int .i64 0, .int .i64 0, .int .i64 0, .bool false, .int .i64 0, .int .i64 0, .int .i64 0, .int .i64 0, .int .u32 0, .int .u32 0, .int .i64 0, .bool false] 87) = W0 at *
  have : Nonempty (Tw (fun w' => Below w.heap.size w w')) := ⟨⟨_, bel⟩⟩
  refine wp_region_plan (fun w' => Below w.heap.size w w') [(0, true), (2, true), (3, true), (1, false), (5, true), (4, false), (6, false), (7, true), (8, false)] (by kernel_rfl) (by kernel_rfl) (by kernel_rfl) (by kernel_rfl) bel.drew ?_
  refine wpPl_qs 3 _ _ _ (by kernel_rfl) (by kernel_rfl) (by simp) ?_
  unfold clsS
  simp only [List.take_succ_cons, List.take_zero, List.drop_succ_cons, List.drop_zero, List.filterMap_cons, List.filterMap_nil, List.getElem?_toArray, List.getElem?_cons_zero, List.getElem?_cons_succ]
  repeat (first
    | go_big_quiet_skip
    | (go_big_quiet_want; go_big_quiet_op; go_big_quiet_on)
    | (refine id (?_ : wpQuiet _ _ _ _ (_ :: _) _); first | go_big_quiet_skip | (go_big_quiet_want; go_big_quiet_op; go_big_quiet_on)))
  refine wpQuiet_nil ?_
  refine wpPl_e _ (by rfl) (by kernel_rfl) (fun K hK => ?_)
  go_simp
  refine (hp0.out _ bel.drew).mono ?_
  rintro e w1 ⟨rfl, hb1⟩
  have bel1 := bel_after bel.drew hb1
  have bk2 := bk2.drew.bel hb1
  have bk4 := bk4.drew.bel hb1
  refine hK _ _ bel1 ?_
  clear hK K
  refine wpPl_qs 1 _ _ _ (by kernel_rfl) (by kernel_rfl) (by simp) ?_
  unfold clsS
  simp only [List.take_succ_cons, List.take_zero, List.drop_succ_cons, List.drop_zero, List.filterMap_cons, List.filterMap_nil, List.getElem?_toArray, List.getElem?_cons_zero, List.getElem?_cons_succ]
  repeat (first
    | go_big_quiet_skip
    | (go_big_quiet_want; go_big_quiet_op; go_big_quiet_on)
    | (refine id (?_ : wpQuiet _ _ _ _ (_ :: _) _); first | go_big_quiet_skip | (go_big_quiet_want; go_big_quiet_op; go_big_quiet_on)))
  refine wpQuiet_nil ?_
  refine wpPl_e _ (by rfl) (by kernel_rfl) (fun K hK => ?_)
  go_simp
  refine (hp2.out _ bel1).mono ?_
  rintro e w2 ⟨rfl, hb2⟩
  have bel2 := bel_after bel1 hb2
  have bk2 := bk2.bel hb2
  have bk4 := bk4.bel hb2
  have hs2 : w.heap.size + 1 < w2.heap.size := bk4.lt
  refine hK _ _ bel2 ?_
  clear hK K
  clear hb1 hb2 bel1 bel hsz
  have q1 := bk2.cell 1
  have r1 := bk2.frozen 1
  refine wpPl_e _ (by rfl) (by kernel_rfl) (fun K hK => ?_)
  go_simp
  have bk2' := bk2.set_ 1 (.int .u16 N0)
  have bk4' := bk4.far (p := ⟨w.heap.size, 1, none⟩) (by show w.heap.size + 1 ≠ w.heap.size; omega) (.int .u16 N0)
  have bel3 := bel2.setCell (p := ⟨w.heap.size, 1, none⟩) (Nat.le_refl _) (.int .u16 N0)
  refine hK _ _ bel3 ?_
  clear hK K q1 r1
  refine wpPl_qs 1 _ _ _ (by kernel_rfl) (by kernel_rfl) (by simp) ?_
  unfold clsS
  simp only [List.take_succ_cons, List.take_zero, List.drop_succ_cons, List.drop_zero, List.filterMap_cons, List.filterMap_nil, List.getElem?_toArray, List.getElem?_cons_zero, List.getElem?_cons_succ]
  repeat (first
    | go_big_quiet_skip
    | (go_big_quiet_want; go_big_quiet_op; go_big_quiet_on)
    | (refine id (?_ : wpQuiet _ _ _ _ (_ :: _) _); first | go_big_quiet_skip | (go_big_quiet_want; go_big_quiet_op; go_big_quiet_on)))
  refine wpQuiet_nil ?_
  have q2 := bk2'.cell 2
  have r2 := bk2'.frozen 2
  refine wpPl_e _ (by rfl) (by kernel_rfl) (fun K hK => ?_)
  go_simp
  have bk2 := bk2'.set_ 2 (.int .u16 N2)
  have bk4 := bk4'.far (p := ⟨w.heap.size, 2, none⟩) (by show w.heap.size + 1 ≠ w.heap.size; omega) (.int .u16 N2)
  have bel4 := bel3.setCell (p := ⟨w.heap.size, 2, none⟩) (Nat.le_refl _) (.int .u16 N2)
  refine hK _ _ bel4 ?_
  clear hK K q2 r2 bk2' bk4' bel3 bel2
  unfold wpPl
  refine NoPanic.normal ?_
  have hs3 : w.heap.size + 1 < ((w2.setCell ⟨w.heap.size, 1, none⟩ (.int .u16 N0)).setCell ⟨w.heap.size, 2, none⟩ (.int .u16 N2)).heap.size := bk4.lt
  generalize (w2.setCell ⟨w.heap.size, 1, none⟩ (.int .u16 N0)).setCell ⟨w.heap.size, 2, none⟩ (.int .u16 N2) = W3 at *
  have is4 := IsPt.of bk4 rfl
  have hc2 := bk2.cell
  simp only [List.setIfInBounds_toArray, List.set_cons_succ, List.set_cons_zero] at bk2
  go_wp2_with (first
    | (refine wpList_ldRow rfl rfl rfl bk2 Tryz.underlying87 pt_size ?_)
    | (refine wpList_stRow rfl rfl rfl rfl rfl bk4 pt_size rfl (by simp [Value.oneCell']) ?_))
  exact bodyPost_ret (results_row rfl _ rfl (bk4.setRow _) Tryz.underlying87 pt_size) rfl ⟨rfl, below_setRow bel4 (by omega) _⟩
end Go.Proofs.YtilhkhnjloplfaaGreatDoor
namespace Go.Proofs.YtilhkhnjloplfaaGreatDoor
set_option linter.unusedVariables false
set_option linter.unusedSimpArgs false
open Go.RowKit
/-- what a reader of parts answers -/
def Tells (w : World) (r : PR) (e : Ending) (w' : World) : Prop := e = .returned (.tuple #[r.2.val, .int .i64 r.1]) ∧ Below w.heap.size w w'
theorem udpR_cases (h : Hd) (l : List Int) :
    (l.length < 8 ∧ udpR h l = (2, Pt.z)) ∨ (8 ≤ l.length ∧ n2 l 4 ≠ l.length ∧ udpR h l = (3, Pt.z)) ∨
    (8 ≤ l.length ∧ n2 l 4 = l.length ∧ n2 l 6 ≠ 0 ∧ csum h.src h.dst 17 l ≠ 0 ∧ udpR h l = (4, Pt.z)) ∨
    (8 ≤ l.length ∧ n2 l 4 = l.length ∧ n2 l 6 ≠ 0 ∧ csum h.src h.dst 17 l = 0 ∧ udpR h l = (0, portsP { Pt.z with proto := 17, bare := false } l 0 2)) ∨
    (8 ≤ l.length ∧ n2 l 4 = l.length ∧ n2 l 6 = 0 ∧ udpR h l = (0, portsP { Pt.z with proto := 17, bare := true } l 0 2)) := by
  unfold udpR
  by_cases h1 : l.length < 8
  · rw [if_pos h1]; exact .inl ⟨h1, rfl⟩
  · rw [if_neg h1]
    by_cases h2 : n2 l 4 = l.length
    · rw [if_neg (by simpa using h2)]
      by_cases h3 : n2 l 6 = 0
      · rw [if_neg (by simp [h3])]; exact .inr (.inr (.inr (.inr ⟨by omega, h2, h3, by simp [h3]⟩)))
      · by_cases h4 : csum h.src h.dst 17 l = 0
        · rw [if_neg (by simp [h4])]; exact .inr (.inr (.inr (.inl ⟨by omega, h2, h3, h4, by simp [h3]⟩)))
        · rw [if_pos ⟨h3, h4⟩]; exact .inr (.inr (.inl ⟨by omega, h2, h3, h4, rfl⟩))
    · rw [if_pos h2]; exact .inr (.inl ⟨by omega, h2, rfl⟩)
theorem pnum_at {l : List Int} {b o len : Nat} {w : World} (m c : Nat) (hr : Rd .u8 w w.heap.size (some ⟨b, o, none⟩) len l) (i : Nat) (hi : i + 2 ≤ len) (hm : 2 ≤ m) (w' : World) (hb : Below w.heap.size w w') :
    Calls Tryz.prog 77 #[.slice (some ⟨b, o + i, none⟩) m c] w' fun e w'' => e = .returned (.int .u16 (n2 l i)) ∧ Below w'.heap.size w' w'' := by
  obtain ⟨c0, x0⟩ := hr.cell i (by omega)
  obtain ⟨c1, x1⟩ := hr.cell (i + 1) (by omega)
  rw [n2_eq l i (by rw [hr.len]; omega)]
  exact pnum_any b (o + i) m c _ _ w' hm (inr_u8 x0) (inr_u8 x1) ((hb.cell (p := ⟨b, o + i, none⟩) (cell_lt c0)).trans c0) ((hb.cell (p := ⟨b, o + i + 1, none⟩) (cell_lt c1)).trans c1)
set_option maxRecDepth 100000 in
set_option maxHeartbeats 2000000 in
theorem udp_any (h : Hd) (l : List Int) (A : Option Addr) (len c B : Nat) (w : World) (hr : Rd .u8 w B A len l) (hB : B ≤ w.heap.size) (hlc : len ≤ c) (hcm : c ≤ 9223372036854775807) (hl : len ≤ 60000) (hs : 0 ≤ h.src ∧ h.src ≤ 4294967295) (hd : 0 ≤ h.dst ∧ h.dst ≤ 4294967295) :
    Calls Tryz.prog 62 #[h.val, .slice A len c] w (Tells w (udpR h l)) := by
  have hcs := udpR_cases h l
  rw [hr.len] at hcs
  obtain ⟨h0, h1, h2, h3, h4, h5⟩ := h
  unfold Hd.val Tells
  simp only at hs hd hcs ⊢
  generalize udpR ⟨h0, h1, h2, h3, h4, h5⟩ l = R at *
  rcases hcs with ⟨hlt, rfl⟩ | hcs
  · have d1 : decide (len < 8) = true := by simpa using hlt
    have d2 : decide ((len : Int) < 8) = true := by simp; omega
    go_enter Tryz.func62, Tryz.ntmps62
    go_upto_block 0 with fail
    have bh := (Blk.new w 81 #[.int .i64 h0, .int .i64 h1, .int .i64 h2, .int .i64 h3, .int .u32 h4, .int .u32 h5]).alloc (.cells #[.int .i64 0, .int .u16 0, .int .u16 0, .int .i64 0, .int .i64 0, .int .i64 0, .bool false, .int .i64 0, .int .i64 0, .int .i64 0, .int .i64 0, .int .u32 0, .int .u32 0, .int .i64 0, .bool false] 87)
    have bk := Blk.new (w.alloc (.cells #[.int .i64 h0, .int .i64 h1, .int .i64 h2, .int .i64 h3, .int .u32 h4, .int .u32 h5] 81)) 87 #[.int .i64 0, .int .u16 0, .int .u16 0, .int .i64 0, .int .i64 0, .int .i64 0, .bool false, .int .i64 0, .int .i64 0, .int .i64 0, .int .i64 0, .int .u32 0, .int .u32 0, .int .i64 0, .bool false]
    rw [show (w.alloc (.cells #[.int .i64 h0, .int .i64 h1, .int .i64 h2, .int .i64 h3, .int .u32 h4, .int .u32 h5] 81)).heap.size = w.heap.size + 1 by simp] at bk
    have bel : Below w.heap.size w ((w.alloc (.cells #[.int .i64 h0, .int .i64 h1, .int .i64 h2, .int .i64 h3, .int .u32 h4, .int .u32 h5] 81)).alloc (.cells #[.int .i64 0, .int .u16 0, .int .u16 0, .int .i64 0, .int .i64 0, .int .i64 0, .bool false, .int .i64 0, .int .i64 0, .int .i64 0, .int .i64 0, .int .u32 0, .int .u32 0, .int .i64 0, .bool false] 87)) := (bel_alloc _ _).alloc (by simp) _
    generalize ((w.alloc (.cells #[.int .i64 h0, .int .i64 h1, .int .i64 h2, .int .i64 h3, .int .u32 h4, .int .u32 h5] 81)).alloc (.cells #[.int .i64 0, .int .u16 0, .int .u16 0, .int .i64 0, .int .i64 0, .int .i64 0, .bool false, .int .i64 0, .int .i64 0, .int .i64 0, .int .i64 0, .int .u32 0, .int .u32 0, .int .i64 0, .bool false] 87)) = W at *
    go_wp2_with (refine wpList_stRow rfl rfl rfl rfl rfl bk pt_size rfl (by simp [Value.oneCell', Pt.z, Hd.z, portsP]) ?_)
    exact bodyPost_ret (results_row2 rfl _ rfl (bk.setRow _) Tryz.underlying87 pt_size) rfl ⟨rfl, below_setRow bel (by omega) _⟩
  have h8 : 8 ≤ len := by rcases hcs with ⟨h, _⟩ | ⟨h, _⟩ | ⟨h, _⟩ | ⟨h, _⟩ <;> exact h
  obtain ⟨b, o, rfl⟩ := hr.form (by omega)
  have hrB := hr.more hB
  have d1 : decide (len < 8) = false := by simp; omega
  have d2 : decide ((len : Int) < 8) = false := by simp; omega
  have c2 : (c = 4) = False := by simp; omega
  have c3 : (c = 6) = False := by simp; omega
  have hp4 := pnum_at (len - 4) (c - 4) hrB 4 (by omega) (by omega)
  have hp6 := pnum_at (len - 6) (c - 6) hrB 6 (by omega) (by omega)
  have hps := fun w' (hb : Below w.heap.size w w') => pseudo_any h4 h5 17 l (some ⟨b, o, none⟩) len c _ w' ((hrB.below hb).more hb.size) (Nat.le_refl _) hs hd (by omega) hl
  have hpo := fun (bare : Bool) w' (hb : Below w.heap.size w w') => ports_any { Pt.z with proto := 17, bare := bare } l b o len c _ w' ((hrB.below hb).more hb.size) (Nat.le_refl _) (by omega) hlc hcm
  have hNb := n2_bd (fun x hx => inr_u8 (hr.rng x hx)) (i := 4) (by rw [hr.len]; omega)
  obtain ⟨N4, hN4⟩ : ∃ N, N = n2 l 4 := ⟨_, rfl⟩
  obtain ⟨N6, hN6⟩ : ∃ N, N = n2 l 6 := ⟨_, rfl⟩
  obtain ⟨S, hS⟩ : ∃ S, S = csum h4 h5 17 l := ⟨_, rfl⟩
  rw [← hN4] at hcs hp4 hNb
  rw [← hN6] at hcs hp6
  rw [← hS] at hcs hps
  obtain ⟨V, hV⟩ : ∃ V : Bool → Pt, ∀ x, V x = { Pt.z with proto := 17, bare := x } := ⟨_, fun _ => rfl⟩
  simp only [← hV] at hpo hcs
  have hV2 : ∀ x, (V x).val = .agg #[.int .i64 17, .int .u16 0, .int .u16 0, .int .i64 0, .int .i64 0, .int .i64 0, .bool false, .int .i64 0, .int .i64 0, .int .i64 0, .int .i64 0, .int .u32 0, .int .u32 0, .int .i64 0, .bool x] := fun x => by rw [hV]; rfl
  obtain ⟨Pb, hPb⟩ : ∃ Pb : Bool → Pt, ∀ x, Pb x = portsP (V x) l 0 2 := ⟨_, fun _ => rfl⟩
  simp only [← hPb] at hpo hcs
  simp only [hV2] at hpo
  clear hPb hN4 hN6 hS hV hV2
  replace hp4 := Lib.hid hp4
  replace hp6 := Lib.hid hp6
  replace hps := Lib.hid hps
  replace hpo := Lib.hid hpo
  rcases hcs with ⟨_, hne, rfl⟩ | ⟨_, heq, h6, hc, rfl⟩ | ⟨_, heq, h6, hc, rfl⟩ | ⟨_, heq, h6, rfl⟩
  · have e1 : (N4 != (len : Int)) = true := by simpa using hne
    go_enter Tryz.func62, Tryz.ntmps62
    go_upto_block 0 with fail
    have bh := (Blk.new w 81 #[.int .i64 h0, .int .i64 h1, .int .i64 h2, .int .i64 h3, .int .u32 h4, .int .u32 h5]).alloc (.cells #[.int .i64 0, .int .u16 0, .int .u16 0, .int .i64 0, .int .i64 0, .int .i64 0, .bool false, .int .i64 0, .int .i64 0, .int .i64 0, .int .i64 0, .int .u32 0, .int .u32 0, .int .i64 0, .bool false] 87)
    have bk := Blk.new (w.alloc (.cells #[.int .i64 h0, .int .i64 h1, .int .i64 h2, .int .i64 h3, .int .u32 h4, .int .u32 h5] 81)) 87 #[.int .i64 0, .int .u16 0, .int .u16 0, .int .i64 0, .int .i64 0, .int .i64 0, .bool false, .int .i64 0, .int .i64 0, .int .i64 0, .int .i64 0, .int .u32 0, .int .u32 0, .int .i64 0, .bool false]
    rw [show (w.alloc (.cells #[.int .i64 h0, .int .i64 h1, .int .i64 h2, .int .i64 h3, .int .u32 h4, .int .u32 h5] 81)).heap.size = w.heap.size + 1 by simp] at bk
    have bel : Below w.heap.size w ((w.alloc (.cells #[.int .i64 h0, .int .i64 h1, .int .i64 h2, .int .i64 h3, .int .u32 h4, .int .u32 h5] 81)).alloc (.cells #[.int .i64 0, .int .u16 0, .int .u16 0, .int .i64 0, .int .i64 0, .int .i64 0, .bool false, .int .i64 0, .int .i64 0, .int .i64 0, .int .i64 0, .int .u32 0, .int .u32 0, .int .i64 0, .bool false] 87)) := (bel_alloc _ _).alloc (by simp) _
    generalize ((w.alloc (.cells #[.int .i64 h0, .int .i64 h1, .int .i64 h2, .int .i64 h3, .int .u32 h4, .int .u32 h5] 81)).alloc (.cells #[.int .i64 0, .int .u16 0, .int .u16 0, .int .i64 0, .int .i64 0, .int .i64 0, .bool false, .int .i64 0, .int .i64 0, .int .i64 0, .int .i64 0, .int .u32 0, .int .u32 0, .int .i64 0, .bool false] 87)) = W at *
    go_wp2_with fail
    refine (hp4.out _ bel).mono ?_
    rintro e w' ⟨rfl, hb⟩
    replace bk := bk.bel hb
    replace bh := bh.bel hb
    replace bel := bel_after bel hb
    clear hb
    go_wp2_with (refine wpList_stRow rfl rfl rfl rfl rfl bk pt_size rfl (by simp [Value.oneCell', Pt.z, Hd.z, portsP]) ?_)
    exact bodyPost_ret (results_row2 rfl _ rfl (bk.setRow _) Tryz.underlying87 pt_size) rfl ⟨rfl, below_setRow bel (by omega) _⟩
  · subst heq
    have e2 : (N6 == 0) = false := by simpa using h6
    have e3 : (S != 0) = true := by simpa using hc
    go_enter Tryz.func62, Tryz.ntmps62
    go_upto_block 0 with fail
    have bh := (Blk.new w 81 #[.int .i64 h0, .int .i64 h1, .int .i64 h2, .int .i64 h3, .int .u32 h4, .int .u32 h5]).alloc (.cells #[.int .i64 0, .int .u16 0, .int .u16 0, .int .i64 0, .int .i64 0, .int .i64 0, .bool false, .int .i64 0, .int .i64 0, .int .i64 0, .int .i64 0, .int .u32 0, .int .u32 0, .int .i64 0, .bool false] 87)
    have bk := Blk.new (w.alloc (.cells #[.int .i64 h0, .int .i64 h1, .int .i64 h2, .int .i64 h3, .int .u32 h4, .int .u32 h5] 81)) 87 #[.int .i64 0, .int .u16 0, .int .u16 0, .int .i64 0, .int .i64 0, .int .i64 0, .bool false, .int .i64 0, .int .i64 0, .int .i64 0, .int .i64 0, .int .u32 0, .int .u32 0, .int .i64 0, .bool false]
    rw [show (w.alloc (.cells #[.int .i64 h0, .int .i64 h1, .int .i64 h2, .int .i64 h3, .int .u32 h4, .int .u32 h5] 81)).heap.size = w.heap.size + 1 by simp] at bk
    have bel : Below w.heap.size w ((w.alloc (.cells #[.int .i64 h0, .int .i64 h1, .int .i64 h2, .int .i64 h3, .int .u32 h4, .int .u32 h5] 81)).alloc (.cells #[.int .i64 0, .int .u16 0, .int .u16 0, .int .i64 0, .int .i64 0, .int .i64 0, .bool false, .int .i64 0, .int .i64 0, .int .i64 0, .int .i64 0, .int .u32 0, .int .u32 0, .int .i64 0, .bool false] 87)) := (bel_alloc _ _).alloc (by simp) _
    generalize ((w.alloc (.cells #[.int .i64 h0, .int .i64 h1, .int .i64 h2, .int .i64 h3, .int .u32 h4, .int .u32 h5] 81)).alloc (.cells #[.int .i64 0, .int .u16 0, .int .u16 0, .int .i64 0, .int .i64 0, .int .i64 0, .bool false, .int .i64 0, .int .i64 0, .int .i64 0, .int .i64 0, .int .u32 0, .int .u32 0, .int .i64 0, .bool false] 87)) = W at *
    go_wp2_with fail
    refine (hp4.out _ bel).mono ?_
    rintro e w' ⟨rfl, hb⟩
    replace bk := bk.bel hb
    replace bh := bh.bel hb
    replace bel := bel_after bel hb
    clear hb
    go_wp2_with fail
    refine (hp6.out _ bel).mono ?_
    rintro e w' ⟨rfl, hb⟩
    replace bk := bk.bel hb
    replace bh := bh.bel hb
    replace bel := bel_after bel hb
    clear hb
    have q4 := bh.cell 4
    have q5 := bh.cell 5
    go_wp2_with fail
    clear q4 q5
    refine (hps.out _ bel).mono ?_
    rintro e w' ⟨rfl, hb⟩
    replace bk := bk.bel hb
    replace bh := bh.bel hb
    replace bel := bel_after bel hb
    clear hb
    go_wp2_with (refine wpList_stRow rfl rfl rfl rfl rfl bk pt_size rfl (by simp [Value.oneCell', Pt.z, Hd.z, portsP]) ?_)
    exact bodyPost_ret (results_row2 rfl _ rfl (bk.setRow _) Tryz.underlying87 pt_size) rfl ⟨rfl, below_setRow bel (by omega) _⟩
  · subst heq hc
    have e2 : (N6 == 0) = false := by simpa using h6
    go_enter Tryz.func62, Tryz.ntmps62
    go_upto_block 0 with fail
    have bh := (Blk.new w 81 #[.int .i64 h0, .int .i64 h1, .int .i64 h2, .int .i64 h3, .int .u32 h4, .int .u32 h5]).alloc (.cells #[.int .i64 0, .int .u16 0, .int .u16 0, .int .i64 0, .int .i64 0, .int .i64 0, .bool false, .int .i64 0, .int .i64 0, .int .i64 0, .int .i64 0, .int .u32 0, .int .u32 0, .int .i64 0, .bool false] 87)
    have bk := Blk.new (w.alloc (.cells #[.int .i64 h0, .int .i64 h1, .int .i64 h2, .int .i64 h3, .int .u32 h4, .int .u32 h5] 81)) 87 #[.int .i64 0, .int .u16 0, .int .u16 0, .int .i64 0, .int .i64 0, .int .i64 0, .bool false, .int .i64 0, .int .i64 0, .int .i64 0, .int .i64 0, .int .u32 0, .int .u32 0, .int .i64 0, .bool false]
    rw [show (w.alloc (.cells #[.int .i64 h0, .int .i64 h1, .int .i64 h2, .int .i64 h3, .int .u32 h4, .int .u32 h5] 81)).heap.size = w.heap.size + 1 by simp] at bk
    have bel : Below w.heap.size w ((w.alloc (.cells #[.int .i64 h0, .int .i64 h1, .int .i64 h2, .int .i64 h3, .int .u32 h4, .int .u32 h5] 81)).alloc (.cells #[.int .i64 0, .int .u16 0, .int .u16 0, .int .i64 0, .int .i64 0, .int .i64 0, .bool false, .int .i64 0, .int .i64 0, .int .i64 0, .int .i64 0, .int .u32 0, .int .u32 0, .int .i64 0, .bool false] 87)) := (bel_alloc _ _).alloc (by simp) _
    generalize ((w.alloc (.cells #[.int .i64 h0, .int .i64 h1, .int .i64 h2, .int .i64 h3, .int .u32 h4, .int .u32 h5] 81)).alloc (.cells #[.int .i64 0, .int .u16 0, .int .u16 0, .int .i64 0, .int .i64 0, .int .i64 0, .bool false, .int .i64 0, .int .i64 0, .int .i64 0, .int .i64 0, .int .u32 0, .int .u32 0, .int .i64 0, .bool false] 87)) = W at *
    go_wp2_with fail
    refine (hp4.out _ bel).mono ?_
    rintro e w' ⟨rfl, hb⟩
    replace bk := bk.bel hb
    replace bh := bh.bel hb
    replace bel := bel_after bel hb
    clear hb
    go_wp2_with fail
    refine (hp6.out _ bel).mono ?_
    rintro e w' ⟨rfl, hb⟩
    replace bk := bk.bel hb
    replace bh := bh.bel hb
    replace bel := bel_after bel hb
    clear hb
    have q4 := bh.cell 4
    have q5 := bh.cell 5
    go_wp2_with fail
    clear q4 q5
    refine (hps.out _ bel).mono ?_
    rintro e w' ⟨rfl, hb⟩
    replace bk := bk.bel hb
    replace bh := bh.bel hb
    replace bel := bel_after bel hb
    clear hb
    go_wp2_with fail
    refine (hpo.out false _ bel).mono ?_
    rintro e w' ⟨rfl, hb⟩
    replace bk := bk.bel hb
    replace bh := bh.bel hb
    replace bel := bel_after bel hb
    clear hb
    go_wp2_with (refine wpList_stRow rfl rfl rfl rfl rfl bk pt_size rfl (by simp [Value.oneCell', Pt.z, Hd.z, portsP]) ?_)
    exact bodyPost_ret (results_row2 rfl _ rfl (bk.setRow _) Tryz.underlying87 pt_size) rfl ⟨rfl, below_setRow bel (by omega) _⟩
  · subst heq
    have e2 : (N6 == 0) = true := by simpa using h6
    clear h6
    go_enter Tryz.func62, Tryz.ntmps62
    go_upto_block 0 with fail
    have bh := (Blk.new w 81 #[.int .i64 h0, .int .i64 h1, .int .i64 h2, .int .i64 h3, .int .u32 h4, .int .u32 h5]).alloc (.cells #[.int .i64 0, .int .u16 0, .int .u16 0, .int .i64 0, .int .i64 0, .int .i64 0, .bool false, .int .i64 0, .int .i64 0, .int .i64 0, .int .i64 0, .int .u32 0, .int .u32 0, .int .i64 0, .bool false] 87)
    have bk := Blk.new (w.alloc (.cells #[.int .i64 h0, .int .i64 h1, .int .i64 h2, .int .i64 h3, .int .u32 h4, .int .u32 h5] 81)) 87 #[.int .i64 0, .int .u16 0, .int .u16 0, .int .i64 0, .int .i64 0, .int .i64 0, .bool false, .int .i64 0, .int .i64 0, .int .i64 0, .int .i64 0, .int .u32 0, .int .u32 0, .int .i64 0, .bool false]
    rw [show (w.alloc (.cells #[.int .i64 h0, .int .i64 h1, .int .i64 h2, .int .i64 h3, .int .u32 h4, .int .u32 h5] 81)).heap.size = w.heap.size + 1 by simp] at bk
    have bel : Below w.heap.size w ((w.alloc (.cells #[.int .i64 h0, .int .i64 h1, .int .i64 h2, .int .i64 h3, .int .u32 h4, .int .u32 h5] 81)).alloc (.cells #[.int .i64 0, .int .u16 0, .int .u16 0, .int .i64 0, .int .i64 0, .int .i64 0, .bool false, .int .i64 0, .int .i64 0, .int .i64 0, .int .i64 0, .int .u32 0, .int .u32 0, .int .i64 0, .bool false] 87)) := (bel_alloc _ _).alloc (by simp) _
    generalize ((w.alloc (.cells #[.int .i64 h0, .int .i64 h1, .int .i64 h2, .int .i64 h3, .int .u32 h4, .int .u32 h5] 81)).alloc (.cells #[.int .i64 0, .int .u16 0, .int .u16 0, .int .i64 0, .int .i64 0, .int .i64 0, .bool false, .int .i64 0, .int .i64 0, .int .i64 0, .int .i64 0, .int .u32 0, .int .u32 0, .int .i64 0, .bool false] 87)) = W at *
    go_wp2_with fail
    refine (hp4.out _ bel).mono ?_
    rintro e w' ⟨rfl, hb⟩
    replace bk := bk.bel hb
    replace bh := bh.bel hb
    replace bel := bel_after bel hb
    clear hb
    go_wp2_with fail
    refine (hp6.out _ bel).mono ?_
    rintro e w' ⟨rfl, hb⟩
    replace bk := bk.bel hb
    replace bh := bh.bel hb
    replace bel := bel_after bel hb
    clear hb
    go_wp2_with fail
    refine (hpo.out true _ bel).mono ?_
    rintro e w' ⟨rfl, hb⟩
    replace bk := bk.bel hb
    replace bh := bh.bel hb
    replace bel := bel_after bel hb
    clear hb
    go_wp2_with (refine wpList_stRow rfl rfl rfl rfl rfl bk pt_size rfl (by simp [Value.oneCell', Pt.z, Hd.z, portsP]) ?_)
    exact bodyPost_ret (results_row2 rfl _ rfl (bk.setRow _) Tryz.underlying87 pt_size) rfl ⟨rfl, below_setRow bel (by omega) _⟩
theorem tcpR_cases (h : Hd) (l : List Int) :
    (l.length < 20 ∧ tcpR h l = (2, Pt.z)) ∨ (20 ≤ l.length ∧ l.getD 12 0 / 16 * 4 < 20 ∧ tcpR h l = (3, Pt.z)) ∨ (20 ≤ l.length ∧ 20 ≤ l.getD 12 0 / 16 * 4 ∧ (l.length : Int) < l.getD 12 0 / 16 * 4 ∧ tcpR h l = (3, Pt.z)) ∨
    (20 ≤ l.length ∧ 20 ≤ l.getD 12 0 / 16 * 4 ∧ l.getD 12 0 / 16 * 4 ≤ l.length ∧ csum h.src h.dst 6 l ≠ 0 ∧ tcpR h l = (4, Pt.z)) ∨
    (20 ≤ l.length ∧ 20 ≤ l.getD 12 0 / 16 * 4 ∧ l.getD 12 0 / 16 * 4 ≤ l.length ∧ csum h.src h.dst 6 l = 0 ∧ tcpR h l = (0, portsP { Pt.z with proto := 6, flags := l.getD 13 0 } l 0 2)) := by
  unfold tcpR
  by_cases h1 : l.length < 20
  · rw [if_pos h1]; exact .inl ⟨h1, rfl⟩
  · rw [if_neg h1]
    by_cases h2 : l.getD 12 0 / 16 * 4 < 20
    · rw [if_pos (.inl h2)]; exact .inr (.inl ⟨by omega, h2, rfl⟩)
    · by_cases h3 : (l.length : Int) < l.getD 12 0 / 16 * 4
      · rw [if_pos (.inr h3)]; exact .inr (.inr (.inl ⟨by omega, by omega, h3, rfl⟩))
      · rw [if_neg (by omega)]
        by_cases h4 : csum h.src h.dst 6 l = 0
        · rw [if_neg (by simp [h4])]; exact .inr (.inr (.inr (.inr ⟨by omega, by omega, by omega, h4, rfl⟩)))
        · rw [if_pos h4]; exact .inr (.inr (.inr (.inl ⟨by omega, by omega, by omega, h4, rfl⟩)))
set_option maxRecDepth 100000 in
set_option maxHeartbeats 2000000 in
theorem tcp_any (h : Hd) (l : List Int) (A : Option Addr) (len c B : Nat) (w : World) (hr : Rd .u8 w B A len l) (hB : B ≤ w.heap.size) (hlc : len ≤ c) (hcm : c ≤ 9223372036854775807) (hl : len ≤ 60000) (hs : 0 ≤ h.src ∧ h.src ≤ 4294967295) (hd : 0 ≤ h.dst ∧ h.dst ≤ 4294967295) :
    Calls Tryz.prog 63 #[h.val, .slice A len c] w (Tells w (tcpR h l)) := by
  have hcs := tcpR_cases h l
  rw [hr.len] at hcs
  obtain ⟨h0, h1, h2, h3, h4, h5⟩ := h
  unfold Hd.val Tells
  simp only at hs hd hcs ⊢
  generalize tcpR ⟨h0, h1, h2, h3, h4, h5⟩ l = R at *
  rcases hcs with ⟨hlt, rfl⟩ | hcs
  · have d1 : decide (len < 20) = true := by simpa using hlt
    have d2 : decide ((len : Int) < 20) = true := by simp; omega
    go_enter Tryz.func63, Tryz.ntmps63
    go_upto_region 1 with fail
    have bh := (Blk.new w 81 #[.int .i64 h0, .int .i64 h1, .int .i64 h2, .int .i64 h3, .int .u32 h4, .int .u32 h5]).alloc (.cells #[.int .i64 0, .int .u16 0, .int .u16 0, .int .i64 0, .int .i64 0, .int .i64 0, .bool false, .int .i64 0, .int .i64 0, .int .i64 0, .int .i64 0, .int .u32 0, .int .u32 0, .int .i64 0, .bool false] 87)
    have bk := Blk.new (w.alloc (.cells #[.int .i64 h0, .int .i64 h1, .int .i64 h2, .int .i64 h3, .int .u32 h4, .int .u32 h5] 81)) 87 #[.int .i64 0, .int .u16 0, .int .u16 0, .int .i64 0, .int .i64 0, .int .i64 0, .bool false, .int .i64 0, .int .i64 0, .int .i64 0, .int .i64 0, .int .u32 0, .int .u32 0, .int .i64 0, .bool false]
    rw [show (w.alloc (.cells #[.int .i64 h0, .int .i64 h1, .int .i64 h2, .int .i64 h3, .int .u32 h4, .int .u32 h5] 81)).heap.size = w.heap.size + 1 by simp] at bk
    have bel : Below w.heap.size w ((w.alloc (.cells #[.int .i64 h0, .int .i64 h1, .int .i64 h2, .int .i64 h3, .int .u32 h4, .int .u32 h5] 81)).alloc (.cells #[.int .i64 0, .int .u16 0, .int .u16 0, .int .i64 0, .int .i64 0, .int .i64 0, .bool false, .int .i64 0, .int .i64 0, .int .i64 0, .int .i64 0, .int .u32 0, .int .u32 0, .int .i64 0, .bool false] 87)) := (bel_alloc _ _).alloc (by simp) _
    generalize ((w.alloc (.cells #[.int .i64 h0, .int .i64 h1, .int .i64 h2, .int .i64 h3, .int .u32 h4, .int .u32 h5] 81)).alloc (.cells #[.int .i64 0, .int .u16 0, .int .u16 0, .int .i64 0, .int .i64 0, .int .i64 0, .bool false, .int .i64 0, .int .i64 0, .int .i64 0, .int .i64 0, .int .u32 0, .int .u32 0, .int .i64 0, .bool false] 87)) = W at *
    go_wp2_with (refine wpList_stRow rfl rfl rfl rfl rfl bk pt_size rfl (by simp [Value.oneCell', Pt.z, Hd.z, portsP]) ?_)
    exact bodyPost_ret (results_row2 rfl _ rfl (bk.setRow _) Tryz.underlying87 pt_size) rfl ⟨rfl, below_setRow bel (by omega) _⟩
  have h8 : 20 ≤ len := by rcases hcs with ⟨h, _⟩ | ⟨h, _⟩ | ⟨h, _⟩ | ⟨h, _⟩ <;> exact h
  obtain ⟨b, o, rfl⟩ := hr.form (by omega)
  have hrB := hr.more hB
  have d1 : decide (len < 20) = false := by simp; omega
  have d2 : decide ((len : Int) < 20) = false := by simp; omega
  have hps := fun w' (hb : Below w.heap.size w w') => pseudo_any h4 h5 6 l (some ⟨b, o, none⟩) len c _ w' ((hrB.below hb).more hb.size) (Nat.le_refl _) hs hd (by omega) hl
  have hpo := fun w' (hb : Below w.heap.size w w') => ports_any { Pt.z with proto := 6, flags := l.getD 13 0 } l b o len c _ w' ((hrB.below hb).more hb.size) (Nat.le_refl _) (by omega) hlc hcm
  obtain ⟨S, hS⟩ : ∃ S, S = csum h4 h5 6 l := ⟨_, rfl⟩
  rw [← hS] at hcs hps
  obtain ⟨c12, x12⟩ := hrB.cell 12 (by omega)
  obtain ⟨c13, x13⟩ := hrB.cell 13 (by omega)
  replace x12 := inr_u8 x12
  replace x13 := inr_u8 x13
  have hbb := cell_lt c12
  simp only at hbb
  have z12 := fun w' (hb : Below w.heap.size w w') => (hb.cell (p := ⟨b, o + 12, none⟩) (cell_lt c12)).trans c12
  have z13 := fun w' (hb : Below w.heap.size w w') => (hb.cell (p := ⟨b, o + 13, none⟩) (cell_lt c13)).trans c13
  obtain ⟨f12, hf12⟩ : ∃ N, N = l.getD 12 0 := ⟨_, rfl⟩
  obtain ⟨f13, hf13⟩ : ∃ N, N = l.getD 13 0 := ⟨_, rfl⟩
  rw [← hf12] at hcs x12 z12
  rw [← hf13] at hcs x13 z13 hpo
  obtain ⟨V, hV⟩ : ∃ V : Pt, V = { Pt.z with proto := 6, flags := f13 } := ⟨_, rfl⟩
  have hV2 : V.val = .agg #[.int .i64 6, .int .u16 0, .int .u16 0, .int .i64 f13, .int .i64 0, .int .i64 0, .bool false, .int .i64 0, .int .i64 0, .int .i64 0, .int .i64 0, .int .u32 0, .int .u32 0, .int .i64 0, .bool false] := by rw [hV]; rfl
  rw [← hV] at hpo hcs
  obtain ⟨Pb, hPb⟩ : ∃ Pb, Pb = portsP V l 0 2 := ⟨_, rfl⟩
  rw [← hPb] at hpo hcs
  rw [hV2] at hpo
  clear hPb hS hV hV2 hf12 hf13 c12 c13
  replace hps := Lib.hid hps
  replace hpo := Lib.hid hpo
  replace z12 := Lib.hid z12
  replace z13 := Lib.hid z13
  rcases hcs with ⟨_, hq, rfl⟩ | ⟨_, hq, hq2, rfl⟩ | ⟨_, hq, hq2, hc, rfl⟩ | ⟨_, hq, hq2, hc, rfl⟩
  · have e1 : decide (4 * (f12 / 16) < 20) = true := by simp; omega
    go_enter Tryz.func63, Tryz.ntmps63
    go_upto_region 1 with fail
    have bh := (Blk.new w 81 #[.int .i64 h0, .int .i64 h1, .int .i64 h2, .int .i64 h3, .int .u32 h4, .int .u32 h5]).alloc (.cells #[.int .i64 0, .int .u16 0, .int .u16 0, .int .i64 0, .int .i64 0, .int .i64 0, .bool false, .int .i64 0, .int .i64 0, .int .i64 0, .int .i64 0, .int .u32 0, .int .u32 0, .int .i64 0, .bool false] 87)
    have bk := Blk.new (w.alloc (.cells #[.int .i64 h0, .int .i64 h1, .int .i64 h2, .int .i64 h3, .int .u32 h4, .int .u32 h5] 81)) 87 #[.int .i64 0, .int .u16 0, .int .u16 0, .int .i64 0, .int .i64 0, .int .i64 0, .bool false, .int .i64 0, .int .i64 0, .int .i64 0, .int .i64 0, .int .u32 0, .int .u32 0, .int .i64 0, .bool false]
    rw [show (w.alloc (.cells #[.int .i64 h0, .int .i64 h1, .int .i64 h2, .int .i64 h3, .int .u32 h4, .int .u32 h5] 81)).heap.size = w.heap.size + 1 by simp] at bk
    have bel : Below w.heap.size w ((w.alloc (.cells #[.int .i64 h0, .int .i64 h1, .int .i64 h2, .int .i64 h3, .int .u32 h4, .int .u32 h5] 81)).alloc (.cells #[.int .i64 0, .int .u16 0, .int .u16 0, .int .i64 0, .int .i64 0, .int .i64 0, .bool false, .int .i64 0, .int .i64 0, .int .i64 0, .int .i64 0, .int .u32 0, .int .u32 0, .int .i64 0, .bool false] 87)) := (bel_alloc _ _).alloc (by simp) _
    generalize ((w.alloc (.cells #[.int .i64 h0, .int .i64 h1, .int .i64 h2, .int .i64 h3, .int .u32 h4, .int .u32 h5] 81)).alloc (.cells #[.int .i64 0, .int .u16 0, .int .u16 0, .int .i64 0, .int .i64 0, .int .i64 0, .bool false, .int .i64 0, .int .i64 0, .int .i64 0, .int .i64 0, .int .u32 0, .int .u32 0, .int .i64 0, .bool false] 87)) = W at *
    have c12 := z12.out _ bel
    go_wp2_with (refine wpList_stRow rfl rfl rfl rfl rfl bk pt_size rfl (by simp [Value.oneCell', Pt.z, Hd.z, portsP]) ?_)
    exact bodyPost_ret (results_row2 rfl _ rfl (bk.setRow _) Tryz.underlying87 pt_size) rfl ⟨rfl, below_setRow bel (by omega) _⟩
  · have e1 : decide (4 * (f12 / 16) < 20) = false := by simp; omega
    have e2 : decide ((len : Int) < 4 * (f12 / 16)) = true := by simp; omega
    go_enter Tryz.func63, Tryz.ntmps63
    go_upto_region 1 with fail
    have bh := (Blk.new w 81 #[.int .i64 h0, .int .i64 h1, .int .i64 h2, .int .i64 h3, .int .u32 h4, .int .u32 h5]).alloc (.cells #[.int .i64 0, .int .u16 0, .int .u16 0, .int .i64 0, .int .i64 0, .int .i64 0, .bool false, .int .i64 0, .int .i64 0, .int .i64 0, .int .i64 0, .int .u32 0, .int .u32 0, .int .i64 0, .bool false] 87)
    have bk := Blk.new (w.alloc (.cells #[.int .i64 h0, .int .i64 h1, .int .i64 h2, .int .i64 h3, .int .u32 h4, .int .u32 h5] 81)) 87 #[.int .i64 0, .int .u16 0, .int .u16 0, .int .i64 0, .int .i64 0, .int .i64 0, .bool false, .int .i64 0, .int .i64 0, .int .i64 0, .int .i64 0, .int .u32 0, .int .u32 0, .int .i64 0, .bool false]
    rw [show (w.alloc (.cells #[.int .i64 h0, .int .i64 h1, .int .i64 h2, .int .i64 h3, .int .u32 h4, .int .u32 h5] 81)).heap.size = w.heap.size + 1 by simp] at bk
    have bel : Below w.heap.size w ((w.alloc (.cells #[.int .i64 h0, .int .i64 h1, .int .i64 h2, .int .i64 h3, .int .u32 h4, .int .u32 h5] 81)).alloc (.cells #[.int .i64 0, .int .u16 0, .int .u16 0, .int .i64 0, .int .i64 0, .int .i64 0, .bool false, .int .i64 0, .int .i64 0, .int .i64 0, .int .i64 0, .int .u32 0, .int .u32 0, .int .i64 0, .bool false] 87)) := (bel_alloc _ _).alloc (by simp) _
    generalize ((w.alloc (.cells #[.int .i64 h0, .int .i64 h1, .int .i64 h2, .int .i64 h3, .int .u32 h4, .int .u32 h5] 81)).alloc (.cells #[.int .i64 0, .int .u16 0, .int .u16 0, .int .i64 0, .int .i64 0, .int .i64 0, .bool false, .int .i64 0, .int .i64 0, .int .i64 0, .int .i64 0, .int .u32 0, .int .u32 0, .int .i64 0, .bool false] 87)) = W at *
    have c12 := z12.out _ bel
    go_wp2_with (refine wpList_stRow rfl rfl rfl rfl rfl bk pt_size rfl (by simp [Value.oneCell', Pt.z, Hd.z, portsP]) ?_)
    exact bodyPost_ret (results_row2 rfl _ rfl (bk.setRow _) Tryz.underlying87 pt_size) rfl ⟨rfl, below_setRow bel (by omega) _⟩
  · have e1 : decide (4 * (f12 / 16) < 20) = false := by simp; omega
    have e2 : decide ((len : Int) < 4 * (f12 / 16)) = false := by simp; omega
    have e3 : (S != 0) = true := by simpa using hc
    go_enter Tryz.func63, Tryz.ntmps63
    go_upto_region 1 with fail
    have bh := (Blk.new w 81 #[.int .i64 h0, .int .i64 h1, .int .i64 h2, .int .i64 h3, .int .u32 h4, .int .u32 h5]).alloc (.cells #[.int .i64 0, .int .u16 0, .int .u16 0, .int .i64 0, .int .i64 0, .int .i64 0, .bool false, .int .i64 0, .int .i64 0, .int .i64 0, .int .i64 0, .int .u32 0, .int .u32 0, .int .i64 0, .bool false] 87)
    have bk := Blk.new (w.alloc (.cells #[.int .i64 h0, .int .i64 h1, .int .i64 h2, .int .i64 h3, .int .u32 h4, .int .u32 h5] 81)) 87 #[.int .i64 0, .int .u16 0, .int .u16 0, .int .i64 0, .int .i64 0, .int .i64 0, .bool false, .int .i64 0, .int .i64 0, .int .i64 0, .int .i64 0, .int .u32 0, .int .u32 0, .int .i64 0, .bool false]
    rw [show (w.alloc (.cells #[.int .i64 h0, .int .i64 h1, .int .i64 h2, .int .i64 h3, .int .u32 h4, .int .u32 h5] 81)).heap.size = w.heap.size + 1 by simp] at bk
    have bel : Below w.heap.size w ((w.alloc (.cells #[.int .i64 h0, .int .i64 h1, .int .i64 h2, .int .i64 h3, .int .u32 h4, .int .u32 h5] 81)).alloc (.cells #[.int .i64 0, .int .u16 0, .int .u16 0, .int .i64 0, .int .i64 0, .int .i64 0, .bool false, .int .i64 0, .int .i64 0, .int .i64 0, .int .i64 0, .int .u32 0, .int .u32 0, .int .i64 0, .bool false] 87)) := (bel_alloc _ _).alloc (by simp) _
    generalize ((w.alloc (.cells #[.int .i64 h0, .int .i64 h1, .int .i64 h2, .int .i64 h3, .int .u32 h4, .int .u32 h5] 81)).alloc (.cells #[.int .i64 0, .int .u16 0, .int .u16 0, .int .i64 0, .int .i64 0, .int .i64 0, .bool false, .int .i64 0, .int .i64 0, .int .i64 0, .int .i64 0, .int .u32 0, .int .u32 0, .int .i64 0, .bool false] 87)) = W at *
    have c12 := z12.out _ bel
    have q4 := bh.cell 4
    have q5 := bh.cell 5
    go_wp2_with fail
    clear q4 q5 c12
    refine (hps.out _ bel).mono ?_
    rintro e w' ⟨rfl, hb⟩
    replace bk := bk.bel hb
    replace bh := bh.bel hb
    replace bel := bel_after bel hb
    clear hb
    go_wp2_with (refine wpList_stRow rfl rfl rfl rfl rfl bk pt_size rfl (by simp [Value.oneCell', Pt.z, Hd.z, portsP]) ?_)
    exact bodyPost_ret (results_row2 rfl _ rfl (bk.setRow _) Tryz.underlying87 pt_size) rfl ⟨rfl, below_setRow bel (by omega) _⟩
  · have e1 : decide (4 * (f12 / 16) < 20) = false := by simp; omega
    have e2 : decide ((len : Int) < 4 * (f12 / 16)) = false := by simp; omega
    subst hc
    go_enter Tryz.func63, Tryz.ntmps63
    go_upto_region 1 with fail
    have bh := (Blk.new w 81 #[.int .i64 h0, .int .i64 h1, .int .i64 h2, .int .i64 h3, .int .u32 h4, .int .u32 h5]).alloc (.cells #[.int .i64 0, .int .u16 0, .int .u16 0, .int .i64 0, .int .i64 0, .int .i64 0, .bool false, .int .i64 0, .int .i64 0, .int .i64 0, .int .i64 0, .int .u32 0, .int .u32 0, .int .i64 0, .bool false] 87)
    have bk := Blk.new (w.alloc (.cells #[.int .i64 h0, .int .i64 h1, .int .i64 h2, .int .i64 h3, .int .u32 h4, .int .u32 h5] 81)) 87 #[.int .i64 0, .int .u16 0, .int .u16 0, .int .i64 0, .int .i64 0, .int .i64 0, .bool false, .int .i64 0, .int .i64 0, .int .i64 0, .int .i64 0, .int .u32 0, .int .u32 0, .int .i64 0, .bool false]
    rw [show (w.alloc (.cells #[.int .i64 h0, .int .i64 h1, .int .i64 h2, .int .i64 h3, .int .u32 h4, .int .u32 h5] 81)).heap.size = w.heap.size + 1 by simp] at bk
    have bel : Below w.heap.size w ((w.alloc (.cells #[.int .i64 h0, .int .i64 h1, .int .i64 h2, .int .i64 h3, .int .u32 h4, .int .u32 h5] 81)).alloc (.cells #[.int .i64 0, .int .u16 0, .int .u16 0, .int .i64 0, .int .i64 0, .int .i64 0, .bool false, .int .i64 0, .int .i64 0, .int .i64 0, .int .i64 0, .int .u32 0, .int .u32 0, .int .i64 0, .bool false] 87)) := (bel_alloc _ _).alloc (by simp) _
    generalize ((w.alloc (.cells #[.int .i64 h0, .int .i64 h1, .int .i64 h2, .int .i64 h3, .int .u32 h4, .int .u32 h5] 81)).alloc (.cells #[.int .i64 0, .int .u16 0, .int .u16 0, .int .i64 0, .int .i64 0, .int .i64 0, .bool false, .int .i64 0, .int .i64 0, .int .i64 0, .int .i64 0, .int .u32 0, .int .u32 0, .int .i64 0, .bool false] 87)) = W at *
    have c12 := z12.out _ bel
    have q4 := bh.cell 4
    have q5 := bh.cell 5
    go_wp2_with fail
    clear q4 q5 c12
    refine (hps.out _ bel).mono ?_
    rintro e w' ⟨rfl, hb⟩
    replace bk := bk.bel hb
    replace bh := bh.bel hb
    replace bel := bel_after bel hb
    clear hb
    have c13 := z13.out _ bel
    go_wp2_with fail
    clear c13
    refine (hpo.out _ bel).mono ?_
    rintro e w' ⟨rfl, hb⟩
    replace bk := bk.bel hb
    replace bh := bh.bel hb
    replace bel := bel_after bel hb
    clear hb
    go_wp2_with (refine wpList_stRow rfl rfl rfl rfl rfl bk pt_size rfl (by simp [Value.oneCell', Pt.z, Hd.z, portsP]) ?_)
    exact bodyPost_ret (results_row2 rfl _ rfl (bk.setRow _) Tryz.underlying87 pt_size) rfl ⟨rfl, below_setRow bel (by omega) _⟩
end Go.Proofs.YtilhkhnjloplfaaGreatDoor
