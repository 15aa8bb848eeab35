/- The walks of package head. -/
import Derived.Test.YtjaacmecniijgaaSumWalkA
import Derived.Test.YtjaacmecniijgaaHnAll2
import Derived.Test.YtjaacmecniijgaaQuiet
import Derived.Test.YtjaacmecniijgaaHeap
import Derived.Test.YtjaacmecniijgaaDrawn
namespace Go.Proofs.Ytjaacmecniijgaa
set_option linter.unusedVariables false
set_option linter.unusedSimpArgs false
open Go.RowKit
def Hd.val (h : Hd) : Value := .agg #[.int .i64 h.size, .int .i64 h.len, .int .i64 h.ttl, .int .i64 h.proto, .int .u32 h.src, .int .u32 h.dst]
theorem u32_shl_or (a b : Int) (h0 : 0 ≤ a ∧ a < 16777216) (h1 : 0 ≤ b ∧ b ≤ 255) : bits .or .u32 (a * 256) b = a * 256 + b := by
  rw [u32_or _ _ (by omega) (by omega) (by omega) (by omega)]
  have : (a * 256).toNat ||| b.toNat = (a * 256).toNat + b.toNat := by
    have e : (a * 256).toNat = 2 ^ 8 * a.toNat := by omega
    rw [e, Nat.two_pow_add_eq_or_of_lt (by omega)]
  rw [this]; omega
set_option maxHeartbeats 400000 in
theorem num_any (l : List Int) (A : Option Addr) (len c B : Nat) (w : World) (hl : len ≤ 4) (hr : Rd .u8 w B A len l) :
    Calls Try.prog 57 #[.slice A len c] w fun e w' => e = .returned (.int .u32 (numOf l)) ∧ w = w' := by
  have hlen := Lib.hid hr.len
  have hB := numOf_bd l (fun x hx => inr_u8 (hr.rng x hx))
  go_enter Try.func57, Try.ntmps57
  go_wp2
  go_loop [3, 8, 5] (fun n i c => ∃ k : Nat, k ≤ len ∧ i = .int .i64 k ∧ n = .int .u32 (numOf (l.take k))) (fun _ i _ => len - (intOf i).toNat)
  case atStart => exact ⟨0, by omega, rfl, by simp [numOf]⟩
  case round =>
    obtain ⟨k, hk, rfl, rfl⟩ := hrel
    by_cases hlt : k < len
    · obtain ⟨b, o, rfl, hbl, hc, hx⟩ := hr.at_ hlt
      have hx := inr_u8 hx
      have hb := hB k (by rw [hlen.out]; omega)
      have hb2 : numOf (l.take k) < 16777216 := by
        have : (256 : Int) ^ k ≤ 256 ^ 3 := by
          have h4 : k = 0 ∨ k = 1 ∨ k = 2 ∨ k = 3 := by omega
          rcases h4 with rfl | rfl | rfl | rfl <;> decide
        omega
      have hor := u32_shl_or (numOf (l.take k)) (l.getD k 0) (by omega) hx
      have HS : Hid (numOf (l.take (k + 1)) = numOf (l.take k) * 256 + l.getD k 0) := by
        have : k < l.length := by rw [hlen.out]; exact hlt
        show _ = _
        rw [List.take_succ_eq_append_getElem this, numOf_snoc, List.getD_eq_getElem?_getD, List.getElem?_eq_getElem this]; rfl
      replace hb := hb.1
      obtain ⟨x, hxe⟩ : ∃ x, x = l.getD k 0 := ⟨_, rfl⟩
      rw [← hxe] at hc hx hor HS
      obtain ⟨N, hN⟩ : ∃ N, N = numOf (l.take k) := ⟨_, rfl⟩
      rw [← hN] at hb hb2 hor HS ⊢
      clear hxe hN hB hlen
      have hd : decide (k < len) = true := by simpa using hlt
      go_wp2
      exact ⟨⟨k + 1, by omega, by go_num, by rw [HS.out]⟩, by simp [intOf]; omega⟩
    · have hke : k = len := by omega
      have hd : decide (k < len) = false := by simpa using hlt
      clear hB
      go_wp2
      go_ret
      exact ⟨by rw [List.take_of_length_le (by rw [hlen.out]; omega)]; rfl, rfl⟩
theorem Rd.sub {k : IntKind} {w : World} {B b o n : Nat} {l : List Int} (h : Rd k w B (some ⟨b, o, none⟩) n l) (i m : Nat) (hi : i + m ≤ n) : Rd k w B (some ⟨b, o + i, none⟩) m (seg l i m) := by
  have hl := h.len
  refine ⟨seg_length _ _ _ (by omega), fun x hx => h.rng x (seg_mem hx), fun h0 => ?_⟩
  obtain ⟨b', o', e, hb, hc⟩ := h.cel (by omega)
  simp only [Option.some.injEq, Addr.mk.injEq, and_true] at e
  obtain ⟨rfl, rfl⟩ := e
  refine ⟨_, _, rfl, hb, fun j hj => ?_⟩
  rw [Nat.add_assoc, hc (i + j) (by omega)]
  simp [seg, List.getD_eq_getElem?_getD, hj]
theorem Rd.form {k : IntKind} {w : World} {B n : Nat} {A : Option Addr} {l : List Int} (h : Rd k w B A n l) (hn : 0 < n) : ∃ b o, A = some ⟨b, o, none⟩ := by
  obtain ⟨b, o, e, _⟩ := h.cel hn; exact ⟨b, o, e⟩
theorem Rd.cell {k : IntKind} {w : World} {B b o n : Nat} {l : List Int} (h : Rd k w B (some ⟨b, o, none⟩) n l) (j : Nat) (hj : j < n) : w.cell? ⟨b, o + j, none⟩ = some (.int k (l.getD j 0)) ∧ inr k (l.getD j 0) := by
  obtain ⟨b', o', e, _, h1, h2⟩ := h.at_ hj
  simp only [Option.some.injEq, Addr.mk.injEq, and_true] at e
  obtain ⟨rfl, rfl⟩ := e
  exact ⟨h1, h2⟩
theorem Rd.cell0 {k : IntKind} {w : World} {B b o n : Nat} {l : List Int} (h : Rd k w B (some ⟨b, o, none⟩) n l) (hn : 0 < n) : w.cell? ⟨b, o, none⟩ = some (.int k (l.getD 0 0)) ∧ inr k (l.getD 0 0) := h.cell 0 hn
theorem u8_and15 (a : Int) : bits .and .u8 a 15 = a % 16 := and_mask (k := .u8) rfl 4 (by decide) a
theorem u32_and3FFF (a : Int) : bits .and .u32 a 16383 = a % 16384 := and_mask (k := .u32) rfl 14 (by decide) a
attribute [go_sem] u8_and15 u32_and3FFF
theorem Rd.of_cells (k : IntKind) (w : World) (b o : Nat) (l : List Int) (n : Nat) (hl : l.length = n) (hr : ∀ x, x ∈ l → inr k x) (hc : ∀ j, j < n → w.cell? ⟨b, o + j, none⟩ = some (.int k (l.getD j 0))) : Rd k w (b + 1) (some ⟨b, o, none⟩) n l :=
  ⟨hl, hr, fun _ => ⟨b, o, rfl, by omega, hc⟩⟩
theorem num2_cells (b o c : Nat) (x y : Int) (w : World) (hx : 0 ≤ x ∧ x ≤ 255) (hy : 0 ≤ y ∧ y ≤ 255) (h0 : w.cell? ⟨b, o, none⟩ = some (.int .u8 x)) (h1 : w.cell? ⟨b, o + 1, none⟩ = some (.int .u8 y)) :
    Calls Try.prog 57 #[.slice (some ⟨b, o, none⟩) 2 c] w fun e w' => e = .returned (.int .u32 (x * 256 + y)) ∧ w = w' := by
  have := num_any [x, y] (some ⟨b, o, none⟩) 2 c (b + 1) w (by omega) (Rd.of_cells .u8 w b o [x, y] 2 rfl (by simp; exact ⟨u8_inr hx, u8_inr hy⟩) (fun j hj => by
    have : j = 0 ∨ j = 1 := by omega
    rcases this with rfl | rfl
    · exact h0
    · exact h1))
  simpa [numOf] using this
theorem num4_cells (b o c : Nat) (x y z u : Int) (w : World) (hx : 0 ≤ x ∧ x ≤ 255) (hy : 0 ≤ y ∧ y ≤ 255) (hz : 0 ≤ z ∧ z ≤ 255) (hu : 0 ≤ u ∧ u ≤ 255) (h0 : w.cell? ⟨b, o, none⟩ = some (.int .u8 x)) (h1 : w.cell? ⟨b, o + 1, none⟩ = some (.int .u8 y))
    (h2 : w.cell? ⟨b, o + 2, none⟩ = some (.int .u8 z)) (h3 : w.cell? ⟨b, o + 3, none⟩ = some (.int .u8 u)) :
    Calls Try.prog 57 #[.slice (some ⟨b, o, none⟩) 4 c] w fun e w' => e = .returned (.int .u32 (((x * 256 + y) * 256 + z) * 256 + u)) ∧ w = w' := by
  have := num_any [x, y, z, u] (some ⟨b, o, none⟩) 4 c (b + 1) w (by omega) (Rd.of_cells .u8 w b o [x, y, z, u] 4 rfl (by simp; exact ⟨u8_inr hx, u8_inr hy, u8_inr hz, u8_inr hu⟩) (fun j hj => by
    have : j = 0 ∨ j = 1 ∨ j = 2 ∨ j = 3 := by omega
    rcases this with rfl | rfl | rfl | rfl
    · exact h0
    · exact h1
    · exact h2
    · exact h3))
  simpa [numOf] using this
set_option maxHeartbeats 2000000 in
set_option maxRecDepth 100000 in
theorem shaped_any (l : List Int) (most : Int) (A : Option Addr) (len c B : Nat) (w : World) (hr : Rd .u8 w B A len l) (hB : B ≤ w.heap.size) (hlc : len ≤ c) (hcm : c ≤ 9223372036854775807) :
    Calls Try.prog 43 #[.slice A len c, .int .i64 most] w fun e w' => e = .returned (.tuple #[(hdIf l (shapeE l most)).val, .int .i64 (shapeE l most)]) ∧ Below w.heap.size w w' := by
  have hcs := shape_cases l most
  rw [hr.len] at hcs
  rcases hcs with ⟨e, h1⟩ | hcs
  · rw [e]; clear e
    go_enter Try.func43, Try.ntmps43
    go_wp2
    exact bodyPost_ret (v := .tuple #[Hd.z.val, .int .i64 2]) (by simp [results, Try.results43, go_sem, Hd.val, Hd.z]) rfl ⟨rfl, (Below.refl _ _).alloc (Nat.le_refl _) _⟩
  have h20 : 20 ≤ len := by rcases hcs with ⟨_, h, _⟩ | ⟨_, h, _⟩ | ⟨_, h, _⟩ | ⟨_, h, _⟩ | ⟨_, h, _⟩ | ⟨_, h, _⟩ <;> exact h
  obtain ⟨b, o, rfl⟩ := hr.form (by omega)
  obtain ⟨c0, x0⟩ := hr.cell0 (by omega)
  replace x0 := inr_u8 x0
  have rd2 := hr.sub 2 2 (by omega)
  have hN := n2_bd (fun x hx => inr_u8 (hr.rng x hx)) (i := 2) (by rw [hr.len]; omega)
  obtain ⟨f0, hf0⟩ : ∃ x, x = l.getD 0 0 := ⟨_, rfl⟩
  rw [← hf0] at hcs c0 x0
  obtain ⟨c2, x2⟩ := hr.cell 2 (by omega)
  obtain ⟨c3, x3⟩ := hr.cell 3 (by omega)
  replace x2 := inr_u8 x2
  replace x3 := inr_u8 x3
  rw [n2_eq l 2 (by rw [hr.len]; omega)] at hcs hN
  simp only [Nat.reduceAdd] at hcs hN
  obtain ⟨f2, hf2⟩ : ∃ x, x = l.getD 2 0 := ⟨_, rfl⟩
  obtain ⟨f3, hf3⟩ : ∃ x, x = l.getD 3 0 := ⟨_, rfl⟩
  rw [← hf2] at hcs hN c2 x2
  rw [← hf3] at hcs hN c3 x3
  replace hf0 := Lib.hid hf0
  replace hf2 := Lib.hid hf2
  replace hf3 := Lib.hid hf3
  obtain ⟨W0, hW0⟩ : ∃ W, W = w.alloc (.cells #[.int .i64 0, .int .i64 0, .int .i64 0, .int .i64 0, .int .u32 0, .int .u32 0] 82) := ⟨_, rfl⟩
  obtain ⟨W1, hW1⟩ : ∃ W, W = W0.alloc (.cells #[.int .i64 0, .int .i64 0, .int .i64 0, .int .i64 0, .int .u32 0, .int .u32 0] 82) := ⟨_, rfl⟩
  obtain ⟨W3, hW3⟩ : ∃ W, W = W0.alloc (.cells #[.int .i64 (4 * (f0 % 16)), .int .i64 (f2 * 256 + f3), .int .i64 0, .int .i64 0, .int .u32 0, .int .u32 0] 82) := ⟨_, rfl⟩
  obtain ⟨F, hF⟩ : ∃ F, F = four W0 W1 W1 W3 := ⟨_, rfl⟩
  have Fc : ∀ p : Addr, ∀ v, w.cell? p = some v → ∀ t, (F t).cell? p = some v := by
    intro p v hp t
    have := cell_lt hp
    rw [hF, hW1, hW3, hW0]
    refine four_all (p := fun w' => w'.cell? p = some v) ?_ ?_ ?_ ?_ t <;> simp [World.cell?_alloc_lt, this, hp, Nat.lt_succ_of_lt]
  have F0 := Fc _ _ c0
  have F2 := Fc _ _ c2
  have F3 := Fc _ _ c3
  clear Fc
  replace hF := Lib.hid hF
  replace hW0 := Lib.hid hW0
  replace hW1 := Lib.hid hW1
  replace hW3 := Lib.hid hW3
  obtain ⟨E, hE⟩ : ∃ E, E = shapeE l most := ⟨_, rfl⟩
  rw [← hE] at hcs ⊢
  replace hE := Lib.hid hE
  replace hcs := Lib.hid hcs
  go_enter Try.func43, Try.ntmps43
  go_wp2_with fail
  refine wp_region_E (cls2 11 12 F) (by kernel_rfl) (by kernel_rfl) ⟨by simp, 1, by rw [hF.out]; show _ = W0.drew; rw [hW0.out]⟩ ?_
  refine wpE_qs (D := dom2 F) (fun _ _ h => h.dom) 8 _ _ _ (by kernel_rfl) (by simp) (fun i h1 h2 _ _ h => h.keep (by omega) (by omega)) ?_
  unfold dom2
  simp only [List.take_succ_cons, List.take_zero, List.drop_succ_cons, List.drop_zero]
  repeat (first
    | go_big_quiet_skip
    | (go_big_quiet_want; go_big_quiet_op; go_big_quiet_on))
  refine wpQuiet_nil ?_
  refine wpE_do (by kernel_rfl) (.int .u32 (f2 * 256 + f3)) (fun K hK => ⟨fun listed w' hrd hC => ?_, ?_⟩)
  · obtain ⟨t, m, rfl⟩ := hC.form
    go_simp
    refine (num2_cells b (o + 2) _ f2 f3 _ x2 x3 ?_ ?_).mono ?_
    · simp [F2]
    · simp [F3]
    · rintro e w' ⟨rfl, rfl⟩; exact ⟨rfl, hC.keep (by omega) (by omega)⟩
  go_simp; refine hK _ ?_; clear hK K
  refine wpE_qs (D := dom2 F) (fun _ _ h => h.dom) 2 _ _ _ (by kernel_rfl) (by simp) (fun i h1 h2 _ _ h => h.keep (by omega) (by omega)) ?_
  unfold dom2
  simp only [List.take_succ_cons, List.take_zero, List.drop_succ_cons, List.drop_zero]
  repeat (first
    | go_big_quiet_skip
    | (go_big_quiet_want; go_big_quiet_op; go_big_quiet_on))
  refine wpQuiet_nil ?_
  refine wpE_do (by kernel_rfl) (.pointer (some ⟨w.heap.size + 1, 0, none⟩)) (fun K hK => ⟨fun listed w' hrd hC => ?_, ?_⟩)
  · obtain ⟨m, rfl⟩ := hC.at1 hrd.1
    have := hC.to1 (by decide) hrd.1 m
    have e0 : F 0 = W0 := by rw [hF.out]; rfl
    have e1 : F 1 = W1 := by rw [hF.out]; rfl
    rw [e1, hW1.out, hW0.out] at this
    rw [e0, hW0.out]
    clear e0 e1 hC
    go_simp
    exact ⟨rfl, this⟩
  go_simp; refine hK _ ?_; clear hK K
  refine wpE_do (by kernel_rfl) (undef) (fun K hK => ⟨fun listed w' hrd hC => ?_, ?_⟩)
  · obtain ⟨m, rfl⟩ := hC.at2 hrd.1 (hrd.2 ⟨11, .data⟩ (by simp) rfl)
    have := cls2.to2 (F := F) (i := 11) (by decide) hrd.1 (hrd.2 ⟨11, .data⟩ (by simp) rfl) m
    have e0 : F 1 = W1 := by rw [hF.out]; rfl
    have e1 : F 3 = W3 := by rw [hF.out]; rfl
    rw [e1, hW3.out, hW0.out] at this
    rw [e0, hW1.out, hW0.out]
    clear e0 e1 hC
    go_simp
    exact ⟨rfl, this⟩
  go_simp; refine hK _ ?_; clear hK K
  intro w' hw'
  obtain ⟨m, rfl⟩ := cls2.end_ (F := F) hw' (by kernel_rfl) (by kernel_rfl)
  have e1 : F 3 = W3 := by rw [hF.out]; rfl
  rw [e1, hW3.out, hW0.out]
  clear hw' e1 F0 F2 F3 hF hW3 hW1 hW0
  have bel : Below w.heap.size w (((w.alloc (Obj.cells #[.int .i64 0, .int .i64 0, .int .i64 0, .int .i64 0, .int .u32 0, .int .u32 0] 82)).alloc (Obj.cells #[.int .i64 (4 * (f0 % 16)), .int .i64 (f2 * 256 + f3), .int .i64 0, .int .i64 0, .int .u32 0, .int .u32 0] 82)).drewN m) :=
    below_drewN (((Below.refl _ _).alloc (Nat.le_refl _) _).alloc (by simp) _) m
  have hb := cell_lt c0
  simp only at hb
  have hb0 : b ≠ w.heap.size := by omega
  have hb1 : b ≠ w.heap.size + 1 := by omega
  rcases hcs.out with ⟨e, _, h1, h2⟩ | ⟨e, _, h1, h2⟩ | ⟨e, _, h1, h2, h3⟩ | ⟨e, _, h1, h2, h3, h4⟩ | ⟨e, _, h1, h2, h3, h4, h5⟩ | ⟨e, _, h1, h2, h3, h4, h5⟩
  all_goals
    replace e := Lib.hid e
    clear hcs
  · go_wp2
    exact bodyPost_ret (v := .tuple #[Hd.z.val, .int .i64 3]) (by simp [results, Try.results43, go_sem, Hd.val, Hd.z]) rfl ⟨by rw [e.out]; rfl, bel⟩
  · go_wp2
    exact bodyPost_ret (v := .tuple #[Hd.z.val, .int .i64 3]) (by simp [results, Try.results43, go_sem, Hd.val, Hd.z]) rfl ⟨by rw [e.out]; rfl, bel⟩
  · go_wp2
    exact bodyPost_ret (v := .tuple #[Hd.z.val, .int .i64 2]) (by simp [results, Try.results43, go_sem, Hd.val, Hd.z]) rfl ⟨by rw [e.out]; rfl, bel⟩
  · go_wp2
    exact bodyPost_ret (v := .tuple #[Hd.z.val, .int .i64 3]) (by simp [results, Try.results43, go_sem, Hd.val, Hd.z]) rfl ⟨by rw [e.out]; rfl, bel⟩
  · go_wp2
    exact bodyPost_ret (v := .tuple #[Hd.z.val, .int .i64 3]) (by simp [results, Try.results43, go_sem, Hd.val, Hd.z]) rfl ⟨by rw [e.out]; rfl, bel⟩
  obtain ⟨c8, x8⟩ := hr.cell 8 (by omega)
  obtain ⟨c9, x9⟩ := hr.cell 9 (by omega)
  replace x8 := inr_u8 x8
  replace x9 := inr_u8 x9
  obtain ⟨f8, hf8⟩ : ∃ x, x = l.getD 8 0 := ⟨_, rfl⟩
  obtain ⟨f9, hf9⟩ : ∃ x, x = l.getD 9 0 := ⟨_, rfl⟩
  rw [← hf8] at c8 x8
  rw [← hf9] at c9 x9
  replace hf8 := Lib.hid hf8
  replace hf9 := Lib.hid hf9
  go_wp2
  obtain ⟨F, hF⟩ : ∃ F, F = four (((w.alloc (Obj.cells #[.int .i64 0, .int .i64 0, .int .i64 0, .int .i64 0, .int .u32 0, .int .u32 0] 82)).alloc (Obj.cells #[.int .i64 (4 * (f0 % 16)), .int .i64 (f2 * 256 + f3), .int .i64 0, .int .i64 0, .int .u32 0, .int .u32 0] 82))) (((w.alloc (Obj.cells #[.int .i64 0, .int .i64 0, .int .i64 0, .int .i64 0, .int .u32 0, .int .u32 0] 82)).alloc (Obj.cells #[.int .i64 (4 * (f0 % 16)), .int .i64 (f2 * 256 + f3), .int .i64 f8, .int .i64 0, .int .u32 0, .int .u32 0] 82))) (((w.alloc (Obj.cells #[.int .i64 0, .int .i64 0, .int .i64 0, .int .i64 0, .int .u32 0, .int .u32 0] 82)).alloc (Obj.cells #[.int .i64 (4 * (f0 % 16)), .int .i64 (f2 * 256 + f3), .int .i64 0, .int .i64 f9, .int .u32 0, .int .u32 0] 82))) (((w.alloc (Obj.cells #[.int .i64 0, .int .i64 0, .int .i64 0, .int .i64 0, .int .u32 0, .int .u32 0] 82)).alloc (Obj.cells #[.int .i64 (4 * (f0 % 16)), .int .i64 (f2 * 256 + f3), .int .i64 f8, .int .i64 f9, .int .u32 0, .int .u32 0] 82))) := ⟨_, rfl⟩
  have Fc : ∀ p : Addr, ∀ v, w.cell? p = some v → ∀ t, (F t).cell? p = some v := by
    intro p v hp t
    have := cell_lt hp
    rw [hF]
    refine four_all (p := fun w' => w'.cell? p = some v) ?_ ?_ ?_ ?_ t <;> simp [World.cell?_alloc_lt, this, hp, Nat.lt_succ_of_lt]
  have F8 := Fc _ _ c8
  have F9 := Fc _ _ c9
  clear Fc
  replace hF := Lib.hid hF
  refine wp_region_E (cls2f 9 11 F) (by kernel_rfl) (by kernel_rfl) ⟨m + 1, by rw [hF.out]; rfl⟩ ?_
  refine wpE_qs (D := dom2 F) (fun _ _ h => h.dom) 9 _ _ _ (by kernel_rfl) (by simp) (fun i h1 h2 _ _ h => h.keep (by omega) (by omega)) ?_
  unfold dom2
  simp only [List.take_succ_cons, List.take_zero, List.drop_succ_cons, List.drop_zero]
  repeat (first
    | go_big_quiet_skip
    | (go_big_quiet_want; go_big_quiet_op; go_big_quiet_on))
  refine wpQuiet_nil ?_
  refine wpE_do (by kernel_rfl) (undef) (fun K hK => ⟨fun listed w' hrd hC => ?_, ?_⟩)
  · obtain ⟨y, m, hy, rfl⟩ := cls2f.at1 (F := F) hC hrd.1
    have hnx := cls2f.to1 (F := F) (i := 9) (j := 11) (by decide) hrd.1 hy m
    replace hF := hF.out
    clear hC
    subst hF
    cases y <;> simp only [cd, four] at hnx ⊢ <;> go_simp <;> exact ⟨rfl, hnx⟩
  go_simp; refine hK _ ?_; clear hK K
  refine wpE_qs (D := dom2 F) (fun _ _ h => h.dom) 1 _ _ _ (by kernel_rfl) (by simp) (fun i h1 h2 _ _ h => h.keep (by omega) (by omega)) ?_
  unfold dom2
  simp only [List.take_succ_cons, List.take_zero, List.drop_succ_cons, List.drop_zero]
  repeat (first
    | go_big_quiet_skip
    | (go_big_quiet_want; go_big_quiet_op; go_big_quiet_on))
  refine wpQuiet_nil ?_
  refine wpE_do (by kernel_rfl) (undef) (fun K hK => ⟨fun listed w' hrd hC => ?_, ?_⟩)
  · obtain ⟨y, m, hy, rfl⟩ := cls2f.at2 (F := F) hC hrd.1
    have hnx := cls2f.to2 (F := F) (i := 9) (j := 11) (by decide) hrd.1 hy m
    replace hF := hF.out
    clear hC
    subst hF
    cases y <;> simp only [cd, four] at hnx ⊢ <;> go_simp <;> exact ⟨rfl, hnx⟩
  go_simp; refine hK _ ?_; clear hK K
  intro w' hw'
  obtain ⟨m, rfl⟩ := cls2f.end_ (F := F) hw' (by kernel_rfl) (by kernel_rfl)
  replace hF := hF.out
  clear hw'
  subst hF
  simp only [four]
  clear F8 F9
  have rd12 := (hr.more hB).sub 12 4 (by omega)
  have rd16 := (hr.more hB).sub 16 4 (by omega)
  obtain ⟨N12, hN12⟩ : ∃ x, x = numOf (seg l 12 4) := ⟨_, rfl⟩
  obtain ⟨N16, hN16⟩ : ∃ x, x = numOf (seg l 16 4) := ⟨_, rfl⟩
  replace hN12 := Lib.hid hN12
  replace hN16 := Lib.hid hN16
  go_wp2
  obtain ⟨F, hF⟩ : ∃ F, F = four (((w.alloc (Obj.cells #[.int .i64 0, .int .i64 0, .int .i64 0, .int .i64 0, .int .u32 0, .int .u32 0] 82)).alloc (Obj.cells #[.int .i64 (4 * (f0 % 16)), .int .i64 (f2 * 256 + f3), .int .i64 f8, .int .i64 f9, .int .u32 0, .int .u32 0] 82))) (((w.alloc (Obj.cells #[.int .i64 0, .int .i64 0, .int .i64 0, .int .i64 0, .int .u32 0, .int .u32 0] 82)).alloc (Obj.cells #[.int .i64 (4 * (f0 % 16)), .int .i64 (f2 * 256 + f3), .int .i64 f8, .int .i64 f9, .int .u32 N12, .int .u32 0] 82))) (((w.alloc (Obj.cells #[.int .i64 0, .int .i64 0, .int .i64 0, .int .i64 0, .int .u32 0, .int .u32 0] 82)).alloc (Obj.cells #[.int .i64 (4 * (f0 % 16)), .int .i64 (f2 * 256 + f3), .int .i64 f8, .int .i64 f9, .int .u32 0, .int .u32 N16] 82))) (((w.alloc (Obj.cells #[.int .i64 0, .int .i64 0, .int .i64 0, .int .i64 0, .int .u32 0, .int .u32 0] 82)).alloc (Obj.cells #[.int .i64 (4 * (f0 % 16)), .int .i64 (f2 * 256 + f3), .int .i64 f8, .int .i64 f9, .int .u32 N12, .int .u32 N16] 82))) := ⟨_, rfl⟩
  have FR : ∀ t, Below w.heap.size w (F t) := fun t => by
    rw [hF]
    refine four_all (p := fun w' => Below w.heap.size w w') ?_ ?_ ?_ ?_ t <;> exact ((Below.refl _ _).alloc (Nat.le_refl _) _).alloc (by simp) _
  replace FR := Lib.hid FR
  replace hF := Lib.hid hF
  refine wp_region_E (cls2f 7 9 F) (by kernel_rfl) (by kernel_rfl) ⟨m + 1, by rw [hF.out]; rfl⟩ ?_
  refine wpE_qs (D := dom2 F) (fun _ _ h => h.dom) 2 _ _ _ (by kernel_rfl) (by simp) (fun i h1 h2 _ _ h => h.keep (by omega) (by omega)) ?_
  unfold dom2
  simp only [List.take_succ_cons, List.take_zero, List.drop_succ_cons, List.drop_zero]
  repeat (first
    | go_big_quiet_skip
    | (go_big_quiet_want; go_big_quiet_op; go_big_quiet_on))
  refine wpQuiet_nil ?_
  refine wpE_do (by kernel_rfl) (.int .u32 N12) (fun K hK => ⟨fun listed w' hrd hC => ?_, ?_⟩)
  · obtain ⟨t, m, rfl⟩ := hC.form
    go_simp
    refine (num_any _ _ _ _ _ _ (by omega) ((rd12.below (FR.out t)).drewN m)).mono ?_
    rintro e w' ⟨rfl, rfl⟩; exact ⟨by rw [hN12.out], hC.keep (by omega) (by omega)⟩
  go_simp; refine hK _ ?_; clear hK K
  refine wpE_qs (D := dom2 F) (fun _ _ h => h.dom) 2 _ _ _ (by kernel_rfl) (by simp) (fun i h1 h2 _ _ h => h.keep (by omega) (by omega)) ?_
  unfold dom2
  simp only [List.take_succ_cons, List.take_zero, List.drop_succ_cons, List.drop_zero]
  repeat (first
    | go_big_quiet_skip
    | (go_big_quiet_want; go_big_quiet_op; go_big_quiet_on))
  refine wpQuiet_nil ?_
  refine wpE_do (by kernel_rfl) (.int .u32 N16) (fun K hK => ⟨fun listed w' hrd hC => ?_, ?_⟩)
  · obtain ⟨t, m, rfl⟩ := hC.form
    go_simp
    refine (num_any _ _ _ _ _ _ (by omega) ((rd16.below (FR.out t)).drewN m)).mono ?_
    rintro e w' ⟨rfl, rfl⟩; exact ⟨by rw [hN16.out], hC.keep (by omega) (by omega)⟩
  go_simp; refine hK _ ?_; clear hK K
  refine wpE_qs (D := dom2 F) (fun _ _ h => h.dom) 1 _ _ _ (by kernel_rfl) (by simp) (fun i h1 h2 _ _ h => h.keep (by omega) (by omega)) ?_
  unfold dom2
  simp only [List.take_succ_cons, List.take_zero, List.drop_succ_cons, List.drop_zero]
  repeat (first
    | go_big_quiet_skip
    | (go_big_quiet_want; go_big_quiet_op; go_big_quiet_on))
  refine wpQuiet_nil ?_
  refine wpE_do (by kernel_rfl) (undef) (fun K hK => ⟨fun listed w' hrd hC => ?_, ?_⟩)
  · obtain ⟨y, m, hy, rfl⟩ := cls2f.at1 (F := F) hC hrd.1
    have hnx := cls2f.to1 (F := F) (i := 7) (j := 9) (by decide) hrd.1 hy m
    replace hF := hF.out
    clear hC
    subst hF
    cases y <;> simp only [cd, four] at hnx ⊢ <;> go_simp <;> exact ⟨rfl, hnx⟩
  go_simp; refine hK _ ?_; clear hK K
  refine wpE_qs (D := dom2 F) (fun _ _ h => h.dom) 1 _ _ _ (by kernel_rfl) (by simp) (fun i h1 h2 _ _ h => h.keep (by omega) (by omega)) ?_
  unfold dom2
  simp only [List.take_succ_cons, List.take_zero, List.drop_succ_cons, List.drop_zero]
  repeat (first
    | go_big_quiet_skip
    | (go_big_quiet_want; go_big_quiet_op; go_big_quiet_on))
  refine wpQuiet_nil ?_
  refine wpE_do (by kernel_rfl) (undef) (fun K hK => ⟨fun listed w' hrd hC => ?_, ?_⟩)
  · obtain ⟨y, m, hy, rfl⟩ := cls2f.at2 (F := F) hC hrd.1
    have hnx := cls2f.to2 (F := F) (i := 7) (j := 9) (by decide) hrd.1 hy m
    replace hF := hF.out
    clear hC
    subst hF
    cases y <;> simp only [cd, four] at hnx ⊢ <;> go_simp <;> exact ⟨rfl, hnx⟩
  go_simp; refine hK _ ?_; clear hK K
  intro w' hw'
  obtain ⟨m, rfl⟩ := cls2f.end_ (F := F) hw' (by kernel_rfl) (by kernel_rfl)
  replace hF := hF.out
  clear hw'
  subst hF
  simp only [four]
  go_wp2
  exact bodyPost_ret (v := .tuple #[.agg #[.int .i64 (4 * (f0 % 16)), .int .i64 (f2 * 256 + f3), .int .i64 f8, .int .i64 f9, .int .u32 N12, .int .u32 N16], .int .i64 0]) (by simp [results, Try.results43, go_sem]) rfl
    ⟨by rw [e.out]; unfold hdIf hdOf Hd.val; rw [if_pos rfl, hN12.out, hN16.out, hf8.out, hf9.out, hf0.out, n2_eq l 2 (by rw [hr.len]; omega), hf2.out, hf3.out, Int.mul_comm]; rfl, below_drewN (((Below.refl _ _).alloc (Nat.le_refl _) _).alloc (by simp) _) m⟩
end Go.Proofs.Ytjaacmecniijgaa
