/- The walks of package part: num, put, few, set, pseudo. -/
import Derived.Test.YtlhfbmoodehoiaaPartPlain
import Derived.Test.YtlhfbmoodehoiaaSumWalkA
import Derived.Test.YtlhfbmoodehoiaaPlan
namespace Go.Proofs.Ytlhfbmoodehoiaa
set_option linter.unusedVariables false
set_option linter.unusedSimpArgs false
open Go.RowKit
theorem u16_shl_or (a b : Int) (h0 : 0 ≤ a ∧ a ≤ 255) (h1 : 0 ≤ b ∧ b ≤ 255) : bits .or .u16 (a * 256) b = a * 256 + b := by
  rw [u16_or _ _ (by omega) (by omega) (by omega) (by omega)]
  have : (a * 256).toNat ||| b.toNat = (a * 256).toNat + b.toNat := by
    have e : (a * 256).toNat = 2 ^ 8 * a.toNat := by omega
    rw [e, Nat.two_pow_add_eq_or_of_lt (by omega)]
  rw [this]; omega
set_option maxHeartbeats 400000 in
theorem pnum_any (b o len c : Nat) (x y : Int) (w : World) (h2 : 2 ≤ len) (hx : 0 ≤ x ∧ x ≤ 255) (hy : 0 ≤ y ∧ y ≤ 255) (h0 : w.cell? ⟨b, o, none⟩ = some (.int .u8 x)) (h1 : w.cell? ⟨b, o + 1, none⟩ = some (.int .u8 y)) :
    Calls Try.prog 44 #[.slice (some ⟨b, o, none⟩) len c] w fun e w' => e = .returned (.int .u16 (x * 256 + y)) ∧ Below w.heap.size w w' := by
  have hor := u16_shl_or x y hx hy
  go_enter Try.func44, Try.ntmps44
  go_wp2_with fail
  have F0 : ∀ t : Tw (fun w' => Below w.heap.size w w'), t.w.cell? ⟨b, o, none⟩ = some (.int .u8 x) := fun t => (t.h.cell (p := ⟨b, o, none⟩) (cell_lt h0)).trans h0
  have F1 : ∀ t : Tw (fun w' => Below w.heap.size w w'), t.w.cell? ⟨b, o + 1, none⟩ = some (.int .u8 y) := fun t => (t.h.cell (p := ⟨b, o + 1, none⟩) (cell_lt h1)).trans h1
  have : Nonempty (Tw (fun w' => Below w.heap.size w w')) := ⟨⟨w, Below.refl _ _⟩⟩
  refine region_tw (fun w' => Below (w).heap.size (w) w') (by kernel_rfl) (by kernel_rfl) (Below.refl _ _).drew ?_
  unfold clsS
  repeat (first
    | go_big_quiet_skip
    | (go_big_quiet_want; go_big_quiet_op; first | go_big_quiet_on | go_big_quiet_call (
      (first |(fail)))))
  refine wpQuiet_nil ?_
  intro tq
  clear F0 F1 this
  go_wp2_with fail
  go_ret
  exact ⟨rfl, tq.h⟩
def PPR4 (w : World) (base : Nat) (v : Value) (l : List Int) (n : Int) (i b : Value) (wr : World) : Prop :=
  (i = .int .i64 3 ∧ App w wr base v b l) ∨ (i = .int .i64 2 ∧ App w wr base v b (l ++ [n / 16777216])) ∨ (i = .int .i64 1 ∧ App w wr base v b (l ++ [n / 16777216, n / 65536 % 256])) ∨
  (i = .int .i64 0 ∧ App w wr base v b (l ++ [n / 16777216, n / 65536 % 256, n / 256 % 256])) ∨ (i = .int .i64 (-1) ∧ App w wr base v b (l ++ be4 n))
def PPR2 (w : World) (base : Nat) (v : Value) (l : List Int) (n : Int) (i b : Value) (wr : World) : Prop :=
  (i = .int .i64 1 ∧ App w wr base v b l) ∨ (i = .int .i64 0 ∧ App w wr base v b (l ++ [n / 256])) ∨ (i = .int .i64 (-1) ∧ App w wr base v b (l ++ be2 n))
set_option maxHeartbeats 1000000 in
theorem pput4_any (n : Int) (v : Value) (l : List Int) (base : Nat) (w : World) (hown : Own .u8 5 w base v l) (hl : l.length ≤ 100000) (hn : 0 ≤ n ∧ n ≤ 4294967295) (hbase : base ≤ w.heap.size) :
    Calls Try.prog 32 #[v, .int .u32 n, .int .i64 4] w (Puts w base v (l ++ be4 n)) := by
  obtain ⟨i0, hi, hz0, hz1, hz2⟩ := info_parts info_u8_
  go_enter Try.func32, Try.ntmps32
  go_wp2
  go_loopw [0, 7] (fun b i wr => PPR4 w base v l n i b wr) (fun _ i _ => (intOf i + 1).toNat)
  case atStart => exact .inl ⟨rfl, App.refl hown⟩
  case round =>
    rcases hrel with ⟨rfl, h⟩ | ⟨rfl, h⟩ | ⟨rfl, h⟩ | ⟨rfl, h⟩ | ⟨rfl, h⟩
    · go_wp2_with (at_builtin; have hx := Rd.new .u8 wr 5 [n / 16777216] (by intro y hy; simp at hy; subst hy; exact u8_inr (by omega)) #[.int .u8 (n / 16777216)] rfl 1 rfl; refine wpList_app _ rfl (.tmp 14) (.tmp 20) 75 rfl .u8 base 5 i0 (.int .u8 0) 1 Try.underlying75 hi hz0 hz1 hz2 rfl _ (by rfl) _ (h.own.alloc _) (wr.heap.size + 1) _ 1 1 rfl [n / 16777216] hx (by simp; try omega) (by decide) (by have := h.upd.size; simp; omega) ?_; intro v1 w1 own1 hg1 hb1; have h1 := (h.alloc (.cells #[.int .u8 (n / 16777216)] 5)).app own1 hg1 hb1; clear own1 hg1 hb1 hx)
      exact ⟨.inr (.inl ⟨rfl, h1⟩), by simp [intOf]⟩
    · go_wp2_with (at_builtin; have hx := Rd.new .u8 wr 5 [n / 65536 % 256] (by intro y hy; simp at hy; subst hy; exact u8_inr (by omega)) #[.int .u8 (n / 65536 % 256)] rfl 1 rfl; refine wpList_app _ rfl (.tmp 14) (.tmp 20) 75 rfl .u8 base 5 i0 (.int .u8 0) 1 Try.underlying75 hi hz0 hz1 hz2 rfl _ (by rfl) _ (h.own.alloc _) (wr.heap.size + 1) _ 1 1 rfl [n / 65536 % 256] hx (by simp; try omega) (by decide) (by have := h.upd.size; simp; omega) ?_; intro v1 w1 own1 hg1 hb1; have h1 := (h.alloc (.cells #[.int .u8 (n / 65536 % 256)] 5)).app own1 hg1 hb1; clear own1 hg1 hb1 hx)
      exact ⟨.inr (.inr (.inl ⟨rfl, by simpa using h1⟩)), by simp [intOf]⟩
    · go_wp2_with (at_builtin; have hx := Rd.new .u8 wr 5 [n / 256 % 256] (by intro y hy; simp at hy; subst hy; exact u8_inr (by omega)) #[.int .u8 (n / 256 % 256)] rfl 1 rfl; refine wpList_app _ rfl (.tmp 14) (.tmp 20) 75 rfl .u8 base 5 i0 (.int .u8 0) 1 Try.underlying75 hi hz0 hz1 hz2 rfl _ (by rfl) _ (h.own.alloc _) (wr.heap.size + 1) _ 1 1 rfl [n / 256 % 256] hx (by simp; try omega) (by decide) (by have := h.upd.size; simp; omega) ?_; intro v1 w1 own1 hg1 hb1; have h1 := (h.alloc (.cells #[.int .u8 (n / 256 % 256)] 5)).app own1 hg1 hb1; clear own1 hg1 hb1 hx)
      exact ⟨.inr (.inr (.inr (.inl ⟨rfl, by simpa using h1⟩))), by simp [intOf]⟩
    · go_wp2_with (at_builtin; have hx := Rd.new .u8 wr 5 [n % 256] (by intro y hy; simp at hy; subst hy; exact u8_inr (by omega)) #[.int .u8 (n % 256)] rfl 1 rfl; refine wpList_app _ rfl (.tmp 14) (.tmp 20) 75 rfl .u8 base 5 i0 (.int .u8 0) 1 Try.underlying75 hi hz0 hz1 hz2 rfl _ (by rfl) _ (h.own.alloc _) (wr.heap.size + 1) _ 1 1 rfl [n % 256] hx (by simp; try omega) (by decide) (by have := h.upd.size; simp; omega) ?_; intro v1 w1 own1 hg1 hb1; have h1 := (h.alloc (.cells #[.int .u8 (n % 256)] 5)).app own1 hg1 hb1; clear own1 hg1 hb1 hx)
      exact ⟨.inr (.inr (.inr (.inr ⟨rfl, by simpa [be4] using h1⟩))), by simp [intOf]⟩
    · go_wp2
      go_ret
      exact ⟨_, rfl, h⟩
set_option maxHeartbeats 1000000 in
theorem pput2_any (n : Int) (v : Value) (l : List Int) (base : Nat) (w : World) (hown : Own .u8 5 w base v l) (hl : l.length ≤ 100000) (hn : 0 ≤ n ∧ n ≤ 65535) (hbase : base ≤ w.heap.size) :
    Calls Try.prog 32 #[v, .int .u32 n, .int .i64 2] w (Puts w base v (l ++ be2 n)) := by
  obtain ⟨i0, hi, hz0, hz1, hz2⟩ := info_parts info_u8_
  go_enter Try.func32, Try.ntmps32
  go_wp2
  go_loopw [0, 7] (fun b i wr => PPR2 w base v l n i b wr) (fun _ i _ => (intOf i + 1).toNat)
  case atStart => exact .inl ⟨rfl, App.refl hown⟩
  case round =>
    rcases hrel with ⟨rfl, h⟩ | ⟨rfl, h⟩ | ⟨rfl, h⟩
    · go_wp2_with (at_builtin; have hx := Rd.new .u8 wr 5 [n / 256] (by intro y hy; simp at hy; subst hy; exact u8_inr (by omega)) #[.int .u8 (n / 256)] rfl 1 rfl; refine wpList_app _ rfl (.tmp 14) (.tmp 20) 75 rfl .u8 base 5 i0 (.int .u8 0) 1 Try.underlying75 hi hz0 hz1 hz2 rfl _ (by rfl) _ (h.own.alloc _) (wr.heap.size + 1) _ 1 1 rfl [n / 256] hx (by simp; try omega) (by decide) (by have := h.upd.size; simp; omega) ?_; intro v1 w1 own1 hg1 hb1; have h1 := (h.alloc (.cells #[.int .u8 (n / 256)] 5)).app own1 hg1 hb1; clear own1 hg1 hb1 hx)
      exact ⟨.inr (.inl ⟨rfl, h1⟩), by simp [intOf]⟩
    · go_wp2_with (at_builtin; have hx := Rd.new .u8 wr 5 [n % 256] (by intro y hy; simp at hy; subst hy; exact u8_inr (by omega)) #[.int .u8 (n % 256)] rfl 1 rfl; refine wpList_app _ rfl (.tmp 14) (.tmp 20) 75 rfl .u8 base 5 i0 (.int .u8 0) 1 Try.underlying75 hi hz0 hz1 hz2 rfl _ (by rfl) _ (h.own.alloc _) (wr.heap.size + 1) _ 1 1 rfl [n % 256] hx (by simp; try omega) (by decide) (by have := h.upd.size; simp; omega) ?_; intro v1 w1 own1 hg1 hb1; have h1 := (h.alloc (.cells #[.int .u8 (n % 256)] 5)).app own1 hg1 hb1; clear own1 hg1 hb1 hx)
      exact ⟨.inr (.inr ⟨rfl, by simpa [be2] using h1⟩), by simp [intOf]⟩
    · go_wp2
      go_ret
      exact ⟨_, rfl, h⟩
theorem few_any (l : List Int) (A : Option Addr) (len c B : Nat) (w : World) (hr : Rd .u8 w B A len l) (hlc : len ≤ c) (hcm : c ≤ 9223372036854775807) :
    Calls Try.prog 31 #[.slice A len c] w fun e w' => (∃ c', e = .returned (.slice A (fewL l).length c') ∧ (fewL l).length ≤ c' ∧ c' ≤ 9223372036854775807 ∧ Rd .u8 w B A (fewL l).length (fewL l)) ∧ w = w' := by
  have hm : (fewL l).length = min 1400 len := by unfold fewL; rw [List.length_take, hr.len]
  have hrd : Rd .u8 w B A (fewL l).length (fewL l) := by
    have e : l.take (min 1400 len) = l.take 1400 := List.take_eq_take_iff.2 (by rw [hr.len]; omega)
    rw [hm]; unfold fewL; rw [← e]; exact hr.take (m := min 1400 len) (by omega)
  rw [hm] at hrd ⊢
  generalize fewL l = F at *
  clear hm
  by_cases h : len ≤ 1400
  · have e : min 1400 len = len := by omega
    rw [e] at hrd ⊢
    clear e
    go_enter Try.func31, Try.ntmps31
    have hc : min (len : Int) 1400 = (len : Int) := by omega
    go_wp2
    go_ret
    refine ⟨⟨c, rfl, hlc, ?_⟩, rfl⟩
    first | exact ⟨hcm, hrd⟩ | exact hcm
  · have e : min 1400 len = 1400 := by omega
    rw [e] at hrd ⊢
    clear e
    go_enter Try.func31, Try.ntmps31
    have hc : min (len : Int) 1400 = 1400 := by omega
    go_wp2
    go_ret
    refine ⟨⟨c, rfl, by omega, ?_⟩, rfl⟩
    first | exact ⟨hcm, hrd⟩ | exact hcm
/-- a call's own row of bytes -/
def Gives (w : World) (l : List Int) (e : Ending) (w' : World) : Prop := ∃ v', e = .returned v' ∧ Own .u8 5 w' w.heap.size v' l ∧ Below w.heap.size w w'
theorem set_any (g n c at_ base : Nat) (s : Int) (l : List Int) (w : World) (own : Own .u8 5 w base (.slice (some ⟨g, 0, none⟩) n c) l) (hn : l.length = n) (ha : at_ + 1 < n) (hnb : n ≤ 100000) (hs : 0 ≤ s ∧ s ≤ 65535) (hat : at_ = 2 ∨ at_ = 6 ∨ at_ = 16) :
    Calls Try.prog 34 #[.slice (some ⟨g, 0, none⟩) n c, .int .i64 at_, .int .u16 s] w fun e w' => e = .returned (.slice (some ⟨g, 0, none⟩) n c) ∧ Own .u8 5 w' base (.slice (some ⟨g, 0, none⟩) n c) ((l.set at_ (s / 256)).set (at_ + 1) (s % 256)) ∧ Upd (fun x => x = g) w w' := by
  have hSw : IntKind.u8.wrap s = s % 256 := IntKind.wrap_u8' s
  rcases hat with rfl | rfl | rfl
  · have own8 := (own.set hn 2 (x := s / 256) (u8_inr (by omega))).set (by rw [List.length_set]; exact hn) (2 + 1) (x := s % 256) (u8_inr (by omega))
    have up8 := (Upd.one w g 2 (.int .u8 (s / 256))).trans (Upd.one _ g (2 + 1) (.int .u8 (s % 256)))
    obtain ⟨c0, f0, _⟩ := own.at_ hn (j := 2) (by omega)
    obtain ⟨c1, f1, _⟩ := own.at_ hn (j := 2 + 1) (by omega)
    replace hn := Lib.hid hn
    go_enter Try.func34, Try.ntmps34
    go_wp2
    go_ret
    exact ⟨rfl, own8, up8⟩
  · have own8 := (own.set hn 6 (x := s / 256) (u8_inr (by omega))).set (by rw [List.length_set]; exact hn) (6 + 1) (x := s % 256) (u8_inr (by omega))
    have up8 := (Upd.one w g 6 (.int .u8 (s / 256))).trans (Upd.one _ g (6 + 1) (.int .u8 (s % 256)))
    obtain ⟨c0, f0, _⟩ := own.at_ hn (j := 6) (by omega)
    obtain ⟨c1, f1, _⟩ := own.at_ hn (j := 6 + 1) (by omega)
    replace hn := Lib.hid hn
    go_enter Try.func34, Try.ntmps34
    go_wp2
    go_ret
    exact ⟨rfl, own8, up8⟩
  · have own8 := (own.set hn 16 (x := s / 256) (u8_inr (by omega))).set (by rw [List.length_set]; exact hn) (16 + 1) (x := s % 256) (u8_inr (by omega))
    have up8 := (Upd.one w g 16 (.int .u8 (s / 256))).trans (Upd.one _ g (16 + 1) (.int .u8 (s % 256)))
    obtain ⟨c0, f0, _⟩ := own.at_ hn (j := 16) (by omega)
    obtain ⟨c1, f1, _⟩ := own.at_ hn (j := 16 + 1) (by omega)
    replace hn := Lib.hid hn
    go_enter Try.func34, Try.ntmps34
    go_wp2
    go_ret
    exact ⟨rfl, own8, up8⟩
end Go.Proofs.Ytlhfbmoodehoiaa
