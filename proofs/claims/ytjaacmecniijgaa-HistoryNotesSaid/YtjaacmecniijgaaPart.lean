/- The walks of package part: num, put, few, set, pseudo. -/
import Derived.Test.YtjaacmecniijgaaHnAll2
import Derived.Test.YtjaacmecniijgaaSumWalkA
import Derived.Test.YtjaacmecniijgaaPlan
namespace Go.Proofs.Ytjaacmecniijgaa
set_option linter.unusedVariables false
set_option linter.unusedSimpArgs false
open Go.RowKit
theorem u16_shl_or (a b : Int) (h0 : 0 ≤ a ∧ a ≤ 255) (h1 : 0 ≤ b ∧ b ≤ 255) : bits .or .u16 (a * 256) b = a * 256 + b := by
  rw [u16_or _ _ (by omega) (by omega) (by omega) (by omega)]
  have : (a * 256).toNat ||| b.toNat = (a * 256).toNat + b.toNat := by
    have e : (a * 256).toNat = 2 ^ 8 * a.toNat := by omega
    rw [e, Nat.two_pow_add_eq_or_of_lt (by omega)]
  rw [this]; omega
set_option maxHeartbeats 400000 in
theorem pnum_any (b o len c : Nat) (x y : Int) (w : World) (h2 : 2 ≤ len) (hx : 0 ≤ x ∧ x ≤ 255) (hy : 0 ≤ y ∧ y ≤ 255) (h0 : w.cell? ⟨b, o, none⟩ = some (.int .u8 x)) (h1 : w.cell? ⟨b, o + 1, none⟩ = some (.int .u8 y)) :
    Calls Try.prog 60 #[.slice (some ⟨b, o, none⟩) len c] w fun e w' => e = .returned (.int .u16 (x * 256 + y)) ∧ Below w.heap.size w w' := by
  have hor := u16_shl_or x y hx hy
  go_enter Try.func60, Try.ntmps60
  go_wp2_with fail
  have F0 : ∀ t : Tw (fun w' => Below w.heap.size w w'), t.w.cell? ⟨b, o, none⟩ = some (.int .u8 x) := fun t => (t.h.cell (p := ⟨b, o, none⟩) (cell_lt h0)).trans h0
  have F1 : ∀ t : Tw (fun w' => Below w.heap.size w w'), t.w.cell? ⟨b, o + 1, none⟩ = some (.int .u8 y) := fun t => (t.h.cell (p := ⟨b, o + 1, none⟩) (cell_lt h1)).trans h1
  have : Nonempty (Tw (fun w' => Below w.heap.size w w')) := ⟨⟨w, Below.refl _ _⟩⟩
  refine region_tw (fun w' => Below (w).heap.size (w) w') (by kernel_rfl) (by kernel_rfl) (Below.refl _ _).drew ?_
  unfold clsS
  repeat (first
    | go_big_quiet_skip
    | (go_big_quiet_want; go_big_quiet_op; first | go_big_quiet_on | go_big_quiet_call (
      (first |(fail)))))
  refine wpQuiet_nil ?_
  intro tq
  clear F0 F1 this
  go_wp2_with fail
  go_ret
  exact ⟨rfl, tq.h⟩
def PPR4 (w : World) (base : Nat) (v : Value) (l : List Int) (n : Int) (i b : Value) (wr : World) : Prop :=
  (i = .int .i64 3 ∧ App w wr base v b l) ∨ (i = .int .i64 2 ∧ App w wr base v b (l ++ [n / 16777216])) ∨ (i = .int .i64 1 ∧ App w wr base v b (l ++ [n / 16777216, n / 65536 % 256])) ∨
  (i = .int .i64 0 ∧ App w wr base v b (l ++ [n / 16777216, n / 65536 % 256, n / 256 % 256])) ∨ (i = .int .i64 (-1) ∧ App w wr base v b (l ++ be4 n))
def PPR2 (w : World) (base : Nat) (v : Value) (l : List Int) (n : Int) (i b : Value) (wr : World) : Prop :=
  (i = .int .i64 1 ∧ App w wr base v b l) ∨ (i = .int .i64 0 ∧ App w wr base v b (l ++ [n / 256])) ∨ (i = .int .i64 (-1) ∧ App w wr base v b (l ++ be2 n))
set_option maxHeartbeats 1000000 in
theorem pput4_any (n : Int) (v : Value) (l : List Int) (base : Nat) (w : World) (hown : Own .u8 5 w base v l) (hl : l.length ≤ 100000) (hn : 0 ≤ n ∧ n ≤ 4294967295) (hbase : base ≤ w.heap.size) :
    Calls Try.prog 68 #[v, .int .u32 n, .int .i64 4] w (Puts w base v (l ++ be4 n)) := by
  obtain ⟨i0, hi, hz0, hz1, hz2⟩ := info_parts info_u8_
  go_enter Try.func68, Try.ntmps68
  go_wp2
  go_loopw [0, 7] (fun b i wr => PPR4 w base v l n i b wr) (fun _ i _ => (intOf i + 1).toNat)
  case atStart => exact .inl ⟨rfl, App.refl hown⟩
  case round =>
    rcases hrel with ⟨rfl, h⟩ | ⟨rfl, h⟩ | ⟨rfl, h⟩ | ⟨rfl, h⟩ | ⟨rfl, h⟩
    · go_wp2_with (at_builtin; have hx := Rd.new .u8 wr 5 [n / 16777216] (by intro y hy; simp at hy; subst hy; exact u8_inr (by omega)) #[.int .u8 (n / 16777216)] rfl 1 rfl; refine wpList_app _ rfl (.tmp 14) (.tmp 20) 24 rfl .u8 base 5 i0 (.int .u8 0) 1 Try.underlying24 hi hz0 hz1 hz2 rfl _ (by rfl) _ (h.own.alloc _) (wr.heap.size + 1) _ 1 1 rfl [n / 16777216] hx (by simp; try omega) (by decide) (by have := h.upd.size; simp; omega) ?_; intro v1 w1 own1 hg1 hb1; have h1 := (h.alloc (.cells #[.int .u8 (n / 16777216)] 5)).app own1 hg1 hb1; clear own1 hg1 hb1 hx)
      exact ⟨.inr (.inl ⟨rfl, h1⟩), by simp [intOf]⟩
    · go_wp2_with (at_builtin; have hx := Rd.new .u8 wr 5 [n / 65536 % 256] (by intro y hy; simp at hy; subst hy; exact u8_inr (by omega)) #[.int .u8 (n / 65536 % 256)] rfl 1 rfl; refine wpList_app _ rfl (.tmp 14) (.tmp 20) 24 rfl .u8 base 5 i0 (.int .u8 0) 1 Try.underlying24 hi hz0 hz1 hz2 rfl _ (by rfl) _ (h.own.alloc _) (wr.heap.size + 1) _ 1 1 rfl [n / 65536 % 256] hx (by simp; try omega) (by decide) (by have := h.upd.size; simp; omega) ?_; intro v1 w1 own1 hg1 hb1; have h1 := (h.alloc (.cells #[.int .u8 (n / 65536 % 256)] 5)).app own1 hg1 hb1; clear own1 hg1 hb1 hx)
      exact ⟨.inr (.inr (.inl ⟨rfl, by simpa using h1⟩)), by simp [intOf]⟩
    · go_wp2_with (at_builtin; have hx := Rd.new .u8 wr 5 [n / 256 % 256] (by intro y hy; simp at hy; subst hy; exact u8_inr (by omega)) #[.int .u8 (n / 256 % 256)] rfl 1 rfl; refine wpList_app _ rfl (.tmp 14) (.tmp 20) 24 rfl .u8 base 5 i0 (.int .u8 0) 1 Try.underlying24 hi hz0 hz1 hz2 rfl _ (by rfl) _ (h.own.alloc _) (wr.heap.size + 1) _ 1 1 rfl [n / 256 % 256] hx (by simp; try omega) (by decide) (by have := h.upd.size; simp; omega) ?_; intro v1 w1 own1 hg1 hb1; have h1 := (h.alloc (.cells #[.int .u8 (n / 256 % 256)] 5)).app own1 hg1 hb1; clear own1 hg1 hb1 hx)
      exact ⟨.inr (.inr (.inr (.inl ⟨rfl, by simpa using h1⟩))), by simp [intOf]⟩
    · go_wp2_with (at_builtin; have hx := Rd.new .u8 wr 5 [n % 256] (by intro y hy; simp at hy; subst hy; exact u8_inr (by omega)) #[.int .u8 (n % 256)] rfl 1 rfl; refine wpList_app _ rfl (.tmp 14) (.tmp 20) 24 rfl .u8 base 5 i0 (.int .u8 0) 1 Try.underlying24 hi hz0 hz1 hz2 rfl _ (by rfl) _ (h.own.alloc _) (wr.heap.size + 1) _ 1 1 rfl [n % 256] hx (by simp; try omega) (by decide) (by have := h.upd.size; simp; omega) ?_; intro v1 w1 own1 hg1 hb1; have h1 := (h.alloc (.cells #[.int .u8 (n % 256)] 5)).app own1 hg1 hb1; clear own1 hg1 hb1 hx)
      exact ⟨.inr (.inr (.inr (.inr ⟨rfl, by simpa [be4] using h1⟩))), by simp [intOf]⟩
    · go_wp2
      go_ret
      exact ⟨_, rfl, h⟩
set_option maxHeartbeats 1000000 in
theorem pput2_any (n : Int) (v : Value) (l : List Int) (base : Nat) (w : World) (hown : Own .u8 5 w base v l) (hl : l.length ≤ 100000) (hn : 0 ≤ n ∧ n ≤ 65535) (hbase : base ≤ w.heap.size) :
    Calls Try.prog 68 #[v, .int .u32 n, .int .i64 2] w (Puts w base v (l ++ be2 n)) := by
  obtain ⟨i0, hi, hz0, hz1, hz2⟩ := info_parts info_u8_
  go_enter Try.func68, Try.ntmps68
  go_wp2
  go_loopw [0, 7] (fun b i wr => PPR2 w base v l n i b wr) (fun _ i _ => (intOf i + 1).toNat)
  case atStart => exact .inl ⟨rfl, App.refl hown⟩
  case round =>
    rcases hrel with ⟨rfl, h⟩ | ⟨rfl, h⟩ | ⟨rfl, h⟩
    · go_wp2_with (at_builtin; have hx := Rd.new .u8 wr 5 [n / 256] (by intro y hy; simp at hy; subst hy; exact u8_inr (by omega)) #[.int .u8 (n / 256)] rfl 1 rfl; refine wpList_app _ rfl (.tmp 14) (.tmp 20) 24 rfl .u8 base 5 i0 (.int .u8 0) 1 Try.underlying24 hi hz0 hz1 hz2 rfl _ (by rfl) _ (h.own.alloc _) (wr.heap.size + 1) _ 1 1 rfl [n / 256] hx (by simp; try omega) (by decide) (by have := h.upd.size; simp; omega) ?_; intro v1 w1 own1 hg1 hb1; have h1 := (h.alloc (.cells #[.int .u8 (n / 256)] 5)).app own1 hg1 hb1; clear own1 hg1 hb1 hx)
      exact ⟨.inr (.inl ⟨rfl, h1⟩), by simp [intOf]⟩
    · go_wp2_with (at_builtin; have hx := Rd.new .u8 wr 5 [n % 256] (by intro y hy; simp at hy; subst hy; exact u8_inr (by omega)) #[.int .u8 (n % 256)] rfl 1 rfl; refine wpList_app _ rfl (.tmp 14) (.tmp 20) 24 rfl .u8 base 5 i0 (.int .u8 0) 1 Try.underlying24 hi hz0 hz1 hz2 rfl _ (by rfl) _ (h.own.alloc _) (wr.heap.size + 1) _ 1 1 rfl [n % 256] hx (by simp; try omega) (by decide) (by have := h.upd.size; simp; omega) ?_; intro v1 w1 own1 hg1 hb1; have h1 := (h.alloc (.cells #[.int .u8 (n % 256)] 5)).app own1 hg1 hb1; clear own1 hg1 hb1 hx)
      exact ⟨.inr (.inr ⟨rfl, by simpa [be2] using h1⟩), by simp [intOf]⟩
    · go_wp2
      go_ret
      exact ⟨_, rfl, h⟩
/-- a call's own row of bytes -/
def Gives (w : World) (l : List Int) (e : Ending) (w' : World) : Prop := ∃ v', e = .returned v' ∧ Own .u8 5 w' w.heap.size v' l ∧ Below w.heap.size w w'
end Go.Proofs.Ytjaacmecniijgaa
