/- What the laws' proofs lean on: plain facts and contracts of the program's functions, laid together (3). -/
import Derived.Test.YtbckoohljkmahaaGreatPa02
import Derived.Test.YtbckoohljkmahaaGreatPa01
import Derived.Deep.WholeRow
import Derived.Deep.DeepCutAuto
import Derived.Deep.CutBlock
namespace Go.Proofs.YtbckoohljkmahaaGreat
set_option linter.unusedVariables false
set_option linter.unusedSimpArgs false
open Go.RowKit
theorem u16_shl_or (a b : Int) (h0 : 0 ≤ a ∧ a ≤ 255) (h1 : 0 ≤ b ∧ b ≤ 255) : bits .or .u16 (a * 256) b = a * 256 + b := by
  rw [u16_or _ _ (by omega) (by omega) (by omega) (by omega)]
  have : (a * 256).toNat ||| b.toNat = (a * 256).toNat + b.toNat := by
    have e : (a * 256).toNat = 2 ^ 8 * a.toNat := by omega
    rw [e, Nat.two_pow_add_eq_or_of_lt (by omega)]
  rw [this]; omega
set_option maxHeartbeats 400000 in
theorem pnum_any (b o len c : Nat) (x y : Int) (w : World) (h2 : 2 ≤ len) (hx : 0 ≤ x ∧ x ≤ 255) (hy : 0 ≤ y ∧ y ≤ 255) (h0 : w.cell? ⟨b, o, none⟩ = some (.int .u8 x)) (h1 : w.cell? ⟨b, o + 1, none⟩ = some (.int .u8 y)) :
    Calls Tryz.prog 117 #[.slice (some ⟨b, o, none⟩) len c] w fun e w' => e = .returned (.int .u16 (x * 256 + y)) ∧ Below w.heap.size w w' := by
  have hor := u16_shl_or x y hx hy
  go_enter Tryz.func117, Tryz.ntmps117
  go_wp2_with fail
  have F0 : ∀ t : Tw (fun w' => Below w.heap.size w w'), t.w.cell? ⟨b, o, none⟩ = some (.int .u8 x) := fun t => (t.h.cell (p := ⟨b, o, none⟩) (cell_lt h0)).trans h0
  have F1 : ∀ t : Tw (fun w' => Below w.heap.size w w'), t.w.cell? ⟨b, o + 1, none⟩ = some (.int .u8 y) := fun t => (t.h.cell (p := ⟨b, o + 1, none⟩) (cell_lt h1)).trans h1
  have : Nonempty (Tw (fun w' => Below w.heap.size w w')) := ⟨⟨w, Below.refl _ _⟩⟩
  refine region_tw (fun w' => Below (w).heap.size (w) w') (by kernel_rfl) (by kernel_rfl) (Below.refl _ _).drew ?_
  unfold clsS
  repeat (first
    | go_big_quiet_skip
    | (go_big_quiet_want; go_big_quiet_op; first | go_big_quiet_on | go_big_quiet_call (
      (first |(fail)))))
  refine wpQuiet_nil ?_
  intro tq
  clear F0 F1 this
  go_wp2_with fail
  go_ret
  exact ⟨rfl, tq.h⟩
def PPR4 (w : World) (base : Nat) (v : Value) (l : List Int) (n : Int) (i b : Value) (wr : World) : Prop :=
  (i = .int .i64 3 ∧ App w wr base v b l) ∨ (i = .int .i64 2 ∧ App w wr base v b (l ++ [n / 16777216])) ∨ (i = .int .i64 1 ∧ App w wr base v b (l ++ [n / 16777216, n / 65536 % 256])) ∨
  (i = .int .i64 0 ∧ App w wr base v b (l ++ [n / 16777216, n / 65536 % 256, n / 256 % 256])) ∨ (i = .int .i64 (-1) ∧ App w wr base v b (l ++ be4 n))
def PPR2 (w : World) (base : Nat) (v : Value) (l : List Int) (n : Int) (i b : Value) (wr : World) : Prop :=
  (i = .int .i64 1 ∧ App w wr base v b l) ∨ (i = .int .i64 0 ∧ App w wr base v b (l ++ [n / 256])) ∨ (i = .int .i64 (-1) ∧ App w wr base v b (l ++ be2 n))
set_option maxHeartbeats 1000000 in
theorem pput4_any (n : Int) (v : Value) (l : List Int) (base : Nat) (w : World) (hown : Own .u8 5 w base v l) (hl : l.length ≤ 100000) (hn : 0 ≤ n ∧ n ≤ 4294967295) (hbase : base ≤ w.heap.size) :
    Calls Tryz.prog 140 #[v, .int .u32 n, .int .i64 4] w (Puts w base v (l ++ be4 n)) := by
  obtain ⟨i0, hi, hz0, hz1, hz2⟩ := info_parts info_u8_
  go_enter Tryz.func140, Tryz.ntmps140
  go_wp2
  go_loopw [0, 7] (fun b i wr => PPR4 w base v l n i b wr) (fun _ i _ => (intOf i + 1).toNat)
  case atStart => exact .inl ⟨rfl, App.refl hown⟩
  case round =>
    rcases hrel with ⟨rfl, h⟩ | ⟨rfl, h⟩ | ⟨rfl, h⟩ | ⟨rfl, h⟩ | ⟨rfl, h⟩
    · go_wp2_with (at_builtin; have hx := Rd.new .u8 wr 5 [n / 16777216] (by intro y hy; simp at hy; subst hy; exact u8_inr (by omega)) #[.int .u8 (n / 16777216)] rfl 1 rfl; refine wpList_app _ rfl (.tmp 14) (.tmp 20) 22 rfl .u8 base 5 i0 (.int .u8 0) 1 Tryz.underlying22 hi hz0 hz1 hz2 rfl _ (by rfl) _ (h.own.alloc _) (wr.heap.size + 1) _ 1 1 rfl [n / 16777216] hx (by simp; try omega) (by decide) (by have := h.upd.size; simp; omega) ?_; intro v1 w1 own1 hg1 hb1; have h1 := (h.alloc (.cells #[.int .u8 (n / 16777216)] 5)).app own1 hg1 hb1; clear own1 hg1 hb1 hx)
      exact ⟨.inr (.inl ⟨rfl, h1⟩), by simp [intOf]⟩
    · go_wp2_with (at_builtin; have hx := Rd.new .u8 wr 5 [n / 65536 % 256] (by intro y hy; simp at hy; subst hy; exact u8_inr (by omega)) #[.int .u8 (n / 65536 % 256)] rfl 1 rfl; refine wpList_app _ rfl (.tmp 14) (.tmp 20) 22 rfl .u8 base 5 i0 (.int .u8 0) 1 Tryz.underlying22 hi hz0 hz1 hz2 rfl _ (by rfl) _ (h.own.alloc _) (wr.heap.size + 1) _ 1 1 rfl [n / 65536 % 256] hx (by simp; try omega) (by decide) (by have := h.upd.size; simp; omega) ?_; intro v1 w1 own1 hg1 hb1; have h1 := (h.alloc (.cells #[.int .u8 (n / 65536 % 256)] 5)).app own1 hg1 hb1; clear own1 hg1 hb1 hx)
      exact ⟨.inr (.inr (.inl ⟨rfl, by simpa using h1⟩)), by simp [intOf]⟩
    · go_wp2_with (at_builtin; have hx := Rd.new .u8 wr 5 [n / 256 % 256] (by intro y hy; simp at hy; subst hy; exact u8_inr (by omega)) #[.int .u8 (n / 256 % 256)] rfl 1 rfl; refine wpList_app _ rfl (.tmp 14) (.tmp 20) 22 rfl .u8 base 5 i0 (.int .u8 0) 1 Tryz.underlying22 hi hz0 hz1 hz2 rfl _ (by rfl) _ (h.own.alloc _) (wr.heap.size + 1) _ 1 1 rfl [n / 256 % 256] hx (by simp; try omega) (by decide) (by have := h.upd.size; simp; omega) ?_; intro v1 w1 own1 hg1 hb1; have h1 := (h.alloc (.cells #[.int .u8 (n / 256 % 256)] 5)).app own1 hg1 hb1; clear own1 hg1 hb1 hx)
      exact ⟨.inr (.inr (.inr (.inl ⟨rfl, by simpa using h1⟩))), by simp [intOf]⟩
    · go_wp2_with (at_builtin; have hx := Rd.new .u8 wr 5 [n % 256] (by intro y hy; simp at hy; subst hy; exact u8_inr (by omega)) #[.int .u8 (n % 256)] rfl 1 rfl; refine wpList_app _ rfl (.tmp 14) (.tmp 20) 22 rfl .u8 base 5 i0 (.int .u8 0) 1 Tryz.underlying22 hi hz0 hz1 hz2 rfl _ (by rfl) _ (h.own.alloc _) (wr.heap.size + 1) _ 1 1 rfl [n % 256] hx (by simp; try omega) (by decide) (by have := h.upd.size; simp; omega) ?_; intro v1 w1 own1 hg1 hb1; have h1 := (h.alloc (.cells #[.int .u8 (n % 256)] 5)).app own1 hg1 hb1; clear own1 hg1 hb1 hx)
      exact ⟨.inr (.inr (.inr (.inr ⟨rfl, by simpa [be4] using h1⟩))), by simp [intOf]⟩
    · go_wp2
      go_ret
      exact ⟨_, rfl, h⟩
set_option maxHeartbeats 1000000 in
theorem pput2_any (n : Int) (v : Value) (l : List Int) (base : Nat) (w : World) (hown : Own .u8 5 w base v l) (hl : l.length ≤ 100000) (hn : 0 ≤ n ∧ n ≤ 65535) (hbase : base ≤ w.heap.size) :
    Calls Tryz.prog 140 #[v, .int .u32 n, .int .i64 2] w (Puts w base v (l ++ be2 n)) := by
  obtain ⟨i0, hi, hz0, hz1, hz2⟩ := info_parts info_u8_
  go_enter Tryz.func140, Tryz.ntmps140
  go_wp2
  go_loopw [0, 7] (fun b i wr => PPR2 w base v l n i b wr) (fun _ i _ => (intOf i + 1).toNat)
  case atStart => exact .inl ⟨rfl, App.refl hown⟩
  case round =>
    rcases hrel with ⟨rfl, h⟩ | ⟨rfl, h⟩ | ⟨rfl, h⟩
    · go_wp2_with (at_builtin; have hx := Rd.new .u8 wr 5 [n / 256] (by intro y hy; simp at hy; subst hy; exact u8_inr (by omega)) #[.int .u8 (n / 256)] rfl 1 rfl; refine wpList_app _ rfl (.tmp 14) (.tmp 20) 22 rfl .u8 base 5 i0 (.int .u8 0) 1 Tryz.underlying22 hi hz0 hz1 hz2 rfl _ (by rfl) _ (h.own.alloc _) (wr.heap.size + 1) _ 1 1 rfl [n / 256] hx (by simp; try omega) (by decide) (by have := h.upd.size; simp; omega) ?_; intro v1 w1 own1 hg1 hb1; have h1 := (h.alloc (.cells #[.int .u8 (n / 256)] 5)).app own1 hg1 hb1; clear own1 hg1 hb1 hx)
      exact ⟨.inr (.inl ⟨rfl, h1⟩), by simp [intOf]⟩
    · go_wp2_with (at_builtin; have hx := Rd.new .u8 wr 5 [n % 256] (by intro y hy; simp at hy; subst hy; exact u8_inr (by omega)) #[.int .u8 (n % 256)] rfl 1 rfl; refine wpList_app _ rfl (.tmp 14) (.tmp 20) 22 rfl .u8 base 5 i0 (.int .u8 0) 1 Tryz.underlying22 hi hz0 hz1 hz2 rfl _ (by rfl) _ (h.own.alloc _) (wr.heap.size + 1) _ 1 1 rfl [n % 256] hx (by simp; try omega) (by decide) (by have := h.upd.size; simp; omega) ?_; intro v1 w1 own1 hg1 hb1; have h1 := (h.alloc (.cells #[.int .u8 (n % 256)] 5)).app own1 hg1 hb1; clear own1 hg1 hb1 hx)
      exact ⟨.inr (.inr ⟨rfl, by simpa [be2] using h1⟩), by simp [intOf]⟩
    · go_wp2
      go_ret
      exact ⟨_, rfl, h⟩
/-- a call's own row of bytes -/
def Gives (w : World) (l : List Int) (e : Ending) (w' : World) : Prop := ∃ v', e = .returned v' ∧ Own .u8 5 w' w.heap.size v' l ∧ Below w.heap.size w w'
end Go.Proofs.YtbckoohljkmahaaGreat
namespace Go.Proofs.YtbckoohljkmahaaGreat
set_option linter.unusedVariables false
set_option linter.unusedSimpArgs false
open Go.RowKit
theorem own_none {w : World} (base : Nat) : Own .u8 5 w base (.slice none 0 0) [] := Own.nil _ _ _ _
theorem App.bel {w w' : World} {v' : Value} {l : List Int} (h : App w w' w.heap.size (.slice none 0 0) v' l) : Below w.heap.size w w' := h.below (Nat.le_refl _) (fun g hg => by simp [Value.ownBlock] at hg)
set_option maxRecDepth 100000 in
set_option maxHeartbeats 1000000 in
theorem pseudo_any (s d p : Int) (l : List Int) (A : Option Addr) (len c B : Nat) (w : World) (hr : Rd .u8 w B A len l) (hB : B ≤ w.heap.size) (hs : 0 ≤ s ∧ s ≤ 4294967295) (hd : 0 ≤ d ∧ d ≤ 4294967295) (hp : 0 ≤ p ∧ p ≤ 255) (hl : len ≤ 60000) :
    Calls Tryz.prog 118 #[.int .u32 s, .int .u32 d, .int .i64 p, .slice A len c] w fun e w' => e = .returned (.int .u16 (csum s d p l)) ∧ Below w.heap.size w w' := by
  obtain ⟨i0, hi, hz0, hz1, hz2⟩ := info_parts info_u8_
  have hlen := hr.len
  have hrB := hr.more hB
  have hcs := csum_eq s d p l
  have hsb := sb_bd l (fun x hx => inr_u8 (hr.rng x hx)) true
  have hph := sb_bd (ph s d p len) (ph_bd hs hd hp (by omega)) true
  have hff := fo_fo _ hph.1
  rw [hlen] at hcs hsb
  rw [ph_len] at hph
  rw [hcs]
  have hfo := fo_bd hph.1
  have hadd := fo_add (sb true (ph s d p len)) (sb true l) hph.1 hsb.1
  clear hcs
  have hL12 := ph_len s d p len
  obtain ⟨L, hL⟩ : ∃ L, L = ph s d p len := ⟨_, rfl⟩
  rw [← hL] at hph hff hfo hadd hL12 ⊢
  replace hL := Lib.hid hL
  replace hL12 := Lib.hid hL12
  replace hlen := Lib.hid hlen
  replace hff := Lib.hid hff
  replace hadd := Lib.hid hadd
  go_enter Tryz.func118, Tryz.ntmps118
  go_wp2_with fail
  refine (pput4_any s _ [] w.heap.size _ (own_none _) (by simp) hs (Nat.le_refl _)).mono ?_
  rintro e w1 ⟨v1, rfl, a1⟩
  go_wp2_with fail
  refine (pput4_any d _ _ w.heap.size _ a1.own (by simp [be4]) hd a1.upd.size).mono ?_
  rintro e w2 ⟨v2, rfl, a2⟩
  replace a2 := a1.trans a2
  clear a1
  go_wp2_with (at_builtin; go_loud (have hx := Rd.new .u8 w2 5 [0, p] (by intro y hy; simp at hy; rcases hy with rfl | rfl <;> exact u8_inr (by omega)) #[.int .u8 0, .int .u8 p] rfl 2 rfl; refine wpList_app _ rfl (.tmp 14) (.tmp 17) 22 rfl .u8 w.heap.size 5 i0 (.int .u8 0) 1 Tryz.underlying22 hi hz0 hz1 hz2 rfl _ (by rfl) _ (a2.own.alloc _) (w2.heap.size + 1) _ 2 2 rfl [0, p] hx (by simp [be4]) (by decide) (by have := a2.upd.size; simp; omega) ?_; intro v4 w4 own4 hg4 hb4; have a4 := (a2.alloc (.cells #[.int .u8 0, .int .u8 p] 5)).app own4 hg4 hb4; clear own4 hg4 hb4 hx))
  refine (pput2_any len v4 _ w.heap.size _ a4.own (by simp [be4]) (by omega) a4.upd.size).mono ?_
  rintro e w5 ⟨v5, rfl, a5⟩
  replace a5 := a4.trans a5
  clear a4 a2
  have eL : (([] ++ be4 s ++ be4 d) ++ [0, p]) ++ be2 (len : Int) = ph s d p len := by simp [ph]
  rw [eL, ← hL.out] at a5
  obtain ⟨A5, c5, rfl, _, _, rd5⟩ := a5.own.form hL12.out
  have bel5 := a5.bel
  clear a5 eL
  go_wp2_with fail
  refine (More_any 0 L A5 12 c5 _ w5 (by omega) (by omega) (by omega) rd5).mono ?_
  rw [Int.zero_add]
  rintro e w6 ⟨rfl, rfl⟩
  go_wp2_with fail
  refine (More_any (fo (sb true L)) l A len c _ w5 (by omega) (by omega) (by omega) (hrB.below bel5)).mono ?_
  rw [hadd.out]
  rintro e w6 ⟨rfl, rfl⟩
  have hfo2 := fo_bd (n := sb true L + sb true l) (by omega)
  have hff2 := fo_fo (sb true L + sb true l) (by omega)
  replace hff2 := Lib.hid hff2
  go_wp2_with fail
  refine (Done_any _ w5 (by omega) (by omega)).mono ?_
  rw [hff2.out]
  rintro e w6 ⟨rfl, rfl⟩
  go_wp2_with fail
  go_ret
  exact ⟨rfl, bel5⟩
end Go.Proofs.YtbckoohljkmahaaGreat
namespace Go.Proofs.YtbckoohljkmahaaGreat
set_option linter.unusedVariables false
set_option linter.unusedSimpArgs false
open Go.RowKit
theorem fewL_len (l : List Int) : (fewL l).length ≤ 1400 := by unfold fewL; rw [List.length_take]; omega
theorem fewL_mem {l : List Int} {x : Int} (h : x ∈ fewL l) : x ∈ l := List.mem_of_mem_take h
theorem udpB_len (a b : Int) (l : List Int) (S : Int) : (udpB a b l S).length = 8 + l.length := by simp [udpB, be2]; omega
theorem tcpB_len (a b f : Int) (l : List Int) (S : Int) : (tcpB a b f l S).length = 20 + l.length := by simp [tcpB, be2]; omega
theorem echoB_len (k a : Int) (l : List Int) (S : Int) : (echoB k a l S).length = 8 + l.length := by simp [echoB, be2]; omega
theorem faultB_len (k c : Int) (l : List Int) (S : Int) : (faultB k c l S).length = 8 + l.length := by simp [faultB, be2]; omega
theorem udpB_set (a b : Int) (l : List Int) (S : Int) : ((udpB a b l 0).set 6 (S / 256)).set (6 + 1) (S % 256) = udpB a b l S := by simp [udpB, be2]
theorem tcpB_set (a b f : Int) (l : List Int) (S : Int) : ((tcpB a b f l 0).set 16 (S / 256)).set (16 + 1) (S % 256) = tcpB a b f l S := by simp [tcpB, be2]
theorem echoB_set (k a : Int) (l : List Int) (S : Int) : ((echoB k a l 0).set 2 (S / 256)).set (2 + 1) (S % 256) = echoB k a l S := by simp [echoB, be2]
theorem faultB_set (k c : Int) (l : List Int) (S : Int) : ((faultB k c l 0).set 2 (S / 256)).set (2 + 1) (S % 256) = faultB k c l S := by simp [faultB, be2]
theorem App.bel0 {w W0 w' : World} {g n c : Nat} {v' : Value} {l : List Int} (h : App W0 w' w.heap.size (.slice (some ⟨g, 0, none⟩) n c) v' l) (b : Below w.heap.size w W0) (hg : w.heap.size ≤ g) : Below w.heap.size w w' :=
  b.trans (h.below b.size (fun x hx => by simp [Value.ownBlock] at hx; omega))
end Go.Proofs.YtbckoohljkmahaaGreat
namespace Go.Proofs.YtbckoohljkmahaaGreat
set_option linter.unusedVariables false
set_option linter.unusedSimpArgs false
open Go.RowKit
def Pt.val (p : Pt) : Value := .agg #[.int .i64 p.proto, .int .u16 p.src, .int .u16 p.dst, .int .i64 p.flags, .int .i64 p.kind, .int .i64 p.code, .bool p.err, .int .i64 p.inner.size, .int .i64 p.inner.len, .int .i64 p.inner.ttl, .int .i64 p.inner.proto, .int .u32 p.inner.src, .int .u32 p.inner.dst, .int .i64 p.pat, .bool p.bare]
theorem info_part : (Tryz.prog.info? 107).map (fun i => (i.zero, i.size)) = some (some (.agg #[.int .i64 Pt.z.proto, .int .u16 Pt.z.src, .int .u16 Pt.z.dst, .int .i64 Pt.z.flags, .int .i64 Pt.z.kind, .int .i64 Pt.z.code, .bool Pt.z.err, .int .i64 Pt.z.inner.size, .int .i64 Pt.z.inner.len, .int .i64 Pt.z.inner.ttl, .int .i64 Pt.z.inner.proto, .int .u32 Pt.z.inner.src, .int .u32 Pt.z.inner.dst, .int .i64 Pt.z.pat, .bool Pt.z.bare]), 15) := by kernel_rfl
/-- a place for a Part -/
def IsPt (W : World) (g : Nat) : Prop := ∃ cs, cs.size = 15 ∧ Blk W g 107 cs
theorem IsPt.of {W : World} {g : Nat} {cs : Array Value} (h : Blk W g 107 cs) (hs : cs.size = 15) : IsPt W g := ⟨cs, hs, h⟩
section
variable {P : Program} {ops : Array Oper} {Q : Exit → Act → World → Prop} {a : Act} {w : World} {rest : List Oper} {o : Oper}
end
theorem pt_size : (Tryz.prog.info? 107).map (·.size) = some 15 := (zero_of_info info_part).2
end Go.Proofs.YtbckoohljkmahaaGreat
namespace Go.Proofs.YtbckoohljkmahaaGreat
set_option linter.unusedVariables false
set_option linter.unusedSimpArgs false
open Go.RowKit
set_option maxHeartbeats 1000000 in
theorem ports_any (p : Pt) (l : List Int) (b o len c B : Nat) (w : World) (hr : Rd .u8 w B (some ⟨b, o, none⟩) len l) (hB : B ≤ w.heap.size) (h4 : 4 ≤ len) (hlc : len ≤ c) (hcm : c ≤ 9223372036854775807) :
    Calls Tryz.prog 119 #[p.val, .slice (some ⟨b, o, none⟩) len c] w fun e w' => e = .returned (portsP p l 0 2).val ∧ Below w.heap.size w w' := by
  obtain ⟨c0, x0⟩ := hr.cell 0 (by omega)
  obtain ⟨c1, x1⟩ := hr.cell 1 (by omega)
  obtain ⟨c2, x2⟩ := hr.cell 2 (by omega)
  obtain ⟨c3, x3⟩ := hr.cell 3 (by omega)
  have hn0 := n2_eq l 0 (by rw [hr.len]; omega)
  have hn2 := n2_eq l 2 (by rw [hr.len]; omega)
  obtain ⟨pr, sr, ds, fl, ki, co, er, ⟨i0, i1, i2, i3, i4, i5⟩, pa, ba⟩ := p
  unfold Pt.val portsP
  simp only
  obtain ⟨N0, hN0⟩ : ∃ N, N = n2 l 0 := ⟨_, rfl⟩
  obtain ⟨N2, hN2⟩ : ∃ N, N = n2 l 2 := ⟨_, rfl⟩
  rw [← hN0] at hn0 ⊢
  rw [← hN2] at hn2 ⊢
  have hp0 := fun w' (hb : Below w.heap.size w w') => pnum_any b o len c _ _ w' (by omega) (inr_u8 x0) (inr_u8 x1) ((hb.cell (p := ⟨b, o + 0, none⟩) (cell_lt c0)).trans c0) ((hb.cell (p := ⟨b, o + 1, none⟩) (cell_lt c1)).trans c1)
  have hp2 := fun w' (hb : Below w.heap.size w w') => pnum_any b (o + 2) (len - 2) (c - 2) _ _ w' (by omega) (inr_u8 x2) (inr_u8 x3) ((hb.cell (p := ⟨b, o + 2, none⟩) (cell_lt c2)).trans c2) ((hb.cell (p := ⟨b, o + 3, none⟩) (cell_lt c3)).trans c3)
  simp only [Nat.zero_add, Nat.reduceAdd] at hn0 hn2
  rw [← hn0] at hp0
  rw [← hn2] at hp2
  replace hp0 := Lib.hid hp0
  replace hp2 := Lib.hid hp2
  clear hN0 hN2 hn0 hn2 c0 c1 c2 c3 x0 x1 x2 x3 hr
  have hc2 : (c = 2) = False := by simp; omega
  go_enter Tryz.func119, Tryz.ntmps119
  go_wp2_with fail
  have bk2 := (Blk.new w 107 #[.int .i64 pr, .int .u16 sr, .int .u16 ds, .int .i64 fl, .int .i64 ki, .int .i64 co, .bool er, .int .i64 i0, .int .i64 i1, .int .i64 i2, .int .i64 i3, .int .u32 i4, .int .u32 i5, .int .i64 pa, .bool ba]).alloc (.cells #[.int .i64 0, .int .u16 0, .int .u16 0, .int .i64 0, .int .i64 0, .int .i64 0, .bool false, .int .i64 0, .int .i64 0, .int .i64 0, .int .i64 0, .int .u32 0, .int .u32 0, .int .i64 0, .bool false] 107)
  have bk4 := Blk.new (w.alloc (.cells #[.int .i64 pr, .int .u16 sr, .int .u16 ds, .int .i64 fl, .int .i64 ki, .int .i64 co, .bool er, .int .i64 i0, .int .i64 i1, .int .i64 i2, .int .i64 i3, .int .u32 i4, .int .u32 i5, .int .i64 pa, .bool ba] 107)) 107 #[.int .i64 0, .int .u16 0, .int .u16 0, .int .i64 0, .int .i64 0, .int .i64 0, .bool false, .int .i64 0, .int .i64 0, .int .i64 0, .int .i64 0, .int .u32 0, .int .u32 0, .int .i64 0, .bool false]
  have bel : Below w.heap.size w ((w.alloc (.cells #[.int .i64 pr, .int .u16 sr, .int .u16 ds, .int .i64 fl, .int .i64 ki, .int .i64 co, .bool er, .int .i64 i0, .int .i64 i1, .int .i64 i2, .int .i64 i3, .int .u32 i4, .int .u32 i5, .int .i64 pa, .bool ba] 107)).alloc (.cells #[.int .i64 0, .int .u16 0, .int .u16 0, .int .i64 0, .int .i64 0, .int .i64 0, .bool false, .int .i64 0, .int .i64 0, .int .i64 0, .int .i64 0, .int .u32 0, .int .u32 0, .int .i64 0, .bool false] 107)) := (bel_alloc _ _).alloc (by simp) _
  rw [show (w.alloc (.cells #[.int .i64 pr, .int .u16 sr, .int .u16 ds, .int .i64 fl, .int .i64 ki, .int .i64 co, .bool er, .int .i64 i0, .int .i64 i1, .int .i64 i2, .int .i64 i3, .int .u32 i4, .int .u32 i5, .int .i64 pa, .bool ba] 107)).heap.size = w.heap.size + 1 by simp] at bk4
  have hsz : ((w.alloc (.cells #[.int .i64 pr, .int .u16 sr, .int .u16 ds, .int .i64 fl, .int .i64 ki, .int .i64 co, .bool er, .int .i64 i0, .int .i64 i1, .int .i64 i2, .int .i64 i3, .int .u32 i4, .int .u32 i5, .int .i64 pa, .bool ba] 107)).alloc (.cells #[.int .i64 0, .int .u16 0, .int .u16 0, .int .i64 0, .int .i64 0, .int .i64 0, .bool false, .int .i64 0, .int .i64 0, .int .i64 0, .int .i64 0, .int .u32 0, .int .u32 0, .int .i64 0, .bool false] 107)).heap.size = w.heap.size + 2 := by simp
  generalize (w.alloc (.cells #[.int .i64 pr, .int .u16 sr, .int .u16 ds, .int .i64 fl, .int .i64 ki, .int .i64 co, .bool er, .int .i64 i0, .int .i64 i1, .int .i64 i2, .int .i64 i3, .int .u32 i4, .int .u32 i5, .int .i64 pa, .bool ba] 107)).alloc (.cells #[.int .i64 0, .int .u16 0, .int .u16 0, .int .i64 0, .int .i64 0, .int .i64 0, .bool false, .int .i64 0, .int .i64 0, .int .i64 0, .int .i64 0, .int .u32 0, .int .u32 0, .int .i64 0, .bool false] 107) = W0 at *
  have : Nonempty (Tw (fun w' => Below w.heap.size w w')) := ⟨⟨_, bel⟩⟩
  refine wp_region_plan (fun w' => Below w.heap.size w w') [(0, true), (2, true), (3, true), (1, false), (5, true), (4, false), (6, false), (7, true), (8, false)] (by kernel_rfl) (by kernel_rfl) (by kernel_rfl) (by kernel_rfl) bel.drew ?_
  refine wpPl_qs 3 _ _ _ (by kernel_rfl) (by kernel_rfl) (by simp) ?_
  unfold clsS
  simp only [List.take_succ_cons, List.take_zero, List.drop_succ_cons, List.drop_zero, List.filterMap_cons, List.filterMap_nil, List.getElem?_toArray, List.getElem?_cons_zero, List.getElem?_cons_succ]
  repeat (first
    | go_big_quiet_skip
    | (go_big_quiet_want; go_big_quiet_op; go_big_quiet_on)
    | (refine id (?_ : wpQuiet _ _ _ _ (_ :: _) _); first | go_big_quiet_skip | (go_big_quiet_want; go_big_quiet_op; go_big_quiet_on)))
  refine wpQuiet_nil ?_
  refine wpPl_e _ (by rfl) (by kernel_rfl) (fun K hK => ?_)
  go_simp
  refine (hp0.out _ bel.drew).mono ?_
  rintro e w1 ⟨rfl, hb1⟩
  have bel1 := bel_after bel.drew hb1
  have bk2 := bk2.drew.bel hb1
  have bk4 := bk4.drew.bel hb1
  refine hK _ _ bel1 ?_
  clear hK K
  refine wpPl_qs 1 _ _ _ (by kernel_rfl) (by kernel_rfl) (by simp) ?_
  unfold clsS
  simp only [List.take_succ_cons, List.take_zero, List.drop_succ_cons, List.drop_zero, List.filterMap_cons, List.filterMap_nil, List.getElem?_toArray, List.getElem?_cons_zero, List.getElem?_cons_succ]
  repeat (first
    | go_big_quiet_skip
    | (go_big_quiet_want; go_big_quiet_op; go_big_quiet_on)
    | (refine id (?_ : wpQuiet _ _ _ _ (_ :: _) _); first | go_big_quiet_skip | (go_big_quiet_want; go_big_quiet_op; go_big_quiet_on)))
  refine wpQuiet_nil ?_
  refine wpPl_e _ (by rfl) (by kernel_rfl) (fun K hK => ?_)
  go_simp
  refine (hp2.out _ bel1).mono ?_
  rintro e w2 ⟨rfl, hb2⟩
  have bel2 := bel_after bel1 hb2
  have bk2 := bk2.bel hb2
  have bk4 := bk4.bel hb2
  have hs2 : w.heap.size + 1 < w2.heap.size := bk4.lt
  refine hK _ _ bel2 ?_
  clear hK K
  clear hb1 hb2 bel1 bel hsz
  have q1 := bk2.cell 1
  have r1 := bk2.frozen 1
  refine wpPl_e _ (by rfl) (by kernel_rfl) (fun K hK => ?_)
  go_simp
  have bk2' := bk2.set_ 1 (.int .u16 N0)
  have bk4' := bk4.far (p := ⟨w.heap.size, 1, none⟩) (by show w.heap.size + 1 ≠ w.heap.size; omega) (.int .u16 N0)
  have bel3 := bel2.setCell (p := ⟨w.heap.size, 1, none⟩) (Nat.le_refl _) (.int .u16 N0)
  refine hK _ _ bel3 ?_
  clear hK K q1 r1
  refine wpPl_qs 1 _ _ _ (by kernel_rfl) (by kernel_rfl) (by simp) ?_
  unfold clsS
  simp only [List.take_succ_cons, List.take_zero, List.drop_succ_cons, List.drop_zero, List.filterMap_cons, List.filterMap_nil, List.getElem?_toArray, List.getElem?_cons_zero, List.getElem?_cons_succ]
  repeat (first
    | go_big_quiet_skip
    | (go_big_quiet_want; go_big_quiet_op; go_big_quiet_on)
    | (refine id (?_ : wpQuiet _ _ _ _ (_ :: _) _); first | go_big_quiet_skip | (go_big_quiet_want; go_big_quiet_op; go_big_quiet_on)))
  refine wpQuiet_nil ?_
  have q2 := bk2'.cell 2
  have r2 := bk2'.frozen 2
  refine wpPl_e _ (by rfl) (by kernel_rfl) (fun K hK => ?_)
  go_simp
  have bk2 := bk2'.set_ 2 (.int .u16 N2)
  have bk4 := bk4'.far (p := ⟨w.heap.size, 2, none⟩) (by show w.heap.size + 1 ≠ w.heap.size; omega) (.int .u16 N2)
  have bel4 := bel3.setCell (p := ⟨w.heap.size, 2, none⟩) (Nat.le_refl _) (.int .u16 N2)
  refine hK _ _ bel4 ?_
  clear hK K q2 r2 bk2' bk4' bel3 bel2
  unfold wpPl
  refine NoPanic.normal ?_
  have hs3 : w.heap.size + 1 < ((w2.setCell ⟨w.heap.size, 1, none⟩ (.int .u16 N0)).setCell ⟨w.heap.size, 2, none⟩ (.int .u16 N2)).heap.size := bk4.lt
  generalize (w2.setCell ⟨w.heap.size, 1, none⟩ (.int .u16 N0)).setCell ⟨w.heap.size, 2, none⟩ (.int .u16 N2) = W3 at *
  have is4 := IsPt.of bk4 rfl
  have hc2 := bk2.cell
  simp only [List.setIfInBounds_toArray, List.set_cons_succ, List.set_cons_zero] at bk2
  go_wp2_with (first
    | (refine wpList_ldRow rfl rfl rfl bk2 Tryz.underlying107 pt_size ?_)
    | (refine wpList_stRow rfl rfl rfl rfl rfl bk4 pt_size rfl (by simp [Value.oneCell']) ?_))
  exact bodyPost_ret (results_row rfl _ rfl (bk4.setRow _) Tryz.underlying107 pt_size) rfl ⟨rfl, below_setRow bel4 (by omega) _⟩
end Go.Proofs.YtbckoohljkmahaaGreat
namespace Go.Proofs.YtbckoohljkmahaaGreat
set_option linter.unusedVariables false
set_option linter.unusedSimpArgs false
open Go.RowKit
/-- what a reader of parts answers -/
def Tells (w : World) (r : PR) (e : Ending) (w' : World) : Prop := e = .returned (.tuple #[r.2.val, .int .i64 r.1]) ∧ Below w.heap.size w w'
theorem udpR_cases (h : Hd) (l : List Int) :
    (l.length < 8 ∧ udpR h l = (2, Pt.z)) ∨ (8 ≤ l.length ∧ n2 l 4 ≠ l.length ∧ udpR h l = (3, Pt.z)) ∨
    (8 ≤ l.length ∧ n2 l 4 = l.length ∧ n2 l 6 ≠ 0 ∧ csum h.src h.dst 17 l ≠ 0 ∧ udpR h l = (4, Pt.z)) ∨
    (8 ≤ l.length ∧ n2 l 4 = l.length ∧ n2 l 6 ≠ 0 ∧ csum h.src h.dst 17 l = 0 ∧ udpR h l = (0, portsP { Pt.z with proto := 17, bare := false } l 0 2)) ∨
    (8 ≤ l.length ∧ n2 l 4 = l.length ∧ n2 l 6 = 0 ∧ udpR h l = (0, portsP { Pt.z with proto := 17, bare := true } l 0 2)) := by
  unfold udpR
  by_cases h1 : l.length < 8
  · rw [if_pos h1]; exact .inl ⟨h1, rfl⟩
  · rw [if_neg h1]
    by_cases h2 : n2 l 4 = l.length
    · rw [if_neg (by simpa using h2)]
      by_cases h3 : n2 l 6 = 0
      · rw [if_neg (by simp [h3])]; exact .inr (.inr (.inr (.inr ⟨by omega, h2, h3, by simp [h3]⟩)))
      · by_cases h4 : csum h.src h.dst 17 l = 0
        · rw [if_neg (by simp [h4])]; exact .inr (.inr (.inr (.inl ⟨by omega, h2, h3, h4, by simp [h3]⟩)))
        · rw [if_pos ⟨h3, h4⟩]; exact .inr (.inr (.inl ⟨by omega, h2, h3, h4, rfl⟩))
    · rw [if_pos h2]; exact .inr (.inl ⟨by omega, h2, rfl⟩)
theorem pnum_at {l : List Int} {b o len : Nat} {w : World} (m c : Nat) (hr : Rd .u8 w w.heap.size (some ⟨b, o, none⟩) len l) (i : Nat) (hi : i + 2 ≤ len) (hm : 2 ≤ m) (w' : World) (hb : Below w.heap.size w w') :
    Calls Tryz.prog 117 #[.slice (some ⟨b, o + i, none⟩) m c] w' fun e w'' => e = .returned (.int .u16 (n2 l i)) ∧ Below w'.heap.size w' w'' := by
  obtain ⟨c0, x0⟩ := hr.cell i (by omega)
  obtain ⟨c1, x1⟩ := hr.cell (i + 1) (by omega)
  rw [n2_eq l i (by rw [hr.len]; omega)]
  exact pnum_any b (o + i) m c _ _ w' hm (inr_u8 x0) (inr_u8 x1) ((hb.cell (p := ⟨b, o + i, none⟩) (cell_lt c0)).trans c0) ((hb.cell (p := ⟨b, o + i + 1, none⟩) (cell_lt c1)).trans c1)
set_option maxRecDepth 100000 in
set_option maxHeartbeats 2000000 in
theorem udp_any (h : Hd) (l : List Int) (A : Option Addr) (len c B : Nat) (w : World) (hr : Rd .u8 w B A len l) (hB : B ≤ w.heap.size) (hlc : len ≤ c) (hcm : c ≤ 9223372036854775807) (hl : len ≤ 60000) (hs : 0 ≤ h.src ∧ h.src ≤ 4294967295) (hd : 0 ≤ h.dst ∧ h.dst ≤ 4294967295) :
    Calls Tryz.prog 98 #[h.val, .slice A len c] w (Tells w (udpR h l)) := by
  have hcs := udpR_cases h l
  rw [hr.len] at hcs
  obtain ⟨h0, h1, h2, h3, h4, h5⟩ := h
  unfold Hd.val Tells
  simp only at hs hd hcs ⊢
  generalize udpR ⟨h0, h1, h2, h3, h4, h5⟩ l = R at *
  rcases hcs with ⟨hlt, rfl⟩ | hcs
  · have d1 : decide (len < 8) = true := by simpa using hlt
    have d2 : decide ((len : Int) < 8) = true := by simp; omega
    go_enter Tryz.func98, Tryz.ntmps98
    go_upto_block 0 with fail
    have bh := (Blk.new w 105 #[.int .i64 h0, .int .i64 h1, .int .i64 h2, .int .i64 h3, .int .u32 h4, .int .u32 h5]).alloc (.cells #[.int .i64 0, .int .u16 0, .int .u16 0, .int .i64 0, .int .i64 0, .int .i64 0, .bool false, .int .i64 0, .int .i64 0, .int .i64 0, .int .i64 0, .int .u32 0, .int .u32 0, .int .i64 0, .bool false] 107)
    have bk := Blk.new (w.alloc (.cells #[.int .i64 h0, .int .i64 h1, .int .i64 h2, .int .i64 h3, .int .u32 h4, .int .u32 h5] 105)) 107 #[.int .i64 0, .int .u16 0, .int .u16 0, .int .i64 0, .int .i64 0, .int .i64 0, .bool false, .int .i64 0, .int .i64 0, .int .i64 0, .int .i64 0, .int .u32 0, .int .u32 0, .int .i64 0, .bool false]
    rw [show (w.alloc (.cells #[.int .i64 h0, .int .i64 h1, .int .i64 h2, .int .i64 h3, .int .u32 h4, .int .u32 h5] 105)).heap.size = w.heap.size + 1 by simp] at bk
    have bel : Below w.heap.size w ((w.alloc (.cells #[.int .i64 h0, .int .i64 h1, .int .i64 h2, .int .i64 h3, .int .u32 h4, .int .u32 h5] 105)).alloc (.cells #[.int .i64 0, .int .u16 0, .int .u16 0, .int .i64 0, .int .i64 0, .int .i64 0, .bool false, .int .i64 0, .int .i64 0, .int .i64 0, .int .i64 0, .int .u32 0, .int .u32 0, .int .i64 0, .bool false] 107)) := (bel_alloc _ _).alloc (by simp) _
    generalize ((w.alloc (.cells #[.int .i64 h0, .int .i64 h1, .int .i64 h2, .int .i64 h3, .int .u32 h4, .int .u32 h5] 105)).alloc (.cells #[.int .i64 0, .int .u16 0, .int .u16 0, .int .i64 0, .int .i64 0, .int .i64 0, .bool false, .int .i64 0, .int .i64 0, .int .i64 0, .int .i64 0, .int .u32 0, .int .u32 0, .int .i64 0, .bool false] 107)) = W at *
    go_wp2_with (refine wpList_stRow rfl rfl rfl rfl rfl bk pt_size rfl (by simp [Value.oneCell', Pt.z, Hd.z, portsP]) ?_)
    exact bodyPost_ret (results_row2 rfl _ rfl (bk.setRow _) Tryz.underlying107 pt_size) rfl ⟨rfl, below_setRow bel (by omega) _⟩
  have h8 : 8 ≤ len := by rcases hcs with ⟨h, _⟩ | ⟨h, _⟩ | ⟨h, _⟩ | ⟨h, _⟩ <;> exact h
  obtain ⟨b, o, rfl⟩ := hr.form (by omega)
  have hrB := hr.more hB
  have d1 : decide (len < 8) = false := by simp; omega
  have d2 : decide ((len : Int) < 8) = false := by simp; omega
  have c2 : (c = 4) = False := by simp; omega
  have c3 : (c = 6) = False := by simp; omega
  have hp4 := pnum_at (len - 4) (c - 4) hrB 4 (by omega) (by omega)
  have hp6 := pnum_at (len - 6) (c - 6) hrB 6 (by omega) (by omega)
  have hps := fun w' (hb : Below w.heap.size w w') => pseudo_any h4 h5 17 l (some ⟨b, o, none⟩) len c _ w' ((hrB.below hb).more hb.size) (Nat.le_refl _) hs hd (by omega) hl
  have hpo := fun (bare : Bool) w' (hb : Below w.heap.size w w') => ports_any { Pt.z with proto := 17, bare := bare } l b o len c _ w' ((hrB.below hb).more hb.size) (Nat.le_refl _) (by omega) hlc hcm
  have hNb := n2_bd (fun x hx => inr_u8 (hr.rng x hx)) (i := 4) (by rw [hr.len]; omega)
  obtain ⟨N4, hN4⟩ : ∃ N, N = n2 l 4 := ⟨_, rfl⟩
  obtain ⟨N6, hN6⟩ : ∃ N, N = n2 l 6 := ⟨_, rfl⟩
  obtain ⟨S, hS⟩ : ∃ S, S = csum h4 h5 17 l := ⟨_, rfl⟩
  rw [← hN4] at hcs hp4 hNb
  rw [← hN6] at hcs hp6
  rw [← hS] at hcs hps
  obtain ⟨V, hV⟩ : ∃ V : Bool → Pt, ∀ x, V x = { Pt.z with proto := 17, bare := x } := ⟨_, fun _ => rfl⟩
  simp only [← hV] at hpo hcs
  have hV2 : ∀ x, (V x).val = .agg #[.int .i64 17, .int .u16 0, .int .u16 0, .int .i64 0, .int .i64 0, .int .i64 0, .bool false, .int .i64 0, .int .i64 0, .int .i64 0, .int .i64 0, .int .u32 0, .int .u32 0, .int .i64 0, .bool x] := fun x => by rw [hV]; rfl
  obtain ⟨Pb, hPb⟩ : ∃ Pb : Bool → Pt, ∀ x, Pb x = portsP (V x) l 0 2 := ⟨_, fun _ => rfl⟩
  simp only [← hPb] at hpo hcs
  simp only [hV2] at hpo
  clear hPb hN4 hN6 hS hV hV2
  replace hp4 := Lib.hid hp4
  replace hp6 := Lib.hid hp6
  replace hps := Lib.hid hps
  replace hpo := Lib.hid hpo
  rcases hcs with ⟨_, hne, rfl⟩ | ⟨_, heq, h6, hc, rfl⟩ | ⟨_, heq, h6, hc, rfl⟩ | ⟨_, heq, h6, rfl⟩
  · have e1 : (N4 != (len : Int)) = true := by simpa using hne
    go_enter Tryz.func98, Tryz.ntmps98
    go_upto_block 0 with fail
    have bh := (Blk.new w 105 #[.int .i64 h0, .int .i64 h1, .int .i64 h2, .int .i64 h3, .int .u32 h4, .int .u32 h5]).alloc (.cells #[.int .i64 0, .int .u16 0, .int .u16 0, .int .i64 0, .int .i64 0, .int .i64 0, .bool false, .int .i64 0, .int .i64 0, .int .i64 0, .int .i64 0, .int .u32 0, .int .u32 0, .int .i64 0, .bool false] 107)
    have bk := Blk.new (w.alloc (.cells #[.int .i64 h0, .int .i64 h1, .int .i64 h2, .int .i64 h3, .int .u32 h4, .int .u32 h5] 105)) 107 #[.int .i64 0, .int .u16 0, .int .u16 0, .int .i64 0, .int .i64 0, .int .i64 0, .bool false, .int .i64 0, .int .i64 0, .int .i64 0, .int .i64 0, .int .u32 0, .int .u32 0, .int .i64 0, .bool false]
    rw [show (w.alloc (.cells #[.int .i64 h0, .int .i64 h1, .int .i64 h2, .int .i64 h3, .int .u32 h4, .int .u32 h5] 105)).heap.size = w.heap.size + 1 by simp] at bk
    have bel : Below w.heap.size w ((w.alloc (.cells #[.int .i64 h0, .int .i64 h1, .int .i64 h2, .int .i64 h3, .int .u32 h4, .int .u32 h5] 105)).alloc (.cells #[.int .i64 0, .int .u16 0, .int .u16 0, .int .i64 0, .int .i64 0, .int .i64 0, .bool false, .int .i64 0, .int .i64 0, .int .i64 0, .int .i64 0, .int .u32 0, .int .u32 0, .int .i64 0, .bool false] 107)) := (bel_alloc _ _).alloc (by simp) _
    generalize ((w.alloc (.cells #[.int .i64 h0, .int .i64 h1, .int .i64 h2, .int .i64 h3, .int .u32 h4, .int .u32 h5] 105)).alloc (.cells #[.int .i64 0, .int .u16 0, .int .u16 0, .int .i64 0, .int .i64 0, .int .i64 0, .bool false, .int .i64 0, .int .i64 0, .int .i64 0, .int .i64 0, .int .u32 0, .int .u32 0, .int .i64 0, .bool false] 107)) = W at *
    go_wp2_with fail
    refine (hp4.out _ bel).mono ?_
    rintro e w' ⟨rfl, hb⟩
    replace bk := bk.bel hb
    replace bh := bh.bel hb
    replace bel := bel_after bel hb
    clear hb
    go_wp2_with (refine wpList_stRow rfl rfl rfl rfl rfl bk pt_size rfl (by simp [Value.oneCell', Pt.z, Hd.z, portsP]) ?_)
    exact bodyPost_ret (results_row2 rfl _ rfl (bk.setRow _) Tryz.underlying107 pt_size) rfl ⟨rfl, below_setRow bel (by omega) _⟩
  · subst heq
    have e2 : (N6 == 0) = false := by simpa using h6
    have e3 : (S != 0) = true := by simpa using hc
    go_enter Tryz.func98, Tryz.ntmps98
    go_upto_block 0 with fail
    have bh := (Blk.new w 105 #[.int .i64 h0, .int .i64 h1, .int .i64 h2, .int .i64 h3, .int .u32 h4, .int .u32 h5]).alloc (.cells #[.int .i64 0, .int .u16 0, .int .u16 0, .int .i64 0, .int .i64 0, .int .i64 0, .bool false, .int .i64 0, .int .i64 0, .int .i64 0, .int .i64 0, .int .u32 0, .int .u32 0, .int .i64 0, .bool false] 107)
    have bk := Blk.new (w.alloc (.cells #[.int .i64 h0, .int .i64 h1, .int .i64 h2, .int .i64 h3, .int .u32 h4, .int .u32 h5] 105)) 107 #[.int .i64 0, .int .u16 0, .int .u16 0, .int .i64 0, .int .i64 0, .int .i64 0, .bool false, .int .i64 0, .int .i64 0, .int .i64 0, .int .i64 0, .int .u32 0, .int .u32 0, .int .i64 0, .bool false]
    rw [show (w.alloc (.cells #[.int .i64 h0, .int .i64 h1, .int .i64 h2, .int .i64 h3, .int .u32 h4, .int .u32 h5] 105)).heap.size = w.heap.size + 1 by simp] at bk
    have bel : Below w.heap.size w ((w.alloc (.cells #[.int .i64 h0, .int .i64 h1, .int .i64 h2, .int .i64 h3, .int .u32 h4, .int .u32 h5] 105)).alloc (.cells #[.int .i64 0, .int .u16 0, .int .u16 0, .int .i64 0, .int .i64 0, .int .i64 0, .bool false, .int .i64 0, .int .i64 0, .int .i64 0, .int .i64 0, .int .u32 0, .int .u32 0, .int .i64 0, .bool false] 107)) := (bel_alloc _ _).alloc (by simp) _
    generalize ((w.alloc (.cells #[.int .i64 h0, .int .i64 h1, .int .i64 h2, .int .i64 h3, .int .u32 h4, .int .u32 h5] 105)).alloc (.cells #[.int .i64 0, .int .u16 0, .int .u16 0, .int .i64 0, .int .i64 0, .int .i64 0, .bool false, .int .i64 0, .int .i64 0, .int .i64 0, .int .i64 0, .int .u32 0, .int .u32 0, .int .i64 0, .bool false] 107)) = W at *
    go_wp2_with fail
    refine (hp4.out _ bel).mono ?_
    rintro e w' ⟨rfl, hb⟩
    replace bk := bk.bel hb
    replace bh := bh.bel hb
    replace bel := bel_after bel hb
    clear hb
    go_wp2_with fail
    refine (hp6.out _ bel).mono ?_
    rintro e w' ⟨rfl, hb⟩
    replace bk := bk.bel hb
    replace bh := bh.bel hb
    replace bel := bel_after bel hb
    clear hb
    have q4 := bh.cell 4
    have q5 := bh.cell 5
    go_wp2_with fail
    clear q4 q5
    refine (hps.out _ bel).mono ?_
    rintro e w' ⟨rfl, hb⟩
    replace bk := bk.bel hb
    replace bh := bh.bel hb
    replace bel := bel_after bel hb
    clear hb
    go_wp2_with (refine wpList_stRow rfl rfl rfl rfl rfl bk pt_size rfl (by simp [Value.oneCell', Pt.z, Hd.z, portsP]) ?_)
    exact bodyPost_ret (results_row2 rfl _ rfl (bk.setRow _) Tryz.underlying107 pt_size) rfl ⟨rfl, below_setRow bel (by omega) _⟩
  · subst heq hc
    have e2 : (N6 == 0) = false := by simpa using h6
    go_enter Tryz.func98, Tryz.ntmps98
    go_upto_block 0 with fail
    have bh := (Blk.new w 105 #[.int .i64 h0, .int .i64 h1, .int .i64 h2, .int .i64 h3, .int .u32 h4, .int .u32 h5]).alloc (.cells #[.int .i64 0, .int .u16 0, .int .u16 0, .int .i64 0, .int .i64 0, .int .i64 0, .bool false, .int .i64 0, .int .i64 0, .int .i64 0, .int .i64 0, .int .u32 0, .int .u32 0, .int .i64 0, .bool false] 107)
    have bk := Blk.new (w.alloc (.cells #[.int .i64 h0, .int .i64 h1, .int .i64 h2, .int .i64 h3, .int .u32 h4, .int .u32 h5] 105)) 107 #[.int .i64 0, .int .u16 0, .int .u16 0, .int .i64 0, .int .i64 0, .int .i64 0, .bool false, .int .i64 0, .int .i64 0, .int .i64 0, .int .i64 0, .int .u32 0, .int .u32 0, .int .i64 0, .bool false]
    rw [show (w.alloc (.cells #[.int .i64 h0, .int .i64 h1, .int .i64 h2, .int .i64 h3, .int .u32 h4, .int .u32 h5] 105)).heap.size = w.heap.size + 1 by simp] at bk
    have bel : Below w.heap.size w ((w.alloc (.cells #[.int .i64 h0, .int .i64 h1, .int .i64 h2, .int .i64 h3, .int .u32 h4, .int .u32 h5] 105)).alloc (.cells #[.int .i64 0, .int .u16 0, .int .u16 0, .int .i64 0, .int .i64 0, .int .i64 0, .bool false, .int .i64 0, .int .i64 0, .int .i64 0, .int .i64 0, .int .u32 0, .int .u32 0, .int .i64 0, .bool false] 107)) := (bel_alloc _ _).alloc (by simp) _
    generalize ((w.alloc (.cells #[.int .i64 h0, .int .i64 h1, .int .i64 h2, .int .i64 h3, .int .u32 h4, .int .u32 h5] 105)).alloc (.cells #[.int .i64 0, .int .u16 0, .int .u16 0, .int .i64 0, .int .i64 0, .int .i64 0, .bool false, .int .i64 0, .int .i64 0, .int .i64 0, .int .i64 0, .int .u32 0, .int .u32 0, .int .i64 0, .bool false] 107)) = W at *
    go_wp2_with fail
    refine (hp4.out _ bel).mono ?_
    rintro e w' ⟨rfl, hb⟩
    replace bk := bk.bel hb
    replace bh := bh.bel hb
    replace bel := bel_after bel hb
    clear hb
    go_wp2_with fail
    refine (hp6.out _ bel).mono ?_
    rintro e w' ⟨rfl, hb⟩
    replace bk := bk.bel hb
    replace bh := bh.bel hb
    replace bel := bel_after bel hb
    clear hb
    have q4 := bh.cell 4
    have q5 := bh.cell 5
    go_wp2_with fail
    clear q4 q5
    refine (hps.out _ bel).mono ?_
    rintro e w' ⟨rfl, hb⟩
    replace bk := bk.bel hb
    replace bh := bh.bel hb
    replace bel := bel_after bel hb
    clear hb
    go_wp2_with fail
    refine (hpo.out false _ bel).mono ?_
    rintro e w' ⟨rfl, hb⟩
    replace bk := bk.bel hb
    replace bh := bh.bel hb
    replace bel := bel_after bel hb
    clear hb
    go_wp2_with (refine wpList_stRow rfl rfl rfl rfl rfl bk pt_size rfl (by simp [Value.oneCell', Pt.z, Hd.z, portsP]) ?_)
    exact bodyPost_ret (results_row2 rfl _ rfl (bk.setRow _) Tryz.underlying107 pt_size) rfl ⟨rfl, below_setRow bel (by omega) _⟩
  · subst heq
    have e2 : (N6 == 0) = true := by simpa using h6
    clear h6
    go_enter Tryz.func98, Tryz.ntmps98
    go_upto_block 0 with fail
    have bh := (Blk.new w 105 #[.int .i64 h0, .int .i64 h1, .int .i64 h2, .int .i64 h3, .int .u32 h4, .int .u32 h5]).alloc (.cells #[.int .i64 0, .int .u16 0, .int .u16 0, .int .i64 0, .int .i64 0, .int .i64 0, .bool false, .int .i64 0, .int .i64 0, .int .i64 0, .int .i64 0, .int .u32 0, .int .u32 0, .int .i64 0, .bool false] 107)
    have bk := Blk.new (w.alloc (.cells #[.int .i64 h0, .int .i64 h1, .int .i64 h2, .int .i64 h3, .int .u32 h4, .int .u32 h5] 105)) 107 #[.int .i64 0, .int .u16 0, .int .u16 0, .int .i64 0, .int .i64 0, .int .i64 0, .bool false, .int .i64 0, .int .i64 0, .int .i64 0, .int .i64 0, .int .u32 0, .int .u32 0, .int .i64 0, .bool false]
    rw [show (w.alloc (.cells #[.int .i64 h0, .int .i64 h1, .int .i64 h2, .int .i64 h3, .int .u32 h4, .int .u32 h5] 105)).heap.size = w.heap.size + 1 by simp] at bk
    have bel : Below w.heap.size w ((w.alloc (.cells #[.int .i64 h0, .int .i64 h1, .int .i64 h2, .int .i64 h3, .int .u32 h4, .int .u32 h5] 105)).alloc (.cells #[.int .i64 0, .int .u16 0, .int .u16 0, .int .i64 0, .int .i64 0, .int .i64 0, .bool false, .int .i64 0, .int .i64 0, .int .i64 0, .int .i64 0, .int .u32 0, .int .u32 0, .int .i64 0, .bool false] 107)) := (bel_alloc _ _).alloc (by simp) _
    generalize ((w.alloc (.cells #[.int .i64 h0, .int .i64 h1, .int .i64 h2, .int .i64 h3, .int .u32 h4, .int .u32 h5] 105)).alloc (.cells #[.int .i64 0, .int .u16 0, .int .u16 0, .int .i64 0, .int .i64 0, .int .i64 0, .bool false, .int .i64 0, .int .i64 0, .int .i64 0, .int .i64 0, .int .u32 0, .int .u32 0, .int .i64 0, .bool false] 107)) = W at *
    go_wp2_with fail
    refine (hp4.out _ bel).mono ?_
    rintro e w' ⟨rfl, hb⟩
    replace bk := bk.bel hb
    replace bh := bh.bel hb
    replace bel := bel_after bel hb
    clear hb
    go_wp2_with fail
    refine (hp6.out _ bel).mono ?_
    rintro e w' ⟨rfl, hb⟩
    replace bk := bk.bel hb
    replace bh := bh.bel hb
    replace bel := bel_after bel hb
    clear hb
    go_wp2_with fail
    refine (hpo.out true _ bel).mono ?_
    rintro e w' ⟨rfl, hb⟩
    replace bk := bk.bel hb
    replace bh := bh.bel hb
    replace bel := bel_after bel hb
    clear hb
    go_wp2_with (refine wpList_stRow rfl rfl rfl rfl rfl bk pt_size rfl (by simp [Value.oneCell', Pt.z, Hd.z, portsP]) ?_)
    exact bodyPost_ret (results_row2 rfl _ rfl (bk.setRow _) Tryz.underlying107 pt_size) rfl ⟨rfl, below_setRow bel (by omega) _⟩
theorem tcpR_cases (h : Hd) (l : List Int) :
    (l.length < 20 ∧ tcpR h l = (2, Pt.z)) ∨ (20 ≤ l.length ∧ l.getD 12 0 / 16 * 4 < 20 ∧ tcpR h l = (3, Pt.z)) ∨ (20 ≤ l.length ∧ 20 ≤ l.getD 12 0 / 16 * 4 ∧ (l.length : Int) < l.getD 12 0 / 16 * 4 ∧ tcpR h l = (3, Pt.z)) ∨
    (20 ≤ l.length ∧ 20 ≤ l.getD 12 0 / 16 * 4 ∧ l.getD 12 0 / 16 * 4 ≤ l.length ∧ csum h.src h.dst 6 l ≠ 0 ∧ tcpR h l = (4, Pt.z)) ∨
    (20 ≤ l.length ∧ 20 ≤ l.getD 12 0 / 16 * 4 ∧ l.getD 12 0 / 16 * 4 ≤ l.length ∧ csum h.src h.dst 6 l = 0 ∧ tcpR h l = (0, portsP { Pt.z with proto := 6, flags := l.getD 13 0 } l 0 2)) := by
  unfold tcpR
  by_cases h1 : l.length < 20
  · rw [if_pos h1]; exact .inl ⟨h1, rfl⟩
  · rw [if_neg h1]
    by_cases h2 : l.getD 12 0 / 16 * 4 < 20
    · rw [if_pos (.inl h2)]; exact .inr (.inl ⟨by omega, h2, rfl⟩)
    · by_cases h3 : (l.length : Int) < l.getD 12 0 / 16 * 4
      · rw [if_pos (.inr h3)]; exact .inr (.inr (.inl ⟨by omega, by omega, h3, rfl⟩))
      · rw [if_neg (by omega)]
        by_cases h4 : csum h.src h.dst 6 l = 0
        · rw [if_neg (by simp [h4])]; exact .inr (.inr (.inr (.inr ⟨by omega, by omega, by omega, h4, rfl⟩)))
        · rw [if_pos h4]; exact .inr (.inr (.inr (.inl ⟨by omega, by omega, by omega, h4, rfl⟩)))
set_option maxRecDepth 100000 in
set_option maxHeartbeats 2000000 in
theorem tcp_any (h : Hd) (l : List Int) (A : Option Addr) (len c B : Nat) (w : World) (hr : Rd .u8 w B A len l) (hB : B ≤ w.heap.size) (hlc : len ≤ c) (hcm : c ≤ 9223372036854775807) (hl : len ≤ 60000) (hs : 0 ≤ h.src ∧ h.src ≤ 4294967295) (hd : 0 ≤ h.dst ∧ h.dst ≤ 4294967295) :
    Calls Tryz.prog 99 #[h.val, .slice A len c] w (Tells w (tcpR h l)) := by
  have hcs := tcpR_cases h l
  rw [hr.len] at hcs
  obtain ⟨h0, h1, h2, h3, h4, h5⟩ := h
  unfold Hd.val Tells
  simp only at hs hd hcs ⊢
  generalize tcpR ⟨h0, h1, h2, h3, h4, h5⟩ l = R at *
  rcases hcs with ⟨hlt, rfl⟩ | hcs
  · have d1 : decide (len < 20) = true := by simpa using hlt
    have d2 : decide ((len : Int) < 20) = true := by simp; omega
    go_enter Tryz.func99, Tryz.ntmps99
    go_upto_region 1 with fail
    have bh := (Blk.new w 105 #[.int .i64 h0, .int .i64 h1, .int .i64 h2, .int .i64 h3, .int .u32 h4, .int .u32 h5]).alloc (.cells #[.int .i64 0, .int .u16 0, .int .u16 0, .int .i64 0, .int .i64 0, .int .i64 0, .bool false, .int .i64 0, .int .i64 0, .int .i64 0, .int .i64 0, .int .u32 0, .int .u32 0, .int .i64 0, .bool false] 107)
    have bk := Blk.new (w.alloc (.cells #[.int .i64 h0, .int .i64 h1, .int .i64 h2, .int .i64 h3, .int .u32 h4, .int .u32 h5] 105)) 107 #[.int .i64 0, .int .u16 0, .int .u16 0, .int .i64 0, .int .i64 0, .int .i64 0, .bool false, .int .i64 0, .int .i64 0, .int .i64 0, .int .i64 0, .int .u32 0, .int .u32 0, .int .i64 0, .bool false]
    rw [show (w.alloc (.cells #[.int .i64 h0, .int .i64 h1, .int .i64 h2, .int .i64 h3, .int .u32 h4, .int .u32 h5] 105)).heap.size = w.heap.size + 1 by simp] at bk
    have bel : Below w.heap.size w ((w.alloc (.cells #[.int .i64 h0, .int .i64 h1, .int .i64 h2, .int .i64 h3, .int .u32 h4, .int .u32 h5] 105)).alloc (.cells #[.int .i64 0, .int .u16 0, .int .u16 0, .int .i64 0, .int .i64 0, .int .i64 0, .bool false, .int .i64 0, .int .i64 0, .int .i64 0, .int .i64 0, .int .u32 0, .int .u32 0, .int .i64 0, .bool false] 107)) := (bel_alloc _ _).alloc (by simp) _
    generalize ((w.alloc (.cells #[.int .i64 h0, .int .i64 h1, .int .i64 h2, .int .i64 h3, .int .u32 h4, .int .u32 h5] 105)).alloc (.cells #[.int .i64 0, .int .u16 0, .int .u16 0, .int .i64 0, .int .i64 0, .int .i64 0, .bool false, .int .i64 0, .int .i64 0, .int .i64 0, .int .i64 0, .int .u32 0, .int .u32 0, .int .i64 0, .bool false] 107)) = W at *
    go_wp2_with (refine wpList_stRow rfl rfl rfl rfl rfl bk pt_size rfl (by simp [Value.oneCell', Pt.z, Hd.z, portsP]) ?_)
    exact bodyPost_ret (results_row2 rfl _ rfl (bk.setRow _) Tryz.underlying107 pt_size) rfl ⟨rfl, below_setRow bel (by omega) _⟩
  have h8 : 20 ≤ len := by rcases hcs with ⟨h, _⟩ | ⟨h, _⟩ | ⟨h, _⟩ | ⟨h, _⟩ <;> exact h
  obtain ⟨b, o, rfl⟩ := hr.form (by omega)
  have hrB := hr.more hB
  have d1 : decide (len < 20) = false := by simp; omega
  have d2 : decide ((len : Int) < 20) = false := by simp; omega
  have hps := fun w' (hb : Below w.heap.size w w') => pseudo_any h4 h5 6 l (some ⟨b, o, none⟩) len c _ w' ((hrB.below hb).more hb.size) (Nat.le_refl _) hs hd (by omega) hl
  have hpo := fun w' (hb : Below w.heap.size w w') => ports_any { Pt.z with proto := 6, flags := l.getD 13 0 } l b o len c _ w' ((hrB.below hb).more hb.size) (Nat.le_refl _) (by omega) hlc hcm
  obtain ⟨S, hS⟩ : ∃ S, S = csum h4 h5 6 l := ⟨_, rfl⟩
  rw [← hS] at hcs hps
  obtain ⟨c12, x12⟩ := hrB.cell 12 (by omega)
  obtain ⟨c13, x13⟩ := hrB.cell 13 (by omega)
  replace x12 := inr_u8 x12
  replace x13 := inr_u8 x13
  have hbb := cell_lt c12
  simp only at hbb
  have z12 := fun w' (hb : Below w.heap.size w w') => (hb.cell (p := ⟨b, o + 12, none⟩) (cell_lt c12)).trans c12
  have z13 := fun w' (hb : Below w.heap.size w w') => (hb.cell (p := ⟨b, o + 13, none⟩) (cell_lt c13)).trans c13
  obtain ⟨f12, hf12⟩ : ∃ N, N = l.getD 12 0 := ⟨_, rfl⟩
  obtain ⟨f13, hf13⟩ : ∃ N, N = l.getD 13 0 := ⟨_, rfl⟩
  rw [← hf12] at hcs x12 z12
  rw [← hf13] at hcs x13 z13 hpo
  obtain ⟨V, hV⟩ : ∃ V : Pt, V = { Pt.z with proto := 6, flags := f13 } := ⟨_, rfl⟩
  have hV2 : V.val = .agg #[.int .i64 6, .int .u16 0, .int .u16 0, .int .i64 f13, .int .i64 0, .int .i64 0, .bool false, .int .i64 0, .int .i64 0, .int .i64 0, .int .i64 0, .int .u32 0, .int .u32 0, .int .i64 0, .bool false] := by rw [hV]; rfl
  rw [← hV] at hpo hcs
  obtain ⟨Pb, hPb⟩ : ∃ Pb, Pb = portsP V l 0 2 := ⟨_, rfl⟩
  rw [← hPb] at hpo hcs
  rw [hV2] at hpo
  clear hPb hS hV hV2 hf12 hf13 c12 c13
  replace hps := Lib.hid hps
  replace hpo := Lib.hid hpo
  replace z12 := Lib.hid z12
  replace z13 := Lib.hid z13
  rcases hcs with ⟨_, hq, rfl⟩ | ⟨_, hq, hq2, rfl⟩ | ⟨_, hq, hq2, hc, rfl⟩ | ⟨_, hq, hq2, hc, rfl⟩
  · have e1 : decide (4 * (f12 / 16) < 20) = true := by simp; omega
    go_enter Tryz.func99, Tryz.ntmps99
    go_upto_region 1 with fail
    have bh := (Blk.new w 105 #[.int .i64 h0, .int .i64 h1, .int .i64 h2, .int .i64 h3, .int .u32 h4, .int .u32 h5]).alloc (.cells #[.int .i64 0, .int .u16 0, .int .u16 0, .int .i64 0, .int .i64 0, .int .i64 0, .bool false, .int .i64 0, .int .i64 0, .int .i64 0, .int .i64 0, .int .u32 0, .int .u32 0, .int .i64 0, .bool false] 107)
    have bk := Blk.new (w.alloc (.cells #[.int .i64 h0, .int .i64 h1, .int .i64 h2, .int .i64 h3, .int .u32 h4, .int .u32 h5] 105)) 107 #[.int .i64 0, .int .u16 0, .int .u16 0, .int .i64 0, .int .i64 0, .int .i64 0, .bool false, .int .i64 0, .int .i64 0, .int .i64 0, .int .i64 0, .int .u32 0, .int .u32 0, .int .i64 0, .bool false]
    rw [show (w.alloc (.cells #[.int .i64 h0, .int .i64 h1, .int .i64 h2, .int .i64 h3, .int .u32 h4, .int .u32 h5] 105)).heap.size = w.heap.size + 1 by simp] at bk
    have bel : Below w.heap.size w ((w.alloc (.cells #[.int .i64 h0, .int .i64 h1, .int .i64 h2, .int .i64 h3, .int .u32 h4, .int .u32 h5] 105)).alloc (.cells #[.int .i64 0, .int .u16 0, .int .u16 0, .int .i64 0, .int .i64 0, .int .i64 0, .bool false, .int .i64 0, .int .i64 0, .int .i64 0, .int .i64 0, .int .u32 0, .int .u32 0, .int .i64 0, .bool false] 107)) := (bel_alloc _ _).alloc (by simp) _
    generalize ((w.alloc (.cells #[.int .i64 h0, .int .i64 h1, .int .i64 h2, .int .i64 h3, .int .u32 h4, .int .u32 h5] 105)).alloc (.cells #[.int .i64 0, .int .u16 0, .int .u16 0, .int .i64 0, .int .i64 0, .int .i64 0, .bool false, .int .i64 0, .int .i64 0, .int .i64 0, .int .i64 0, .int .u32 0, .int .u32 0, .int .i64 0, .bool false] 107)) = W at *
    have c12 := z12.out _ bel
    go_wp2_with (refine wpList_stRow rfl rfl rfl rfl rfl bk pt_size rfl (by simp [Value.oneCell', Pt.z, Hd.z, portsP]) ?_)
    exact bodyPost_ret (results_row2 rfl _ rfl (bk.setRow _) Tryz.underlying107 pt_size) rfl ⟨rfl, below_setRow bel (by omega) _⟩
  · have e1 : decide (4 * (f12 / 16) < 20) = false := by simp; omega
    have e2 : decide ((len : Int) < 4 * (f12 / 16)) = true := by simp; omega
    go_enter Tryz.func99, Tryz.ntmps99
    go_upto_region 1 with fail
    have bh := (Blk.new w 105 #[.int .i64 h0, .int .i64 h1, .int .i64 h2, .int .i64 h3, .int .u32 h4, .int .u32 h5]).alloc (.cells #[.int .i64 0, .int .u16 0, .int .u16 0, .int .i64 0, .int .i64 0, .int .i64 0, .bool false, .int .i64 0, .int .i64 0, .int .i64 0, .int .i64 0, .int .u32 0, .int .u32 0, .int .i64 0, .bool false] 107)
    have bk := Blk.new (w.alloc (.cells #[.int .i64 h0, .int .i64 h1, .int .i64 h2, .int .i64 h3, .int .u32 h4, .int .u32 h5] 105)) 107 #[.int .i64 0, .int .u16 0, .int .u16 0, .int .i64 0, .int .i64 0, .int .i64 0, .bool false, .int .i64 0, .int .i64 0, .int .i64 0, .int .i64 0, .int .u32 0, .int .u32 0, .int .i64 0, .bool false]
    rw [show (w.alloc (.cells #[.int .i64 h0, .int .i64 h1, .int .i64 h2, .int .i64 h3, .int .u32 h4, .int .u32 h5] 105)).heap.size = w.heap.size + 1 by simp] at bk
    have bel : Below w.heap.size w ((w.alloc (.cells #[.int .i64 h0, .int .i64 h1, .int .i64 h2, .int .i64 h3, .int .u32 h4, .int .u32 h5] 105)).alloc (.cells #[.int .i64 0, .int .u16 0, .int .u16 0, .int .i64 0, .int .i64 0, .int .i64 0, .bool false, .int .i64 0, .int .i64 0, .int .i64 0, .int .i64 0, .int .u32 0, .int .u32 0, .int .i64 0, .bool false] 107)) := (bel_alloc _ _).alloc (by simp) _
    generalize ((w.alloc (.cells #[.int .i64 h0, .int .i64 h1, .int .i64 h2, .int .i64 h3, .int .u32 h4, .int .u32 h5] 105)).alloc (.cells #[.int .i64 0, .int .u16 0, .int .u16 0, .int .i64 0, .int .i64 0, .int .i64 0, .bool false, .int .i64 0, .int .i64 0, .int .i64 0, .int .i64 0, .int .u32 0, .int .u32 0, .int .i64 0, .bool false] 107)) = W at *
    have c12 := z12.out _ bel
    go_wp2_with (refine wpList_stRow rfl rfl rfl rfl rfl bk pt_size rfl (by simp [Value.oneCell', Pt.z, Hd.z, portsP]) ?_)
    exact bodyPost_ret (results_row2 rfl _ rfl (bk.setRow _) Tryz.underlying107 pt_size) rfl ⟨rfl, below_setRow bel (by omega) _⟩
  · have e1 : decide (4 * (f12 / 16) < 20) = false := by simp; omega
    have e2 : decide ((len : Int) < 4 * (f12 / 16)) = false := by simp; omega
    have e3 : (S != 0) = true := by simpa using hc
    go_enter Tryz.func99, Tryz.ntmps99
    go_upto_region 1 with fail
    have bh := (Blk.new w 105 #[.int .i64 h0, .int .i64 h1, .int .i64 h2, .int .i64 h3, .int .u32 h4, .int .u32 h5]).alloc (.cells #[.int .i64 0, .int .u16 0, .int .u16 0, .int .i64 0, .int .i64 0, .int .i64 0, .bool false, .int .i64 0, .int .i64 0, .int .i64 0, .int .i64 0, .int .u32 0, .int .u32 0, .int .i64 0, .bool false] 107)
    have bk := Blk.new (w.alloc (.cells #[.int .i64 h0, .int .i64 h1, .int .i64 h2, .int .i64 h3, .int .u32 h4, .int .u32 h5] 105)) 107 #[.int .i64 0, .int .u16 0, .int .u16 0, .int .i64 0, .int .i64 0, .int .i64 0, .bool false, .int .i64 0, .int .i64 0, .int .i64 0, .int .i64 0, .int .u32 0, .int .u32 0, .int .i64 0, .bool false]
    rw [show (w.alloc (.cells #[.int .i64 h0, .int .i64 h1, .int .i64 h2, .int .i64 h3, .int .u32 h4, .int .u32 h5] 105)).heap.size = w.heap.size + 1 by simp] at bk
    have bel : Below w.heap.size w ((w.alloc (.cells #[.int .i64 h0, .int .i64 h1, .int .i64 h2, .int .i64 h3, .int .u32 h4, .int .u32 h5] 105)).alloc (.cells #[.int .i64 0, .int .u16 0, .int .u16 0, .int .i64 0, .int .i64 0, .int .i64 0, .bool false, .int .i64 0, .int .i64 0, .int .i64 0, .int .i64 0, .int .u32 0, .int .u32 0, .int .i64 0, .bool false] 107)) := (bel_alloc _ _).alloc (by simp) _
    generalize ((w.alloc (.cells #[.int .i64 h0, .int .i64 h1, .int .i64 h2, .int .i64 h3, .int .u32 h4, .int .u32 h5] 105)).alloc (.cells #[.int .i64 0, .int .u16 0, .int .u16 0, .int .i64 0, .int .i64 0, .int .i64 0, .bool false, .int .i64 0, .int .i64 0, .int .i64 0, .int .i64 0, .int .u32 0, .int .u32 0, .int .i64 0, .bool false] 107)) = W at *
    have c12 := z12.out _ bel
    have q4 := bh.cell 4
    have q5 := bh.cell 5
    go_wp2_with fail
    clear q4 q5 c12
    refine (hps.out _ bel).mono ?_
    rintro e w' ⟨rfl, hb⟩
    replace bk := bk.bel hb
    replace bh := bh.bel hb
    replace bel := bel_after bel hb
    clear hb
    go_wp2_with (refine wpList_stRow rfl rfl rfl rfl rfl bk pt_size rfl (by simp [Value.oneCell', Pt.z, Hd.z, portsP]) ?_)
    exact bodyPost_ret (results_row2 rfl _ rfl (bk.setRow _) Tryz.underlying107 pt_size) rfl ⟨rfl, below_setRow bel (by omega) _⟩
  · have e1 : decide (4 * (f12 / 16) < 20) = false := by simp; omega
    have e2 : decide ((len : Int) < 4 * (f12 / 16)) = false := by simp; omega
    subst hc
    go_enter Tryz.func99, Tryz.ntmps99
    go_upto_region 1 with fail
    have bh := (Blk.new w 105 #[.int .i64 h0, .int .i64 h1, .int .i64 h2, .int .i64 h3, .int .u32 h4, .int .u32 h5]).alloc (.cells #[.int .i64 0, .int .u16 0, .int .u16 0, .int .i64 0, .int .i64 0, .int .i64 0, .bool false, .int .i64 0, .int .i64 0, .int .i64 0, .int .i64 0, .int .u32 0, .int .u32 0, .int .i64 0, .bool false] 107)
    have bk := Blk.new (w.alloc (.cells #[.int .i64 h0, .int .i64 h1, .int .i64 h2, .int .i64 h3, .int .u32 h4, .int .u32 h5] 105)) 107 #[.int .i64 0, .int .u16 0, .int .u16 0, .int .i64 0, .int .i64 0, .int .i64 0, .bool false, .int .i64 0, .int .i64 0, .int .i64 0, .int .i64 0, .int .u32 0, .int .u32 0, .int .i64 0, .bool false]
    rw [show (w.alloc (.cells #[.int .i64 h0, .int .i64 h1, .int .i64 h2, .int .i64 h3, .int .u32 h4, .int .u32 h5] 105)).heap.size = w.heap.size + 1 by simp] at bk
    have bel : Below w.heap.size w ((w.alloc (.cells #[.int .i64 h0, .int .i64 h1, .int .i64 h2, .int .i64 h3, .int .u32 h4, .int .u32 h5] 105)).alloc (.cells #[.int .i64 0, .int .u16 0, .int .u16 0, .int .i64 0, .int .i64 0, .int .i64 0, .bool false, .int .i64 0, .int .i64 0, .int .i64 0, .int .i64 0, .int .u32 0, .int .u32 0, .int .i64 0, .bool false] 107)) := (bel_alloc _ _).alloc (by simp) _
    generalize ((w.alloc (.cells #[.int .i64 h0, .int .i64 h1, .int .i64 h2, .int .i64 h3, .int .u32 h4, .int .u32 h5] 105)).alloc (.cells #[.int .i64 0, .int .u16 0, .int .u16 0, .int .i64 0, .int .i64 0, .int .i64 0, .bool false, .int .i64 0, .int .i64 0, .int .i64 0, .int .i64 0, .int .u32 0, .int .u32 0, .int .i64 0, .bool false] 107)) = W at *
    have c12 := z12.out _ bel
    have q4 := bh.cell 4
    have q5 := bh.cell 5
    go_wp2_with fail
    clear q4 q5 c12
    refine (hps.out _ bel).mono ?_
    rintro e w' ⟨rfl, hb⟩
    replace bk := bk.bel hb
    replace bh := bh.bel hb
    replace bel := bel_after bel hb
    clear hb
    have c13 := z13.out _ bel
    go_wp2_with fail
    clear c13
    refine (hpo.out _ bel).mono ?_
    rintro e w' ⟨rfl, hb⟩
    replace bk := bk.bel hb
    replace bh := bh.bel hb
    replace bel := bel_after bel hb
    clear hb
    go_wp2_with (refine wpList_stRow rfl rfl rfl rfl rfl bk pt_size rfl (by simp [Value.oneCell', Pt.z, Hd.z, portsP]) ?_)
    exact bodyPost_ret (results_row2 rfl _ rfl (bk.setRow _) Tryz.underlying107 pt_size) rfl ⟨rfl, below_setRow bel (by omega) _⟩
end Go.Proofs.YtbckoohljkmahaaGreat
namespace Go.Proofs.YtbckoohljkmahaaGreat
set_option linter.unusedVariables false
set_option linter.unusedSimpArgs false
open Go.RowKit
theorem faultR_cases (p : Pt) (at_ : Int) (b : List Int) {R : PR} (hR : faultR p at_ b = R) :
    (partE b ≠ 0 ∧ R = (partE b, Pt.z)) ∨ (partE b = 0 ∧ ((b.length : Int) - (hdOf b).size < 8 ∧ R = (3, Pt.z) ∨ 8 ≤ (b.length : Int) - (hdOf b).size ∧ (hdOf b).len < (hdOf b).size + 8 ∧ R = (3, Pt.z) ∨
      8 ≤ (b.length : Int) - (hdOf b).size ∧ (hdOf b).size + 8 ≤ (hdOf b).len ∧
        ((hdOf b).proto = 17 ∧ R = (0, portsP { p with err := true, inner := hdOf b, pat := at_ } (b.drop (hdOf b).size.toNat) 0 2) ∨
         (hdOf b).proto = 6 ∧ R = (0, portsP { p with err := true, inner := hdOf b, pat := at_ } (b.drop (hdOf b).size.toNat) 0 2) ∨
         (hdOf b).proto = 1 ∧ (b.drop (hdOf b).size.toNat).getD 0 0 = 0 ∧ R = (0, portsP { p with err := true, inner := hdOf b, pat := at_ } (b.drop (hdOf b).size.toNat) 4 4) ∨
         (hdOf b).proto = 1 ∧ (b.drop (hdOf b).size.toNat).getD 0 0 = 8 ∧ R = (0, portsP { p with err := true, inner := hdOf b, pat := at_ } (b.drop (hdOf b).size.toNat) 4 4) ∨
         (hdOf b).proto = 1 ∧ (b.drop (hdOf b).size.toNat).getD 0 0 ≠ 0 ∧ (b.drop (hdOf b).size.toNat).getD 0 0 ≠ 8 ∧ R = (6, Pt.z) ∨
         (hdOf b).proto ≠ 17 ∧ (hdOf b).proto ≠ 6 ∧ (hdOf b).proto ≠ 1 ∧ R = (6, Pt.z)))) := by
  subst hR
  unfold faultR
  by_cases h1 : partE b = 0
  · rw [if_neg (by simpa using h1)]
    refine .inr ⟨h1, ?_⟩
    by_cases h2 : (b.length : Int) - (hdOf b).size < 8
    · rw [if_pos (.inl h2)]; exact .inl ⟨h2, rfl⟩
    · by_cases h3 : (hdOf b).len < (hdOf b).size + 8
      · rw [if_pos (.inr h3)]; exact .inr (.inl ⟨by omega, h3, rfl⟩)
      · rw [if_neg (by omega)]
        refine .inr (.inr ⟨by omega, by omega, ?_⟩)
        by_cases h17 : (hdOf b).proto = 17
        · rw [if_pos (.inl h17)]; exact .inl ⟨h17, rfl⟩
        · by_cases h6 : (hdOf b).proto = 6
          · rw [if_pos (.inr h6)]; exact .inr (.inl ⟨h6, rfl⟩)
          · rw [if_neg (by omega)]
            by_cases h0 : (hdOf b).proto = 1
            · by_cases y0 : (b.drop (hdOf b).size.toNat).getD 0 0 = 0
              · rw [if_pos ⟨h0, .inl y0⟩]; exact .inr (.inr (.inl ⟨h0, y0, rfl⟩))
              · by_cases y8 : (b.drop (hdOf b).size.toNat).getD 0 0 = 8
                · rw [if_pos ⟨h0, .inr y8⟩]; exact .inr (.inr (.inr (.inl ⟨h0, y8, rfl⟩)))
                · rw [if_neg (by rintro ⟨_, h | h⟩ <;> contradiction)]; exact .inr (.inr (.inr (.inr (.inl ⟨h0, y0, y8, rfl⟩))))
            · rw [if_neg (fun h => h0 h.1)]; exact .inr (.inr (.inr (.inr (.inr ⟨h17, h6, h0, rfl⟩))))
  · rw [if_pos h1]; exact .inl ⟨h1, rfl⟩
theorem partE_ok {l : List Int} (h : partE l = 0) : 20 ≤ l.length ∧ 20 ≤ (hdOf l).size ∧ (hdOf l).size ≤ l.length ∧ (hdOf l).size ≤ 60 ∧ (hdOf l).size ≤ (hdOf l).len ∧ (hdOf l).len ≤ 65535 := by
  rcases partE_cases l with ⟨h1, h2⟩ | ⟨h1, h2, _⟩
  · omega
  · rcases shape_cases l 65535 with h' | h' | h' | h' | h' | h' | h'
    all_goals first
      | (have := h'.1; omega)
      | (simp only [hdOf]; omega)

theorem hd_size : (Tryz.prog.info? 105).map (·.size) = some 6 := by kernel_rfl
set_option maxRecDepth 100000 in
set_option maxHeartbeats 2000000 in
theorem fault_bad (p : Pt) (h : Hd) (l : List Int) (A : Option Addr) (len c B : Nat) (w : World) (hr : Rd .u8 w B A len l) (hB : B ≤ w.heap.size) (hlc : len ≤ c) (hcm : c ≤ 9223372036854775807) (hh : 0 ≤ h.size ∧ h.size ≤ 1000) (hbad : ¬ (partE l = 0 ∧ 8 ≤ (l.length : Int) - (hdOf l).size ∧ (hdOf l).size + 8 ≤ (hdOf l).len)) :
    Calls Tryz.prog 120 #[p.val, h.val, .slice A len c] w (Tells w (faultR p (h.size + 8) l)) := by
  rw [hr.len] at hbad
  have hcs := faultR_cases p (h.size + 8) l rfl
  rw [hr.len] at hcs
  have hok := fun h => partE_ok (l := l) h
  rw [hr.len] at hok
  obtain ⟨pr, sr, ds, fl, ki, co, er, ⟨i0, i1, i2, i3, i4, i5⟩, pa, ba⟩ := p
  obtain ⟨h0, h1, h2, h3, h4, h5⟩ := h
  unfold Hd.val Tells Pt.val
  simp only at hh hcs ⊢
  generalize faultR _ (h0 + 8) l = R at *
  have hrB := hr.more hB
  have hpt := fun w' (hb : Below w.heap.size w w') => Part_any l A len c _ w' ((hrB.below hb).more hb.size) (Nat.le_refl _) hlc hcm
  unfold hdIf at hpt
  rcases hcs with ⟨he, rfl⟩ | ⟨he, hcs⟩
  · rw [if_neg he] at hpt
    obtain ⟨E, hE⟩ : ∃ E, partE l = E := ⟨_, rfl⟩
    rw [hE] at he hpt ⊢
    have e1 : (E != 0) = true := by simpa using he
    have hz : Hd.z.val = .agg #[.int .i64 0, .int .i64 0, .int .i64 0, .int .i64 0, .int .u32 0, .int .u32 0] := rfl
    rw [hz] at hpt
    clear hE hok hz
    replace hpt := Lib.hid hpt
    go_enter Tryz.func120, Tryz.ntmps120
    go_upto_region 1 with fail
    have bp := ((Blk.new w 107 #[.int .i64 pr, .int .u16 sr, .int .u16 ds, .int .i64 fl, .int .i64 ki, .int .i64 co, .bool er, .int .i64 i0, .int .i64 i1, .int .i64 i2, .int .i64 i3, .int .u32 i4, .int .u32 i5, .int .i64 pa, .bool ba]).alloc (.cells #[.int .i64 h0, .int .i64 h1, .int .i64 h2, .int .i64 h3, .int .u32 h4, .int .u32 h5] 105)).alloc (.cells #[.int .i64 0, .int .u16 0, .int .u16 0, .int .i64 0, .int .i64 0, .int .i64 0, .bool false, .int .i64 0, .int .i64 0, .int .i64 0, .int .i64 0, .int .u32 0, .int .u32 0, .int .i64 0, .bool false] 107)
    have bh := (Blk.new (w.alloc (.cells #[.int .i64 pr, .int .u16 sr, .int .u16 ds, .int .i64 fl, .int .i64 ki, .int .i64 co, .bool er, .int .i64 i0, .int .i64 i1, .int .i64 i2, .int .i64 i3, .int .u32 i4, .int .u32 i5, .int .i64 pa, .bool ba] 107)) 105 #[.int .i64 h0, .int .i64 h1, .int .i64 h2, .int .i64 h3, .int .u32 h4, .int .u32 h5]).alloc (.cells #[.int .i64 0, .int .u16 0, .int .u16 0, .int .i64 0, .int .i64 0, .int .i64 0, .bool false, .int .i64 0, .int .i64 0, .int .i64 0, .int .i64 0, .int .u32 0, .int .u32 0, .int .i64 0, .bool false] 107)
    have bk := Blk.new ((w.alloc (.cells #[.int .i64 pr, .int .u16 sr, .int .u16 ds, .int .i64 fl, .int .i64 ki, .int .i64 co, .bool er, .int .i64 i0, .int .i64 i1, .int .i64 i2, .int .i64 i3, .int .u32 i4, .int .u32 i5, .int .i64 pa, .bool ba] 107)).alloc (.cells #[.int .i64 h0, .int .i64 h1, .int .i64 h2, .int .i64 h3, .int .u32 h4, .int .u32 h5] 105)) 107 #[.int .i64 0, .int .u16 0, .int .u16 0, .int .i64 0, .int .i64 0, .int .i64 0, .bool false, .int .i64 0, .int .i64 0, .int .i64 0, .int .i64 0, .int .u32 0, .int .u32 0, .int .i64 0, .bool false]
    rw [show (w.alloc (.cells #[.int .i64 pr, .int .u16 sr, .int .u16 ds, .int .i64 fl, .int .i64 ki, .int .i64 co, .bool er, .int .i64 i0, .int .i64 i1, .int .i64 i2, .int .i64 i3, .int .u32 i4, .int .u32 i5, .int .i64 pa, .bool ba] 107)).heap.size = w.heap.size + 1 by simp] at bh
    rw [show ((w.alloc (.cells #[.int .i64 pr, .int .u16 sr, .int .u16 ds, .int .i64 fl, .int .i64 ki, .int .i64 co, .bool er, .int .i64 i0, .int .i64 i1, .int .i64 i2, .int .i64 i3, .int .u32 i4, .int .u32 i5, .int .i64 pa, .bool ba] 107)).alloc (.cells #[.int .i64 h0, .int .i64 h1, .int .i64 h2, .int .i64 h3, .int .u32 h4, .int .u32 h5] 105)).heap.size = w.heap.size + 2 by simp] at bk
    have bel : Below w.heap.size w (((w.alloc (.cells #[.int .i64 pr, .int .u16 sr, .int .u16 ds, .int .i64 fl, .int .i64 ki, .int .i64 co, .bool er, .int .i64 i0, .int .i64 i1, .int .i64 i2, .int .i64 i3, .int .u32 i4, .int .u32 i5, .int .i64 pa, .bool ba] 107)).alloc (.cells #[.int .i64 h0, .int .i64 h1, .int .i64 h2, .int .i64 h3, .int .u32 h4, .int .u32 h5] 105)).alloc (.cells #[.int .i64 0, .int .u16 0, .int .u16 0, .int .i64 0, .int .i64 0, .int .i64 0, .bool false, .int .i64 0, .int .i64 0, .int .i64 0, .int .i64 0, .int .u32 0, .int .u32 0, .int .i64 0, .bool false] 107)) := ((bel_alloc _ _).alloc (by simp) _).alloc (by simp; omega) _
    generalize (((w.alloc (.cells #[.int .i64 pr, .int .u16 sr, .int .u16 ds, .int .i64 fl, .int .i64 ki, .int .i64 co, .bool er, .int .i64 i0, .int .i64 i1, .int .i64 i2, .int .i64 i3, .int .u32 i4, .int .u32 i5, .int .i64 pa, .bool ba] 107)).alloc (.cells #[.int .i64 h0, .int .i64 h1, .int .i64 h2, .int .i64 h3, .int .u32 h4, .int .u32 h5] 105)).alloc (.cells #[.int .i64 0, .int .u16 0, .int .u16 0, .int .i64 0, .int .i64 0, .int .i64 0, .bool false, .int .i64 0, .int .i64 0, .int .i64 0, .int .i64 0, .int .u32 0, .int .u32 0, .int .i64 0, .bool false] 107)) = W at *
    go_wp2_with fail
    refine (hpt.out _ bel).mono ?_
    rintro e w' ⟨rfl, hb⟩
    replace bk := bk.bel hb
    replace bh := bh.bel hb
    replace bp := bp.bel hb
    replace bel := bel_after bel hb
    clear hb
    have bkl := bk.lt
    go_wp2_with (first | (refine wpList_stRow rfl rfl rfl rfl rfl (Blk.new _ _ _) hd_size rfl (by simp [Value.oneCell']) ?_; have by_ := (Blk.new w' 105 #[.int .i64 0, .int .i64 0, .int .i64 0, .int .i64 0, .int .u32 0, .int .u32 0]).setRow #[.int .i64 0, .int .i64 0, .int .i64 0, .int .i64 0, .int .u32 0, .int .u32 0]; replace bk := (bk.alloc (.cells #[.int .i64 0, .int .i64 0, .int .i64 0, .int .i64 0, .int .u32 0, .int .u32 0] 105)).setRow_far (g' := w'.heap.size) (by have := bk.lt; omega) #[.int .i64 0, .int .i64 0, .int .i64 0, .int .i64 0, .int .u32 0, .int .u32 0]; replace bh := (bh.alloc (.cells #[.int .i64 0, .int .i64 0, .int .i64 0, .int .i64 0, .int .u32 0, .int .u32 0] 105)).setRow_far (g' := w'.heap.size) (by have := bh.lt; omega) #[.int .i64 0, .int .i64 0, .int .i64 0, .int .i64 0, .int .u32 0, .int .u32 0]; replace bp := (bp.alloc (.cells #[.int .i64 0, .int .i64 0, .int .i64 0, .int .i64 0, .int .u32 0, .int .u32 0] 105)).setRow_far (g' := w'.heap.size) (by have := bp.lt; omega) #[.int .i64 0, .int .i64 0, .int .i64 0, .int .i64 0, .int .u32 0, .int .u32 0]; replace bel := below_setRow (bel.alloc bel.size (.cells #[.int .i64 0, .int .i64 0, .int .i64 0, .int .i64 0, .int .u32 0, .int .u32 0] 105)) bel.size #[.int .i64 0, .int .i64 0, .int .i64 0, .int .i64 0, .int .u32 0, .int .u32 0]; have hg3 : w.heap.size + 2 < w'.heap.size := (by have := bkl; omega); generalize (w'.alloc (.cells #[.int .i64 0, .int .i64 0, .int .i64 0, .int .i64 0, .int .u32 0, .int .u32 0] 105)).setRow w'.heap.size #[.int .i64 0, .int .i64 0, .int .i64 0, .int .i64 0, .int .u32 0, .int .u32 0] = W3 at *; generalize w'.heap.size = g3 at *) | (refine wpList_stRow rfl rfl rfl rfl rfl bk pt_size rfl (by simp [Value.oneCell', Pt.z, Hd.z, portsP]) ?_))
    exact bodyPost_ret (results_row2 rfl _ rfl (bk.setRow _) Tryz.underlying107 pt_size) rfl ⟨rfl, below_setRow bel (by omega) _⟩
  have hk := hok he
  rw [if_pos he, he] at hpt
  obtain ⟨m, y1, y2, y3, y4, y5, hy⟩ : ∃ (m : Nat) (y1 y2 y3 y4 y5 : Int), hdOf l = ⟨(m : Int), y1, y2, y3, y4, y5⟩ := ⟨(hdOf l).size.toNat, _, _, _, _, _, by rw [Int.toNat_of_nonneg (by omega)]⟩
  rw [hy] at hpt hcs hk hbad
  unfold Hd.val at hpt
  simp only [Int.toNat_natCast] at hpt hcs hk hbad
  obtain ⟨A2, hA2, hr2⟩ := hrB.cut (m := m) (cap := c) (by omega) (by omega)
  clear hok hy
  replace hpt := Lib.hid hpt
  rcases hcs with ⟨hlt, rfl⟩ | ⟨hge, hlt, rfl⟩ | ⟨hge, hle, hcs⟩
  · clear he hbad
    have d1 : decide (len - m < 8) = true := by simp; omega
    have d2 : decide (((len - m : Nat) : Int) < 8) = true := by simp; omega
    go_enter Tryz.func120, Tryz.ntmps120
    go_upto_region 1 with fail
    have bp := ((Blk.new w 107 #[.int .i64 pr, .int .u16 sr, .int .u16 ds, .int .i64 fl, .int .i64 ki, .int .i64 co, .bool er, .int .i64 i0, .int .i64 i1, .int .i64 i2, .int .i64 i3, .int .u32 i4, .int .u32 i5, .int .i64 pa, .bool ba]).alloc (.cells #[.int .i64 h0, .int .i64 h1, .int .i64 h2, .int .i64 h3, .int .u32 h4, .int .u32 h5] 105)).alloc (.cells #[.int .i64 0, .int .u16 0, .int .u16 0, .int .i64 0, .int .i64 0, .int .i64 0, .bool false, .int .i64 0, .int .i64 0, .int .i64 0, .int .i64 0, .int .u32 0, .int .u32 0, .int .i64 0, .bool false] 107)
    have bh := (Blk.new (w.alloc (.cells #[.int .i64 pr, .int .u16 sr, .int .u16 ds, .int .i64 fl, .int .i64 ki, .int .i64 co, .bool er, .int .i64 i0, .int .i64 i1, .int .i64 i2, .int .i64 i3, .int .u32 i4, .int .u32 i5, .int .i64 pa, .bool ba] 107)) 105 #[.int .i64 h0, .int .i64 h1, .int .i64 h2, .int .i64 h3, .int .u32 h4, .int .u32 h5]).alloc (.cells #[.int .i64 0, .int .u16 0, .int .u16 0, .int .i64 0, .int .i64 0, .int .i64 0, .bool false, .int .i64 0, .int .i64 0, .int .i64 0, .int .i64 0, .int .u32 0, .int .u32 0, .int .i64 0, .bool false] 107)
    have bk := Blk.new ((w.alloc (.cells #[.int .i64 pr, .int .u16 sr, .int .u16 ds, .int .i64 fl, .int .i64 ki, .int .i64 co, .bool er, .int .i64 i0, .int .i64 i1, .int .i64 i2, .int .i64 i3, .int .u32 i4, .int .u32 i5, .int .i64 pa, .bool ba] 107)).alloc (.cells #[.int .i64 h0, .int .i64 h1, .int .i64 h2, .int .i64 h3, .int .u32 h4, .int .u32 h5] 105)) 107 #[.int .i64 0, .int .u16 0, .int .u16 0, .int .i64 0, .int .i64 0, .int .i64 0, .bool false, .int .i64 0, .int .i64 0, .int .i64 0, .int .i64 0, .int .u32 0, .int .u32 0, .int .i64 0, .bool false]
    rw [show (w.alloc (.cells #[.int .i64 pr, .int .u16 sr, .int .u16 ds, .int .i64 fl, .int .i64 ki, .int .i64 co, .bool er, .int .i64 i0, .int .i64 i1, .int .i64 i2, .int .i64 i3, .int .u32 i4, .int .u32 i5, .int .i64 pa, .bool ba] 107)).heap.size = w.heap.size + 1 by simp] at bh
    rw [show ((w.alloc (.cells #[.int .i64 pr, .int .u16 sr, .int .u16 ds, .int .i64 fl, .int .i64 ki, .int .i64 co, .bool er, .int .i64 i0, .int .i64 i1, .int .i64 i2, .int .i64 i3, .int .u32 i4, .int .u32 i5, .int .i64 pa, .bool ba] 107)).alloc (.cells #[.int .i64 h0, .int .i64 h1, .int .i64 h2, .int .i64 h3, .int .u32 h4, .int .u32 h5] 105)).heap.size = w.heap.size + 2 by simp] at bk
    have bel : Below w.heap.size w (((w.alloc (.cells #[.int .i64 pr, .int .u16 sr, .int .u16 ds, .int .i64 fl, .int .i64 ki, .int .i64 co, .bool er, .int .i64 i0, .int .i64 i1, .int .i64 i2, .int .i64 i3, .int .u32 i4, .int .u32 i5, .int .i64 pa, .bool ba] 107)).alloc (.cells #[.int .i64 h0, .int .i64 h1, .int .i64 h2, .int .i64 h3, .int .u32 h4, .int .u32 h5] 105)).alloc (.cells #[.int .i64 0, .int .u16 0, .int .u16 0, .int .i64 0, .int .i64 0, .int .i64 0, .bool false, .int .i64 0, .int .i64 0, .int .i64 0, .int .i64 0, .int .u32 0, .int .u32 0, .int .i64 0, .bool false] 107)) := ((bel_alloc _ _).alloc (by simp) _).alloc (by simp; omega) _
    generalize (((w.alloc (.cells #[.int .i64 pr, .int .u16 sr, .int .u16 ds, .int .i64 fl, .int .i64 ki, .int .i64 co, .bool er, .int .i64 i0, .int .i64 i1, .int .i64 i2, .int .i64 i3, .int .u32 i4, .int .u32 i5, .int .i64 pa, .bool ba] 107)).alloc (.cells #[.int .i64 h0, .int .i64 h1, .int .i64 h2, .int .i64 h3, .int .u32 h4, .int .u32 h5] 105)).alloc (.cells #[.int .i64 0, .int .u16 0, .int .u16 0, .int .i64 0, .int .i64 0, .int .i64 0, .bool false, .int .i64 0, .int .i64 0, .int .i64 0, .int .i64 0, .int .u32 0, .int .u32 0, .int .i64 0, .bool false] 107)) = W at *
    go_wp2_with fail
    refine (hpt.out _ bel).mono ?_
    rintro e w' ⟨rfl, hb⟩
    replace bk := bk.bel hb
    replace bh := bh.bel hb
    replace bp := bp.bel hb
    replace bel := bel_after bel hb
    clear hb
    have bkl := bk.lt
    go_wp2_with (first | (refine wpList_stRow rfl rfl rfl rfl rfl (Blk.new _ _ _) hd_size rfl (by simp [Value.oneCell']) ?_; have by_ := (Blk.new w' 105 #[.int .i64 0, .int .i64 0, .int .i64 0, .int .i64 0, .int .u32 0, .int .u32 0]).setRow #[.int .i64 (m : Int), .int .i64 y1, .int .i64 y2, .int .i64 y3, .int .u32 y4, .int .u32 y5]; replace bk := (bk.alloc (.cells #[.int .i64 0, .int .i64 0, .int .i64 0, .int .i64 0, .int .u32 0, .int .u32 0] 105)).setRow_far (g' := w'.heap.size) (by have := bk.lt; omega) #[.int .i64 (m : Int), .int .i64 y1, .int .i64 y2, .int .i64 y3, .int .u32 y4, .int .u32 y5]; replace bh := (bh.alloc (.cells #[.int .i64 0, .int .i64 0, .int .i64 0, .int .i64 0, .int .u32 0, .int .u32 0] 105)).setRow_far (g' := w'.heap.size) (by have := bh.lt; omega) #[.int .i64 (m : Int), .int .i64 y1, .int .i64 y2, .int .i64 y3, .int .u32 y4, .int .u32 y5]; replace bp := (bp.alloc (.cells #[.int .i64 0, .int .i64 0, .int .i64 0, .int .i64 0, .int .u32 0, .int .u32 0] 105)).setRow_far (g' := w'.heap.size) (by have := bp.lt; omega) #[.int .i64 (m : Int), .int .i64 y1, .int .i64 y2, .int .i64 y3, .int .u32 y4, .int .u32 y5]; replace bel := below_setRow (bel.alloc bel.size (.cells #[.int .i64 0, .int .i64 0, .int .i64 0, .int .i64 0, .int .u32 0, .int .u32 0] 105)) bel.size #[.int .i64 (m : Int), .int .i64 y1, .int .i64 y2, .int .i64 y3, .int .u32 y4, .int .u32 y5]; have hg3 : w.heap.size + 2 < w'.heap.size := (by have := bkl; omega); generalize (w'.alloc (.cells #[.int .i64 0, .int .i64 0, .int .i64 0, .int .i64 0, .int .u32 0, .int .u32 0] 105)).setRow w'.heap.size #[.int .i64 (m : Int), .int .i64 y1, .int .i64 y2, .int .i64 y3, .int .u32 y4, .int .u32 y5] = W3 at *; generalize w'.heap.size = g3 at *; have q0 := by_.cell 0; have q1 := by_.cell 1; have q3 := by_.cell 3) | (refine wpList_stRow rfl rfl rfl rfl rfl bk pt_size rfl (by simp [Value.oneCell', Pt.z, Hd.z, portsP]) ?_))
    exact bodyPost_ret (results_row2 rfl _ rfl (bk.setRow _) Tryz.underlying107 pt_size) rfl ⟨rfl, below_setRow bel (by omega) _⟩
  · clear he hbad
    have d1 : decide (len - m < 8) = false := by simp; omega
    have d2 : decide (((len - m : Nat) : Int) < 8) = false := by simp; omega
    have d3 : decide (y1 < (m : Int) + 8) = true := by simp; omega
    go_enter Tryz.func120, Tryz.ntmps120
    go_upto_region 1 with fail
    have bp := ((Blk.new w 107 #[.int .i64 pr, .int .u16 sr, .int .u16 ds, .int .i64 fl, .int .i64 ki, .int .i64 co, .bool er, .int .i64 i0, .int .i64 i1, .int .i64 i2, .int .i64 i3, .int .u32 i4, .int .u32 i5, .int .i64 pa, .bool ba]).alloc (.cells #[.int .i64 h0, .int .i64 h1, .int .i64 h2, .int .i64 h3, .int .u32 h4, .int .u32 h5] 105)).alloc (.cells #[.int .i64 0, .int .u16 0, .int .u16 0, .int .i64 0, .int .i64 0, .int .i64 0, .bool false, .int .i64 0, .int .i64 0, .int .i64 0, .int .i64 0, .int .u32 0, .int .u32 0, .int .i64 0, .bool false] 107)
    have bh := (Blk.new (w.alloc (.cells #[.int .i64 pr, .int .u16 sr, .int .u16 ds, .int .i64 fl, .int .i64 ki, .int .i64 co, .bool er, .int .i64 i0, .int .i64 i1, .int .i64 i2, .int .i64 i3, .int .u32 i4, .int .u32 i5, .int .i64 pa, .bool ba] 107)) 105 #[.int .i64 h0, .int .i64 h1, .int .i64 h2, .int .i64 h3, .int .u32 h4, .int .u32 h5]).alloc (.cells #[.int .i64 0, .int .u16 0, .int .u16 0, .int .i64 0, .int .i64 0, .int .i64 0, .bool false, .int .i64 0, .int .i64 0, .int .i64 0, .int .i64 0, .int .u32 0, .int .u32 0, .int .i64 0, .bool false] 107)
    have bk := Blk.new ((w.alloc (.cells #[.int .i64 pr, .int .u16 sr, .int .u16 ds, .int .i64 fl, .int .i64 ki, .int .i64 co, .bool er, .int .i64 i0, .int .i64 i1, .int .i64 i2, .int .i64 i3, .int .u32 i4, .int .u32 i5, .int .i64 pa, .bool ba] 107)).alloc (.cells #[.int .i64 h0, .int .i64 h1, .int .i64 h2, .int .i64 h3, .int .u32 h4, .int .u32 h5] 105)) 107 #[.int .i64 0, .int .u16 0, .int .u16 0, .int .i64 0, .int .i64 0, .int .i64 0, .bool false, .int .i64 0, .int .i64 0, .int .i64 0, .int .i64 0, .int .u32 0, .int .u32 0, .int .i64 0, .bool false]
    rw [show (w.alloc (.cells #[.int .i64 pr, .int .u16 sr, .int .u16 ds, .int .i64 fl, .int .i64 ki, .int .i64 co, .bool er, .int .i64 i0, .int .i64 i1, .int .i64 i2, .int .i64 i3, .int .u32 i4, .int .u32 i5, .int .i64 pa, .bool ba] 107)).heap.size = w.heap.size + 1 by simp] at bh
    rw [show ((w.alloc (.cells #[.int .i64 pr, .int .u16 sr, .int .u16 ds, .int .i64 fl, .int .i64 ki, .int .i64 co, .bool er, .int .i64 i0, .int .i64 i1, .int .i64 i2, .int .i64 i3, .int .u32 i4, .int .u32 i5, .int .i64 pa, .bool ba] 107)).alloc (.cells #[.int .i64 h0, .int .i64 h1, .int .i64 h2, .int .i64 h3, .int .u32 h4, .int .u32 h5] 105)).heap.size = w.heap.size + 2 by simp] at bk
    have bel : Below w.heap.size w (((w.alloc (.cells #[.int .i64 pr, .int .u16 sr, .int .u16 ds, .int .i64 fl, .int .i64 ki, .int .i64 co, .bool er, .int .i64 i0, .int .i64 i1, .int .i64 i2, .int .i64 i3, .int .u32 i4, .int .u32 i5, .int .i64 pa, .bool ba] 107)).alloc (.cells #[.int .i64 h0, .int .i64 h1, .int .i64 h2, .int .i64 h3, .int .u32 h4, .int .u32 h5] 105)).alloc (.cells #[.int .i64 0, .int .u16 0, .int .u16 0, .int .i64 0, .int .i64 0, .int .i64 0, .bool false, .int .i64 0, .int .i64 0, .int .i64 0, .int .i64 0, .int .u32 0, .int .u32 0, .int .i64 0, .bool false] 107)) := ((bel_alloc _ _).alloc (by simp) _).alloc (by simp; omega) _
    generalize (((w.alloc (.cells #[.int .i64 pr, .int .u16 sr, .int .u16 ds, .int .i64 fl, .int .i64 ki, .int .i64 co, .bool er, .int .i64 i0, .int .i64 i1, .int .i64 i2, .int .i64 i3, .int .u32 i4, .int .u32 i5, .int .i64 pa, .bool ba] 107)).alloc (.cells #[.int .i64 h0, .int .i64 h1, .int .i64 h2, .int .i64 h3, .int .u32 h4, .int .u32 h5] 105)).alloc (.cells #[.int .i64 0, .int .u16 0, .int .u16 0, .int .i64 0, .int .i64 0, .int .i64 0, .bool false, .int .i64 0, .int .i64 0, .int .i64 0, .int .i64 0, .int .u32 0, .int .u32 0, .int .i64 0, .bool false] 107)) = W at *
    go_wp2_with fail
    refine (hpt.out _ bel).mono ?_
    rintro e w' ⟨rfl, hb⟩
    replace bk := bk.bel hb
    replace bh := bh.bel hb
    replace bp := bp.bel hb
    replace bel := bel_after bel hb
    clear hb
    have bkl := bk.lt
    go_wp2_with (first | (refine wpList_stRow rfl rfl rfl rfl rfl (Blk.new _ _ _) hd_size rfl (by simp [Value.oneCell']) ?_; have by_ := (Blk.new w' 105 #[.int .i64 0, .int .i64 0, .int .i64 0, .int .i64 0, .int .u32 0, .int .u32 0]).setRow #[.int .i64 (m : Int), .int .i64 y1, .int .i64 y2, .int .i64 y3, .int .u32 y4, .int .u32 y5]; replace bk := (bk.alloc (.cells #[.int .i64 0, .int .i64 0, .int .i64 0, .int .i64 0, .int .u32 0, .int .u32 0] 105)).setRow_far (g' := w'.heap.size) (by have := bk.lt; omega) #[.int .i64 (m : Int), .int .i64 y1, .int .i64 y2, .int .i64 y3, .int .u32 y4, .int .u32 y5]; replace bh := (bh.alloc (.cells #[.int .i64 0, .int .i64 0, .int .i64 0, .int .i64 0, .int .u32 0, .int .u32 0] 105)).setRow_far (g' := w'.heap.size) (by have := bh.lt; omega) #[.int .i64 (m : Int), .int .i64 y1, .int .i64 y2, .int .i64 y3, .int .u32 y4, .int .u32 y5]; replace bp := (bp.alloc (.cells #[.int .i64 0, .int .i64 0, .int .i64 0, .int .i64 0, .int .u32 0, .int .u32 0] 105)).setRow_far (g' := w'.heap.size) (by have := bp.lt; omega) #[.int .i64 (m : Int), .int .i64 y1, .int .i64 y2, .int .i64 y3, .int .u32 y4, .int .u32 y5]; replace bel := below_setRow (bel.alloc bel.size (.cells #[.int .i64 0, .int .i64 0, .int .i64 0, .int .i64 0, .int .u32 0, .int .u32 0] 105)) bel.size #[.int .i64 (m : Int), .int .i64 y1, .int .i64 y2, .int .i64 y3, .int .u32 y4, .int .u32 y5]; have hg3 : w.heap.size + 2 < w'.heap.size := (by have := bkl; omega); generalize (w'.alloc (.cells #[.int .i64 0, .int .i64 0, .int .i64 0, .int .i64 0, .int .u32 0, .int .u32 0] 105)).setRow w'.heap.size #[.int .i64 (m : Int), .int .i64 y1, .int .i64 y2, .int .i64 y3, .int .u32 y4, .int .u32 y5] = W3 at *; generalize w'.heap.size = g3 at *; have q0 := by_.cell 0; have q1 := by_.cell 1; have q3 := by_.cell 3) | (refine wpList_stRow rfl rfl rfl rfl rfl bk pt_size rfl (by simp [Value.oneCell', Pt.z, Hd.z, portsP]) ?_))
    exact bodyPost_ret (results_row2 rfl _ rfl (bk.setRow _) Tryz.underlying107 pt_size) rfl ⟨rfl, below_setRow bel (by omega) _⟩
  · exact absurd ⟨he, hge, hle⟩ hbad
end Go.Proofs.YtbckoohljkmahaaGreat
