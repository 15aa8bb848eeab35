/- The walks of package head, its rest: Get, Part. -/
import Derived.Test.YtjaacmecniijgaaHead
namespace Go.Proofs.Ytjaacmecniijgaa
set_option linter.unusedVariables false
set_option linter.unusedSimpArgs false
open Go.RowKit
def selH (e : Int) (h : Hd) : Hd := if e = 0 then h else Hd.z
theorem wholeE_cases (l : List Int) : (wholeE l = 0 ∧ (n2 l 6 % 16384 != 0) = false) ∨ (wholeE l = 5 ∧ (n2 l 6 % 16384 != 0) = true) := by
  unfold wholeE
  by_cases h : n2 l 6 % 16384 = 0
  · left; rw [if_neg (by simpa using h)]; exact ⟨rfl, by simpa using h⟩
  · right; rw [if_pos h]; exact ⟨rfl, by simpa using h⟩
set_option maxHeartbeats 1000000 in
theorem whole_any (h : Hd) (l : List Int) (A : Option Addr) (len c B : Nat) (w : World) (hr : Rd .u8 w B A len l) (hB : B ≤ w.heap.size) (hlc : len ≤ c) (hcm : c ≤ 9223372036854775807) (h20 : 20 ≤ len) :
    Calls Try.prog 45 #[h.val, .slice A len c] w fun e w' => e = .returned (.tuple #[(selH (wholeE l) h).val, .int .i64 (wholeE l)]) ∧ Below w.heap.size w w' := by
  obtain ⟨b, o, rfl⟩ := hr.form (by omega)
  have rd6 := (hr.more hB).sub 6 2 (by omega)
  have hcs := wholeE_cases l
  have hnb := n2_bd (fun x hx => inr_u8 (hr.rng x hx)) (i := 6) (by rw [hr.len]; omega)
  unfold n2 at hcs hnb
  obtain ⟨N, hN⟩ : ∃ x, x = numOf (seg l 6 2) := ⟨_, rfl⟩
  rw [← hN] at hcs hnb
  replace hN := Lib.hid hN
  obtain ⟨x0, x1, x2, x3, x4, x5⟩ := h
  obtain ⟨E, hE⟩ : ∃ E, E = wholeE l := ⟨_, rfl⟩
  rw [← hE] at hcs ⊢
  replace hE := Lib.hid hE
  unfold Hd.val
  have bel : ∀ u v, Below w.heap.size w ((w.alloc (.cells #[.int .i64 x0, .int .i64 x1, .int .i64 x2, .int .i64 x3, .int .u32 x4, .int .u32 x5] u)).alloc v) := fun u v => ((Below.refl _ _).alloc (Nat.le_refl _) _).alloc (by simp) _
  replace bel := Lib.hid bel
  rcases hcs with ⟨he, hd⟩ | ⟨he, hd⟩ <;> replace he := Lib.hid he
  all_goals
    go_enter Try.func45, Try.ntmps45
    go_wp2_with (go_at_call 57; refine (num_any _ _ _ _ _ _ (by omega) (rd6.below (bel.out _ _))).mono ?_; rw [← hN.out]; rintro e w' ⟨rfl, rfl⟩)
  · exact bodyPost_ret (v := .tuple #[.agg #[.int .i64 x0, .int .i64 x1, .int .i64 x2, .int .i64 x3, .int .u32 x4, .int .u32 x5], .int .i64 0]) (by simp [results, Try.results45, go_sem]) rfl ⟨by rw [he.out]; rfl, bel.out _ _⟩
  · exact bodyPost_ret (v := .tuple #[Hd.z.val, .int .i64 5]) (by simp [results, Try.results45, go_sem, Hd.val, Hd.z]) rfl ⟨by rw [he.out]; rfl, bel.out _ _⟩
theorem getE_cases (l : List Int) :
    ((shapeE l 1500 = 2 ∨ shapeE l 1500 = 3) ∧ getE l = shapeE l 1500) ∨
    (shapeE l 1500 = 0 ∧ 20 ≤ l.length ∧ 20 ≤ l.getD 0 0 % 16 * 4 ∧ l.getD 0 0 % 16 * 4 ≤ l.length ∧ (l.length : Int) < n2 l 2 ∧ getE l = 2) ∨
    (shapeE l 1500 = 0 ∧ 20 ≤ l.length ∧ 20 ≤ l.getD 0 0 % 16 * 4 ∧ l.getD 0 0 % 16 * 4 ≤ l.length ∧ n2 l 2 ≤ l.length ∧ (sumOf (l.take (l.getD 0 0 % 16 * 4).toNat) != 0) = true ∧ getE l = 4) ∨
    (shapeE l 1500 = 0 ∧ 20 ≤ l.length ∧ 20 ≤ l.getD 0 0 % 16 * 4 ∧ l.getD 0 0 % 16 * 4 ≤ l.length ∧ n2 l 2 ≤ l.length ∧ (sumOf (l.take (l.getD 0 0 % 16 * 4).toNat) != 0) = false ∧ getE l = wholeE l) := by
  have h0 : shapeE l 1500 = 0 → 20 ≤ l.length ∧ 20 ≤ l.getD 0 0 % 16 * 4 ∧ l.getD 0 0 % 16 * 4 ≤ l.length := fun h => by
    rcases shape_cases l 1500 with h' | h' | h' | h' | h' | h' | h' <;> (try (have := h'.1; omega))
  have h1 : shapeE l 1500 = 0 ∨ shapeE l 1500 = 2 ∨ shapeE l 1500 = 3 := by
    rcases shape_cases l 1500 with h' | h' | h' | h' | h' | h' | h' <;> (have := h'.1; omega)
  unfold getE
  rcases h1 with h | h | h
  · obtain ⟨a, b, c⟩ := h0 h
    rw [if_neg (by simpa using h)]
    by_cases h2 : (l.length : Int) < n2 l 2
    · rw [if_pos h2]; exact .inr (.inl ⟨h, a, b, c, h2, rfl⟩)
    · rw [if_neg h2]
      by_cases h3 : sumOf (l.take (l.getD 0 0 % 16 * 4).toNat) = 0
      · rw [if_neg (by simpa using h3)]; exact .inr (.inr (.inr ⟨h, a, b, c, by omega, by simpa using h3, rfl⟩))
      · rw [if_pos h3]; exact .inr (.inr (.inl ⟨h, a, b, c, by omega, by simpa using h3, rfl⟩))
  · rw [if_pos (by omega)]; exact .inl ⟨.inl h, rfl⟩
  · rw [if_pos (by omega)]; exact .inl ⟨.inr h, rfl⟩
theorem shaped_err (l : List Int) (most : Int) (A : Option Addr) (len c B : Nat) (w : World) (hr : Rd .u8 w B A len l) (hB : B ≤ w.heap.size) (hlc : len ≤ c) (hcm : c ≤ 9223372036854775807) (h : shapeE l most ≠ 0) :
    Calls Try.prog 43 #[.slice A len c, .int .i64 most] w fun e w' => e = .returned (.tuple #[.agg #[.int .i64 0, .int .i64 0, .int .i64 0, .int .i64 0, .int .u32 0, .int .u32 0], .int .i64 (shapeE l most)]) ∧ Below w.heap.size w w' :=
  (shaped_any l most A len c B w hr hB hlc hcm).mono fun e w' ⟨h1, h2⟩ => ⟨by rw [h1]; unfold hdIf; rw [if_neg h]; rfl, h2⟩
theorem shaped_ok (l : List Int) (most : Int) (A : Option Addr) (len c B : Nat) (w : World) (hr : Rd .u8 w B A len l) (hB : B ≤ w.heap.size) (hlc : len ≤ c) (hcm : c ≤ 9223372036854775807) (h : shapeE l most = 0) (h0 h1 h2 h3 h4 h5 : Int) (hh : hdOf l = ⟨h0, h1, h2, h3, h4, h5⟩) :
    Calls Try.prog 43 #[.slice A len c, .int .i64 most] w fun e w' => e = .returned (.tuple #[.agg #[.int .i64 h0, .int .i64 h1, .int .i64 h2, .int .i64 h3, .int .u32 h4, .int .u32 h5], .int .i64 0]) ∧ Below w.heap.size w w' :=
  (shaped_any l most A len c B w hr hB hlc hcm).mono fun e w' ⟨e1, h2⟩ => ⟨by rw [e1]; unfold hdIf; rw [h, if_pos rfl, hh]; rfl, h2⟩
theorem whole_hd (l : List Int) (A : Option Addr) (len c B : Nat) (w : World) (hr : Rd .u8 w B A len l) (hB : B ≤ w.heap.size) (hlc : len ≤ c) (hcm : c ≤ 9223372036854775807) (h20 : 20 ≤ len)
    (h0 h1 h2 h3 h4 h5 y0 y1 y2 y3 y4 y5 E : Int) (hh : hdOf l = ⟨h0, h1, h2, h3, h4, h5⟩) (hy : hdIf l (wholeE l) = ⟨y0, y1, y2, y3, y4, y5⟩) (hE : wholeE l = E) :
    Calls Try.prog 45 #[.agg #[.int .i64 h0, .int .i64 h1, .int .i64 h2, .int .i64 h3, .int .u32 h4, .int .u32 h5], .slice A len c] w fun e w' => e = .returned (.tuple #[.agg #[.int .i64 y0, .int .i64 y1, .int .i64 y2, .int .i64 y3, .int .u32 y4, .int .u32 y5], .int .i64 E]) ∧ Below w.heap.size w w' := by
  have := whole_any (hdOf l) l A len c B w hr hB hlc hcm h20
  have e : selH (wholeE l) (hdOf l) = ⟨y0, y1, y2, y3, y4, y5⟩ := hy
  rw [e, hh, hE] at this
  exact this
set_option maxRecDepth 100000 in
set_option maxHeartbeats 2000000 in
theorem Get_any (l : List Int) (A : Option Addr) (len c B : Nat) (w : World) (hr : Rd .u8 w B A len l) (hB : B ≤ w.heap.size) (hlc : len ≤ c) (hcm : c ≤ 9223372036854775807) (hl : len ≤ 100000) :
    Calls Try.prog 35 #[.slice A len c] w fun e w' => e = .returned (.tuple #[(hdIf l (getE l)).val, .int .i64 (getE l)]) ∧ Below w.heap.size w w' := by
  have hcs := getE_cases l
  rw [hr.len] at hcs
  have hrB := hr.more hB
  have hdz : ∀ x : Int, x ≠ 0 → (hdIf l x).val = Hd.z.val := fun x hx => by unfold hdIf; rw [if_neg hx]
  replace hdz := Lib.hid hdz
  have hh : hdOf l = ⟨l.getD 0 0 % 16 * 4, n2 l 2, l.getD 8 0, l.getD 9 0, n4 l 12, n4 l 16⟩ := rfl
  rcases hcs with ⟨h, e⟩ | ⟨h, h20, h1, h2, h3, e⟩ | ⟨h, h20, h1, h2, h3, hs, e⟩ | ⟨h, h20, h1, h2, h3, hs, e⟩
  · have hsh := fun W' hr => shaped_err l 1500 A len c _ W' hr (Nat.le_refl _) hlc hcm (by omega)
    rw [e]
    replace hdz := hdz.out _ (show shapeE l 1500 ≠ 0 by omega)
    rw [hdz]
    clear hdz e hh
    have hb : (shapeE l 1500 != 0) = true := by simp; omega
    obtain ⟨E, hE⟩ : ∃ E, E = shapeE l 1500 := ⟨_, rfl⟩
    rw [← hE] at hb hsh ⊢
    replace hsh := Lib.hid hsh
    clear h hE
    go_enter Try.func35, Try.ntmps35
    go_wp2_with (go_at_call 43; refine (hsh.out _ (hrB.alloc (Nat.le_refl _) _ |>.more (by simp))).mono ?_; rintro e w1 ⟨rfl, hb1⟩; obtain ⟨hc, hf⟩ := bcell hb1; have hz : w.heap.size < w1.heap.size := (by have := hb1.size; simp at this; omega))
    exact bodyPost_ret (v := .tuple #[Hd.z.val, .int .i64 E]) (by simp [results, Try.results35, go_sem, Hd.val, Hd.z, hc, hf, hz]) rfl ⟨rfl, by
      have hb0 : Below w.heap.size w w1 := bel_after (bel_alloc _ _) hb1
      (repeat (first | (with_reducible exact hb0) | (with_reducible refine Below.setCell ?_ ?_ _; rotate_left; · (first | omega | (simp; done) | (simp; omega) | (have hsz := Below.size hb0; omega) | (have hsz := Below.size hb0; simp; omega))) | (with_reducible refine Below.alloc ?_ ?_ _; rotate_left; · (first | omega | (simp; done) | (simp; omega) | (have hsz := Below.size hb0; omega) | (have hsz := Below.size hb0; simp; omega))) | (with_reducible refine below_drewN ?_ _) | (with_reducible refine Below.drew ?_)))⟩
  all_goals
    have hsh := fun W' hr => shaped_ok l 1500 A len c _ W' hr (Nat.le_refl _) hlc hcm h _ _ _ _ _ _ hh
    obtain ⟨y0, y1, y2, y3, y4, y5, hy⟩ : ∃ y0 y1 y2 y3 y4 y5 : Int, hdIf l (wholeE l) = ⟨y0, y1, y2, y3, y4, y5⟩ := ⟨_, _, _, _, _, _, rfl⟩
    obtain ⟨E, hE⟩ : ∃ E, wholeE l = E := ⟨_, rfl⟩
    have hwh := fun W' hr => whole_hd l A len c _ W' hr (Nat.le_refl _) hlc hcm h20 _ _ _ _ _ _ _ _ _ _ _ _ _ hh hy hE
    replace hy := Lib.hid hy
    replace hE := Lib.hid hE
    have hof := fun W' k hr => Of_any (l.take (l.getD 0 0 % 16 * 4).toNat) A (l.getD 0 0 % 16 * 4).toNat c k W' (by omega) hr
    obtain ⟨k, hk⟩ : ∃ k : Nat, l.getD 0 0 % 16 * 4 = (k : Int) := ⟨(l.getD 0 0 % 16 * 4).toNat, by omega⟩
    have hrk := hrB.take (m := k) (by omega)
    rw [hk] at h1 h2 hsh hof hwh
    try rw [hk] at hs
    rw [Int.toNat_natCast] at hof
    try rw [Int.toNat_natCast] at hs
    obtain ⟨N, hN⟩ : ∃ N, N = n2 l 2 := ⟨_, rfl⟩
    rw [← hN] at h3 hsh hwh
    obtain ⟨f8, hf8⟩ : ∃ N, N = l.getD 8 0 := ⟨_, rfl⟩
    rw [← hf8] at hsh hwh
    obtain ⟨f9, hf9⟩ : ∃ N, N = l.getD 9 0 := ⟨_, rfl⟩
    rw [← hf9] at hsh hwh
    obtain ⟨f12, hf12⟩ : ∃ N, N = n4 l 12 := ⟨_, rfl⟩
    rw [← hf12] at hsh hwh
    obtain ⟨f16, hf16⟩ : ∃ N, N = n4 l 16 := ⟨_, rfl⟩
    rw [← hf16] at hsh hwh
    obtain ⟨S, hS⟩ : ∃ S, S = sumOf (l.take k) := ⟨_, rfl⟩
    rw [← hS] at hof
    try rw [← hS] at hs
    replace hsh := Lib.hid hsh
    replace hwh := Lib.hid hwh
    replace hof := Lib.hid hof
    replace hh := Lib.hid hh
    replace hk := Lib.hid hk
    rw [e]
    clear h e hN hf8 hf9 hf12 hf16 hS
  · rw [hdz.out 2 (by decide)]
    go_enter Try.func35, Try.ntmps35
    go_wp2_with (go_at_call 43; refine (hsh.out _ (hrB.alloc (Nat.le_refl _) _ |>.more (by simp))).mono ?_; rintro e w1 ⟨rfl, hb1⟩; obtain ⟨hc, hf⟩ := bcell hb1; have hz : w.heap.size < w1.heap.size := (by have := hb1.size; simp at this; omega))
    exact bodyPost_ret (v := .tuple #[Hd.z.val, .int .i64 2]) (by simp [results, Try.results35, go_sem, Hd.val, Hd.z, hc, hf, hz]) rfl ⟨rfl, by
      have hb0 : Below w.heap.size w w1 := bel_after (bel_alloc _ _) hb1
      (repeat (first | (with_reducible exact hb0) | (with_reducible refine Below.setCell ?_ ?_ _; rotate_left; · (first | omega | (simp; done) | (simp; omega) | (have hsz := Below.size hb0; omega) | (have hsz := Below.size hb0; simp; omega))) | (with_reducible refine Below.alloc ?_ ?_ _; rotate_left; · (first | omega | (simp; done) | (simp; omega) | (have hsz := Below.size hb0; omega) | (have hsz := Below.size hb0; simp; omega))) | (with_reducible refine below_drewN ?_ _) | (with_reducible refine Below.drew ?_)))⟩
  · rw [hdz.out 4 (by decide)]
    go_enter Try.func35, Try.ntmps35
    go_wp2_with (first | (go_at_call 43; refine (hsh.out _ (hrB.alloc (Nat.le_refl _) _ |>.more (by simp))).mono ?_; rintro e w1 ⟨rfl, hb1⟩; obtain ⟨hc, hf⟩ := bcell hb1; have hz : w.heap.size < w1.heap.size := (by have := hb1.size; simp at this; omega); have hb0 : Below w.heap.size w w1 := bel_after (bel_alloc _ _) hb1) | (go_at_call 44; refine (hof.out _ w.heap.size (hrk.below (by (repeat (first | (with_reducible exact hb0) | (with_reducible refine Below.setCell ?_ ?_ _; rotate_left; · (first | omega | (simp; done) | (simp; omega) | (have hsz := Below.size hb0; omega) | (have hsz := Below.size hb0; simp; omega))) | (with_reducible refine Below.alloc ?_ ?_ _; rotate_left; · (first | omega | (simp; done) | (simp; omega) | (have hsz := Below.size hb0; omega) | (have hsz := Below.size hb0; simp; omega))) | (with_reducible refine below_drewN ?_ _) | (with_reducible refine Below.drew ?_)))))).mono ?_; rintro e w2 ⟨rfl, rfl⟩))
    exact bodyPost_ret (v := .tuple #[Hd.z.val, .int .i64 4]) (by simp [results, Try.results35, go_sem, Hd.val, Hd.z, hc, hf, hz]) rfl ⟨rfl, by (repeat (first | (with_reducible exact hb0) | (with_reducible refine Below.setCell ?_ ?_ _; rotate_left; · (first | omega | (simp; done) | (simp; omega) | (have hsz := Below.size hb0; omega) | (have hsz := Below.size hb0; simp; omega))) | (with_reducible refine Below.alloc ?_ ?_ _; rotate_left; · (first | omega | (simp; done) | (simp; omega) | (have hsz := Below.size hb0; omega) | (have hsz := Below.size hb0; simp; omega))) | (with_reducible refine below_drewN ?_ _) | (with_reducible refine Below.drew ?_)))⟩
  · go_enter Try.func35, Try.ntmps35
    go_wp2_with (first | (go_at_call 43; refine (hsh.out _ (hrB.alloc (Nat.le_refl _) _ |>.more (by simp))).mono ?_; rintro e w1 ⟨rfl, hb1⟩; obtain ⟨hc, hf⟩ := bcell hb1; have hz : w.heap.size < w1.heap.size := (by have := hb1.size; simp at this; omega); have hb0 : Below w.heap.size w w1 := bel_after (bel_alloc _ _) hb1) | (go_at_call 44; refine (hof.out _ w.heap.size (hrk.below (by (repeat (first | (with_reducible exact hb0) | (with_reducible refine Below.setCell ?_ ?_ _; rotate_left; · (first | omega | (simp; done) | (simp; omega) | (have hsz := Below.size hb0; omega) | (have hsz := Below.size hb0; simp; omega))) | (with_reducible refine Below.alloc ?_ ?_ _; rotate_left; · (first | omega | (simp; done) | (simp; omega) | (have hsz := Below.size hb0; omega) | (have hsz := Below.size hb0; simp; omega))) | (with_reducible refine below_drewN ?_ _) | (with_reducible refine Below.drew ?_)))))).mono ?_; rintro e w2 ⟨rfl, rfl⟩))
    refine (hwh.out _ ((hrB.below (by (repeat (first | (with_reducible exact hb0) | (with_reducible refine Below.setCell ?_ ?_ _; rotate_left; · (first | omega | (simp; done) | (simp; omega) | (have hsz := Below.size hb0; omega) | (have hsz := Below.size hb0; simp; omega))) | (with_reducible refine Below.alloc ?_ ?_ _; rotate_left; · (first | omega | (simp; done) | (simp; omega) | (have hsz := Below.size hb0; omega) | (have hsz := Below.size hb0; simp; omega))) | (with_reducible refine below_drewN ?_ _) | (with_reducible refine Below.drew ?_))))).more ?hle)).mono ?_
    · simp; omega
    rintro e w2 ⟨rfl, hb2⟩
    have hb3 : Below w.heap.size w w2 := bel_after (by (repeat (first | (with_reducible exact hb0) | (with_reducible refine Below.setCell ?_ ?_ _; rotate_left; · (first | omega | (simp; done) | (simp; omega) | (have hsz := Below.size hb0; omega) | (have hsz := Below.size hb0; simp; omega))) | (with_reducible refine Below.alloc ?_ ?_ _; rotate_left; · (first | omega | (simp; done) | (simp; omega) | (have hsz := Below.size hb0; omega) | (have hsz := Below.size hb0; simp; omega))) | (with_reducible refine below_drewN ?_ _) | (with_reducible refine Below.drew ?_)))) hb2
    obtain ⟨hc2, hf2⟩ := bcell hb2
    have hz2 : w.heap.size < w2.heap.size := (by have := hb2.size; simp at this; omega)
    have hz3 : w.heap.size < w1.heap.size + 1 := by omega
    clear hb1
    go_wp2
    exact bodyPost_ret (v := .tuple #[.agg #[.int .i64 y0, .int .i64 y1, .int .i64 y2, .int .i64 y3, .int .u32 y4, .int .u32 y5], .int .i64 E]) (by simp [results, Try.results35, go_sem, hc2, hf2, hz2, hz3, hc, hf, hz]) rfl ⟨by rw [hy.out, hE.out]; rfl, by (repeat (first | (with_reducible exact hb3) | (with_reducible refine Below.setCell ?_ ?_ _; rotate_left; · (first | omega | (simp; done) | (simp; omega) | (have hsz := Below.size hb3; omega) | (have hsz := Below.size hb3; simp; omega))) | (with_reducible refine Below.alloc ?_ ?_ _; rotate_left; · (first | omega | (simp; done) | (simp; omega) | (have hsz := Below.size hb3; omega) | (have hsz := Below.size hb3; simp; omega))) | (with_reducible refine below_drewN ?_ _) | (with_reducible refine Below.drew ?_)))⟩
theorem partE_cases (l : List Int) :
    ((shapeE l 65535 = 2 ∨ shapeE l 65535 = 3) ∧ partE l = shapeE l 65535) ∨ (shapeE l 65535 = 0 ∧ 20 ≤ l.length ∧ partE l = wholeE l) := by
  have h0 : shapeE l 65535 = 0 → 20 ≤ l.length := fun h => by
    rcases shape_cases l 65535 with h' | h' | h' | h' | h' | h' | h' <;> (have := h'.1; omega)
  have h1 : shapeE l 65535 = 0 ∨ shapeE l 65535 = 2 ∨ shapeE l 65535 = 3 := by
    rcases shape_cases l 65535 with h' | h' | h' | h' | h' | h' | h' <;> (have := h'.1; omega)
  unfold partE
  rcases h1 with h | h | h
  · rw [if_neg (by simpa using h)]; exact .inr ⟨h, h0 h, rfl⟩
  · rw [if_pos (by omega)]; exact .inl ⟨.inl h, rfl⟩
  · rw [if_pos (by omega)]; exact .inl ⟨.inr h, rfl⟩
set_option maxRecDepth 100000 in
set_option maxHeartbeats 2000000 in
theorem Part_any (l : List Int) (A : Option Addr) (len c B : Nat) (w : World) (hr : Rd .u8 w B A len l) (hB : B ≤ w.heap.size) (hlc : len ≤ c) (hcm : c ≤ 9223372036854775807) :
    Calls Try.prog 69 #[.slice A len c] w fun e w' => e = .returned (.tuple #[(hdIf l (partE l)).val, .int .i64 (partE l)]) ∧ Below w.heap.size w w' := by
  have hcs := partE_cases l
  rw [hr.len] at hcs
  have hrB := hr.more hB
  have hh : hdOf l = ⟨l.getD 0 0 % 16 * 4, n2 l 2, l.getD 8 0, l.getD 9 0, n4 l 12, n4 l 16⟩ := rfl
  rcases hcs with ⟨h, e⟩ | ⟨h, h20, e⟩
  · have hsh := fun W' hr => shaped_err l 65535 A len c _ W' hr (Nat.le_refl _) hlc hcm (by omega)
    have hdz : (hdIf l (shapeE l 65535)).val = Hd.z.val := by unfold hdIf; rw [if_neg (by omega)]
    rw [e, hdz]
    clear hdz e hh
    have hb : (shapeE l 65535 != 0) = true := by simp; omega
    obtain ⟨E, hE⟩ : ∃ E, E = shapeE l 65535 := ⟨_, rfl⟩
    rw [← hE] at hb hsh ⊢
    replace hsh := Lib.hid hsh
    clear h hE
    go_enter Try.func69, Try.ntmps69
    go_wp2_with (go_at_call 43; refine (hsh.out _ (hrB.alloc (Nat.le_refl _) _ |>.more (by simp))).mono ?_; rintro e w1 ⟨rfl, hb1⟩; obtain ⟨hc, hf⟩ := bcell hb1; have hz : w.heap.size < w1.heap.size := (by have := hb1.size; simp at this; omega); have hb0 : Below w.heap.size w w1 := bel_after (bel_alloc _ _) hb1)
    exact bodyPost_ret (v := .tuple #[Hd.z.val, .int .i64 E]) (by simp [results, Try.results69, go_sem, Hd.val, Hd.z, hc, hf, hz]) rfl ⟨rfl, by (repeat (first | (with_reducible exact hb0) | (with_reducible refine Below.setCell ?_ ?_ _; rotate_left; · (first | omega | (simp; done) | (simp; omega) | (have hsz := Below.size hb0; omega) | (have hsz := Below.size hb0; simp; omega))) | (with_reducible refine Below.alloc ?_ ?_ _; rotate_left; · (first | omega | (simp; done) | (simp; omega) | (have hsz := Below.size hb0; omega) | (have hsz := Below.size hb0; simp; omega))) | (with_reducible refine below_drewN ?_ _) | (with_reducible refine Below.drew ?_)))⟩
  · obtain ⟨y0, y1, y2, y3, y4, y5, hy⟩ : ∃ y0 y1 y2 y3 y4 y5 : Int, hdIf l (wholeE l) = ⟨y0, y1, y2, y3, y4, y5⟩ := ⟨_, _, _, _, _, _, rfl⟩
    obtain ⟨E, hE⟩ : ∃ E, wholeE l = E := ⟨_, rfl⟩
    rw [e, hy, hE]
    unfold Hd.val
    simp only
    obtain ⟨f0, f1, f2, f3, f4, f5, hh⟩ : ∃ y0 y1 y2 y3 y4 y5 : Int, hdOf l = ⟨y0, y1, y2, y3, y4, y5⟩ := ⟨_, _, _, _, _, _, rfl⟩
    have hwh := fun W' hr => whole_hd l A len c _ W' hr (Nat.le_refl _) hlc hcm h20 _ _ _ _ _ _ _ _ _ _ _ _ _ hh hy hE
    have hsh := fun W' hr => shaped_ok l 65535 A len c _ W' hr (Nat.le_refl _) hlc hcm h _ _ _ _ _ _ hh
    replace hsh := Lib.hid hsh
    replace hwh := Lib.hid hwh
    clear hh hy hE h e
    go_enter Try.func69, Try.ntmps69
    go_wp2_with (go_at_call 43; refine (hsh.out _ (hrB.alloc (Nat.le_refl _) _ |>.more (by simp))).mono ?_; rintro e w1 ⟨rfl, hb1⟩; obtain ⟨hc, hf⟩ := bcell hb1; have hz : w.heap.size < w1.heap.size := (by have := hb1.size; simp at this; omega); have hb0 : Below w.heap.size w w1 := bel_after (bel_alloc _ _) hb1)
    refine (hwh.out _ ((hrB.below (by (repeat (first | (with_reducible exact hb0) | (with_reducible refine Below.setCell ?_ ?_ _; rotate_left; · (first | omega | (simp; done) | (simp; omega) | (have hsz := Below.size hb0; omega) | (have hsz := Below.size hb0; simp; omega))) | (with_reducible refine Below.alloc ?_ ?_ _; rotate_left; · (first | omega | (simp; done) | (simp; omega) | (have hsz := Below.size hb0; omega) | (have hsz := Below.size hb0; simp; omega))) | (with_reducible refine below_drewN ?_ _) | (with_reducible refine Below.drew ?_))))).more ?hle)).mono ?_
    · simp; omega
    rintro e w2 ⟨rfl, hb2⟩
    have hb3 : Below w.heap.size w w2 := bel_after (by (repeat (first | (with_reducible exact hb0) | (with_reducible refine Below.setCell ?_ ?_ _; rotate_left; · (first | omega | (simp; done) | (simp; omega) | (have hsz := Below.size hb0; omega) | (have hsz := Below.size hb0; simp; omega))) | (with_reducible refine Below.alloc ?_ ?_ _; rotate_left; · (first | omega | (simp; done) | (simp; omega) | (have hsz := Below.size hb0; omega) | (have hsz := Below.size hb0; simp; omega))) | (with_reducible refine below_drewN ?_ _) | (with_reducible refine Below.drew ?_)))) hb2
    obtain ⟨hc2, hf2⟩ := bcell hb2
    have hz2 : w.heap.size < w2.heap.size := (by have := hb2.size; simp at this; omega)
    have hz3 : w.heap.size < w1.heap.size + 1 := by omega
    clear hb1
    go_wp2
    exact bodyPost_ret (v := .tuple #[.agg #[.int .i64 y0, .int .i64 y1, .int .i64 y2, .int .i64 y3, .int .u32 y4, .int .u32 y5], .int .i64 E]) (by simp [results, Try.results69, go_sem, hc2, hf2, hz2, hz3, hc, hf, hz]) rfl ⟨rfl, by (repeat (first | (with_reducible exact hb3) | (with_reducible refine Below.setCell ?_ ?_ _; rotate_left; · (first | omega | (simp; done) | (simp; omega) | (have hsz := Below.size hb3; omega) | (have hsz := Below.size hb3; simp; omega))) | (with_reducible refine Below.alloc ?_ ?_ _; rotate_left; · (first | omega | (simp; done) | (simp; omega) | (have hsz := Below.size hb3; omega) | (have hsz := Below.size hb3; simp; omega))) | (with_reducible refine below_drewN ?_ _) | (with_reducible refine Below.drew ?_)))⟩
end Go.Proofs.Ytjaacmecniijgaa
