/- The walks of package part: pseudo. -/
import Derived.Test.YtjaacmecniijgaaPart
namespace Go.Proofs.Ytjaacmecniijgaa
set_option linter.unusedVariables false
set_option linter.unusedSimpArgs false
open Go.RowKit
theorem own_none {w : World} (base : Nat) : Own .u8 5 w base (.slice none 0 0) [] := Own.nil _ _ _ _
theorem App.bel {w w' : World} {v' : Value} {l : List Int} (h : App w w' w.heap.size (.slice none 0 0) v' l) : Below w.heap.size w w' := h.below (Nat.le_refl _) (fun g hg => by simp [Value.ownBlock] at hg)
set_option maxRecDepth 100000 in
set_option maxHeartbeats 1000000 in
theorem pseudo_any (s d p : Int) (l : List Int) (A : Option Addr) (len c B : Nat) (w : World) (hr : Rd .u8 w B A len l) (hB : B ≤ w.heap.size) (hs : 0 ≤ s ∧ s ≤ 4294967295) (hd : 0 ≤ d ∧ d ≤ 4294967295) (hp : 0 ≤ p ∧ p ≤ 255) (hl : len ≤ 60000) :
    Calls Try.prog 61 #[.int .u32 s, .int .u32 d, .int .i64 p, .slice A len c] w fun e w' => e = .returned (.int .u16 (csum s d p l)) ∧ Below w.heap.size w w' := by
  obtain ⟨i0, hi, hz0, hz1, hz2⟩ := info_parts info_u8_
  have hlen := hr.len
  have hrB := hr.more hB
  have hcs := csum_eq s d p l
  have hsb := sb_bd l (fun x hx => inr_u8 (hr.rng x hx)) true
  have hph := sb_bd (ph s d p len) (ph_bd hs hd hp (by omega)) true
  have hff := fo_fo _ hph.1
  rw [hlen] at hcs hsb
  rw [ph_len] at hph
  rw [hcs]
  have hfo := fo_bd hph.1
  have hadd := fo_add (sb true (ph s d p len)) (sb true l) hph.1 hsb.1
  clear hcs
  have hL12 := ph_len s d p len
  obtain ⟨L, hL⟩ : ∃ L, L = ph s d p len := ⟨_, rfl⟩
  rw [← hL] at hph hff hfo hadd hL12 ⊢
  replace hL := Lib.hid hL
  replace hL12 := Lib.hid hL12
  replace hlen := Lib.hid hlen
  replace hff := Lib.hid hff
  replace hadd := Lib.hid hadd
  go_enter Try.func61, Try.ntmps61
  go_wp2_with fail
  refine (pput4_any s _ [] w.heap.size _ (own_none _) (by simp) hs (Nat.le_refl _)).mono ?_
  rintro e w1 ⟨v1, rfl, a1⟩
  go_wp2_with fail
  refine (pput4_any d _ _ w.heap.size _ a1.own (by simp [be4]) hd a1.upd.size).mono ?_
  rintro e w2 ⟨v2, rfl, a2⟩
  replace a2 := a1.trans a2
  clear a1
  go_wp2_with (at_builtin; go_loud (have hx := Rd.new .u8 w2 5 [0, p] (by intro y hy; simp at hy; rcases hy with rfl | rfl <;> exact u8_inr (by omega)) #[.int .u8 0, .int .u8 p] rfl 2 rfl; refine wpList_app _ rfl (.tmp 14) (.tmp 17) 24 rfl .u8 w.heap.size 5 i0 (.int .u8 0) 1 Try.underlying24 hi hz0 hz1 hz2 rfl _ (by rfl) _ (a2.own.alloc _) (w2.heap.size + 1) _ 2 2 rfl [0, p] hx (by simp [be4]) (by decide) (by have := a2.upd.size; simp; omega) ?_; intro v4 w4 own4 hg4 hb4; have a4 := (a2.alloc (.cells #[.int .u8 0, .int .u8 p] 5)).app own4 hg4 hb4; clear own4 hg4 hb4 hx))
  refine (pput2_any len v4 _ w.heap.size _ a4.own (by simp [be4]) (by omega) a4.upd.size).mono ?_
  rintro e w5 ⟨v5, rfl, a5⟩
  replace a5 := a4.trans a5
  clear a4 a2
  have eL : (([] ++ be4 s ++ be4 d) ++ [0, p]) ++ be2 (len : Int) = ph s d p len := by simp [ph]
  rw [eL, ← hL.out] at a5
  obtain ⟨A5, c5, rfl, _, _, rd5⟩ := a5.own.form hL12.out
  have bel5 := a5.bel
  clear a5 eL
  go_wp2_with fail
  refine (More_any 0 L A5 12 c5 _ w5 (by omega) (by omega) (by omega) rd5).mono ?_
  rw [Int.zero_add]
  rintro e w6 ⟨rfl, rfl⟩
  go_wp2_with fail
  refine (More_any (fo (sb true L)) l A len c _ w5 (by omega) (by omega) (by omega) (hrB.below bel5)).mono ?_
  rw [hadd.out]
  rintro e w6 ⟨rfl, rfl⟩
  have hfo2 := fo_bd (n := sb true L + sb true l) (by omega)
  have hff2 := fo_fo (sb true L + sb true l) (by omega)
  replace hff2 := Lib.hid hff2
  go_wp2_with fail
  refine (Done_any _ w5 (by omega) (by omega)).mono ?_
  rw [hff2.out]
  rintro e w6 ⟨rfl, rfl⟩
  go_wp2_with fail
  go_ret
  exact ⟨rfl, bel5⟩
end Go.Proofs.Ytjaacmecniijgaa
