/- The walks of the laws' helpers: heads; of the reference's Fix. -/
import Derived.Test.YtcpndmcidbidbaaHeadRef2
namespace Go.Proofs.Ytcpndmcidbidbaa
set_option linter.unusedVariables false
set_option linter.unusedSimpArgs false
open Go.RowKit
theorem hd_ten : getE (putL 64 17 167772161 167772162 []) = 0 := by decide +kernel
set_option maxRecDepth 100000 in
set_option maxHeartbeats 2000000 in
theorem heads_any (w : World) :
    Calls Try.prog 12 #[] w fun e w' => e = .returned (.bool true) ∧ Below w.heap.size w w' := by
  go_enter Try.func12, Try.ntmps12
  go_wp2_with fail
  refine (Put_any 0 0 64 17 167772161 167772162 [] none 0 0 0 _ (Rd.nil _ _ _ _) (Nat.zero_le _) (by omega) (by omega) (by omega) (by omega) (by omega)).mono ?_
  rintro e w1 ⟨v1, rfl, own1, bel1⟩
  have hL : putL 64 17 167772161 167772162 [] = [69, 0, 0, 20, 0, 0, 64, 0, 64, 17, 38, 215, 10, 0, 0, 1, 10, 0, 0, 2] := by decide +kernel
  have hG := hd_ten
  rw [hL] at own1 hG
  have hH : hdIf [69, 0, 0, 20, 0, 0, 64, 0, 64, 17, 38, 215, 10, 0, 0, 1, 10, 0, 0, 2] 0 = ⟨20, 20, 64, 17, 167772161, 167772162⟩ := by
    unfold hdIf; rw [if_pos rfl]; decide +kernel
  clear hL
  obtain ⟨g, c1, rfl, hc1, hc2, hg1, hg2⟩ := own1.formG (n := 20) rfl (by omega)
  have rd1 := own1.rd (n := 20) rfl
  unfold maxLen at hc2
  have hget := Get_any _ _ 20 c1 _ w1 rd1 (Nat.le_refl _) hc1 (by omega) (by omega)
  rw [hG, hH] at hget
  unfold Hd.val at hget
  simp only at hget
  replace hget := Lib.hid hget
  obtain ⟨c0, _, _⟩ := own1.at_ (n := 20) (j := 0) rfl (by omega)
  obtain ⟨c3, _, _⟩ := own1.at_ (n := 20) (j := 3) rfl (by omega)
  simp only [List.getD_cons_zero, List.getD_cons_succ] at c0 c3
  clear hG hH
  go_wp2_with fail
  refine hget.out.mono ?_
  rintro e w2 ⟨rfl, bel2⟩
  obtain ⟨hc, hf⟩ := bcell bel2
  have k0 := (hc g 0 hg2).trans c0
  have k3 := (hc g 3 hg2).trans c3
  have hz := bel2.size
  have hne : g ≠ w2.heap.size := by omega
  have hlt : g < w2.heap.size := by omega
  have k0' := fun o => (World.cell?_alloc_lt w2 o ⟨g, 0, none⟩ hlt).trans k0
  have k3' := fun o => (World.cell?_alloc_lt w2 o ⟨g, 3, none⟩ hlt).trans k3
  clear hc hf
  go_wp2
  go_ret
  exact ⟨rfl, by have := bel1.trans (bel2.mono bel1.size); (repeat (first | (with_reducible exact this) | (with_reducible refine Below.setCell ?_ ?_ _; rotate_left; · (first | omega | (simp; done) | (simp; omega) | (have hsz := Below.size this; omega) | (have hsz := Below.size this; simp; omega))) | (with_reducible refine Below.alloc ?_ ?_ _; rotate_left; · (first | omega | (simp; done) | (simp; omega) | (have hsz := Below.size this; omega) | (have hsz := Below.size this; simp; omega))) | (with_reducible refine below_drewN ?_ _) | (with_reducible refine Below.drew ?_)))⟩
theorem get_at (l : List Int) (A : Option Addr) (len c B : Nat) (w : World) (hr : Rd .u8 w B A len l) (hB : B ≤ w.heap.size) (hlc : len ≤ c) (hcm : c ≤ 9223372036854775807) (hl : len ≤ 100000) (y0 y1 y2 y3 y4 y5 E : Int) (hE : getE l = E) (hy : hdIf l E = ⟨y0, y1, y2, y3, y4, y5⟩) :
    Calls Try.prog 13 #[.slice A len c] w fun e w' => e = .returned (.tuple #[.agg #[.int .i64 y0, .int .i64 y1, .int .i64 y2, .int .i64 y3, .int .u32 y4, .int .u32 y5], .int .i64 E]) ∧ Below w.heap.size w w' := by
  have := Get_any l A len c B w hr hB hlc hcm hl
  rw [hE, hy] at this; exact this
theorem part_at (l : List Int) (A : Option Addr) (len c B : Nat) (w : World) (hr : Rd .u8 w B A len l) (hB : B ≤ w.heap.size) (hlc : len ≤ c) (hcm : c ≤ 9223372036854775807) (y0 y1 y2 y3 y4 y5 E : Int) (hE : partE l = E) (hy : hdIf l E = ⟨y0, y1, y2, y3, y4, y5⟩) :
    Calls Try.prog 16 #[.slice A len c] w fun e w' => e = .returned (.tuple #[.agg #[.int .i64 y0, .int .i64 y1, .int .i64 y2, .int .i64 y3, .int .u32 y4, .int .u32 y5], .int .i64 E]) ∧ Below w.heap.size w w' := by
  have := Part_any l A len c B w hr hB hlc hcm
  rw [hE, hy] at this; exact this
theorem rget_at (l : List Int) (p : Bool) (A : Option Addr) (len c B : Nat) (w : World) (hr : Rd .u8 w B A len l) (hB : B ≤ w.heap.size) (hlc : len ≤ c) (hcm : c ≤ 9223372036854775807) (hl : len ≤ 100000) (y0 y1 y2 y3 y4 y5 E : Int) (hE : getP l p = E) (hy : hdIf l E = ⟨y0, y1, y2, y3, y4, y5⟩) :
    Calls Try.prog 15 #[.slice A len c, .bool p] w fun e w' => e = .returned (.tuple #[.agg #[.int .i64 y0, .int .i64 y1, .int .i64 y2, .int .i64 y3, .int .u32 y4, .int .u32 y5], .int .i64 E]) ∧ Below w.heap.size w w' := by
  have := rGet_any l p A len c B w hr hB hlc hcm hl
  rw [hE, hy] at this; exact this
end Go.Proofs.Ytcpndmcidbidbaa
