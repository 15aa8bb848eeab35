/- Contracts and plain facts. -/
import Derived.Test.YtbichbdcibchlaaGreatPf08
import Derived.Test.YtbichbdcibchlaaGreatPf01
import Derived.Test.YtbichbdcibchlaaGreatPf05
namespace Go.Proofs.YtbichbdcibchlaaGreat
set_option linter.unusedVariables false
set_option linter.unusedSimpArgs false
set_option maxRecDepth 100000
set_option maxHeartbeats 16000000
open Go.RowKit
def fixN (l : List Int) : Nat := if l.getD 0 0 % 16 * 4 < 20 ∨ (l.length : Int) < l.getD 0 0 % 16 * 4 then 20 else (l.getD 0 0 % 16 * 4).toNat
def fixZ (l : List Int) : List Int := (l.set 10 0).set 11 0
def fixL (l : List Int) : List Int := ((fixZ l).set 10 (sumOf ((fixZ l).take (fixN l)) / 256)).set 11 (sumOf ((fixZ l).take (fixN l)) % 256)
theorem fixL_len (l : List Int) : (fixL l).length = l.length := by simp [fixL, fixZ]
def FixRes (w : World) (l : List Int) (e : Ending) (w' : World) : Prop := ∃ v', e = .returned v' ∧ Own .u8 5 w' w.heap.size v' l ∧ Below w.heap.size w w'
theorem rHFix_any (l : List Int) (A : Option Addr) (len c B : Nat) (w : World) (hr : Rd .u8 w B A len l) (hB : B ≤ w.heap.size) (h20 : 20 ≤ len) (hl : len ≤ 100000) :
  Calls Tryz.prog 21 #[.slice A len c] w (FixRes w (fixL l)) := by
 obtain ⟨i0, hi, hz0, hz1, hz2⟩ := info_parts info_u8_
 have hr2 := ((hr.more hB).alloc (Nat.le_refl _) (.cells #[] 5)).more (Nat.le_succ _)
 have hlen := hr.len
 have own0 := Own.new .u8 w 5 w.heap.size (Nat.le_refl _) [] (by simp) #[] rfl 0 rfl (by simp)
 have hcs : (l.getD 0 0 % 16 * 4 < 20 ∧ fixN l = 20) ∨ (20 ≤ l.getD 0 0 % 16 * 4 ∧ (len : Int) < l.getD 0 0 % 16 * 4 ∧ fixN l = 20) ∨ (20 ≤ l.getD 0 0 % 16 * 4 ∧ l.getD 0 0 % 16 * 4 ≤ len ∧ ((fixN l : Nat) : Int) = l.getD 0 0 % 16 * 4) := by
  unfold fixN; rw [hlen]
  by_cases h1 : l.getD 0 0 % 16 * 4 < 20
  ·rw [if_pos (.inl h1)]; exact .inl ⟨h1, rfl⟩
  ·by_cases h2 : (len : Int) < l.getD 0 0 % 16 * 4
   ·rw [if_pos (.inr h2)]; exact .inr (.inl ⟨by omega, h2, rfl⟩)
   ·rw [if_neg (by omega)]; exact .inr (.inr ⟨by omega, by omega, by omega⟩)
 have hk20 : 20 ≤ fixN l ∧ fixN l ≤ len := by omega
 have hX : Hid (fixL l = ((fixZ l).set 10 (sumOf ((fixZ l).take (fixN l)) / 256)).set 11 (sumOf ((fixZ l).take (fixN l)) % 256)) := rfl
 have hZ : Hid (fixZ l = (l.set 10 0).set 11 0) := rfl
 generalize fixL l = X at *
 generalize fixN l = k at *
 generalize fixZ l = Z at *
 have hZl : Hid (Z.length = len) := Lib.hid (by rw [hZ.out]; simp [hlen])
 have hsb : 0 ≤ sumOf (Z.take k) ∧ sumOf (Z.take k) ≤ 65535 := by
  refine sumOf_bd fun x hx => ?_
  have := List.mem_of_mem_take hx
  rw [hZ.out] at this
  rcases List.mem_or_eq_of_mem_set this with h | h
  ·rcases List.mem_or_eq_of_mem_set h with h | h
   ·exact inr_u8 (hr.rng x h)
   ·omega
  ·omega
 obtain ⟨S, hS⟩ : ∃ S, S = sumOf (Z.take k) := ⟨_, rfl⟩
 rw [← hS] at hX hsb
 have hof := fun W' A' c' B' h => rOf_any (Z.take k) A' k c' B' W' (by omega) h
 rw [← hS] at hof
 replace hof := Lib.hid hof
 have hSw : IntKind.u8.wrap S = S % 256 := IntKind.wrap_u8' S
 replace hSw := Lib.hid hSw
 clear hS
 replace hlen := Lib.hid hlen
 obtain ⟨f0, hf0⟩ : ∃ f, f = l.getD 0 0 := ⟨_, rfl⟩
 rw [← hf0] at hcs
 have x0 : 0 ≤ f0 ∧ f0 ≤ 255 := by rw [hf0]; exact inr_u8 (hr.at_ (j := 0) (by omega)).choose_spec.choose_spec.2.2.2
 replace hf0 := Lib.hid hf0
 have hkc : k ≤ len := hk20.2
 have hkI : (0 : Int) ≤ (k : Int) := by omega
 rcases hcs with ⟨h1, rfl⟩ | ⟨h1, h2, rfl⟩ | ⟨h1, h2, h3⟩
 ·go_enter Tryz.func21, Tryz.ntmps21
  go_wp2_with (at_builtin; refine wpList_app _ rfl (.tmp 6) (.tmp 7) 36 rfl .u8 w.heap.size 5 i0 (.int .u8 0) 1 Tryz.underlying36 hi hz0 hz1 hz2 rfl (.slice (some ⟨w.heap.size, 0, none⟩) 0 0) rfl [] own0 (w.heap.size + 1) _ _ _ rfl l hr2 (by simp; omega) (by decide) (by simp) ?_; intro v1 w1 own1 hg1 _; rw [List.nil_append] at own1; obtain ⟨g, c1, rfl, hc1, hc2, hgb, hgw⟩ := own1.formG hlen.out (by omega); have bel1 : Below w.heap.size w w1 := ((Below.refl _ _).alloc (Nat.le_refl _) _).grown hg1 (by simp) (fun k h => by simp [Value.ownBlock] at h; omega); clear hg1; obtain ⟨k0, _, _⟩ := own1.at_ hlen.out (j := 0) (by omega); obtain ⟨k10, z10, _⟩ := own1.at_ hlen.out (j := 10) (by omega); obtain ⟨k11, z11, _⟩ := own1.at_ hlen.out (j := 11) (by omega); rw [← hf0.out] at k0; unfold maxLen at hc2; have hkc1 : 20 ≤ c1 := (by omega))
  have own2 := (own1.set hlen.out 10 (x := 0) (u8_inr (by omega))).set (by rw [List.length_set]; exact hlen.out) 11 (x := 0) (u8_inr (by omega))
  rw [← hZ.out] at own2
  have rd2 := own2.rd hZl.out
  have bel2 : Below w.heap.size w ((w1.setCell ⟨g, 10, none⟩ (.int .u8 0)).setCell ⟨g, 11, none⟩ (.int .u8 0)) := (bel1.setCell (p := ⟨g, 10, none⟩) hgb _).setCell (p := ⟨g, 11, none⟩) hgb _
  refine (hof.out _ _ _ _ (rd2.take hkc)).mono ?_
  rintro e w' ⟨rfl, rfl⟩
  have own3 := (own2.set hZl.out 10 (x := S / 256) (u8_inr (by omega))).set (by rw [List.length_set]; exact hZl.out) 11 (x := S % 256) (u8_inr (by omega))
  rw [← hX.out] at own3
  replace hSw := hSw.out
  go_wp2
  go_ret
  refine ⟨_, rfl, ?_, ?_⟩
  ·exact own3
  ·exact (bel2.setCell (p := ⟨g, 10, none⟩) hgb _).setCell (p := ⟨g, 11, none⟩) hgb _
 ·go_enter Tryz.func21, Tryz.ntmps21
  go_wp2_with (at_builtin; refine wpList_app _ rfl (.tmp 6) (.tmp 7) 36 rfl .u8 w.heap.size 5 i0 (.int .u8 0) 1 Tryz.underlying36 hi hz0 hz1 hz2 rfl (.slice (some ⟨w.heap.size, 0, none⟩) 0 0) rfl [] own0 (w.heap.size + 1) _ _ _ rfl l hr2 (by simp; omega) (by decide) (by simp) ?_; intro v1 w1 own1 hg1 _; rw [List.nil_append] at own1; obtain ⟨g, c1, rfl, hc1, hc2, hgb, hgw⟩ := own1.formG hlen.out (by omega); have bel1 : Below w.heap.size w w1 := ((Below.refl _ _).alloc (Nat.le_refl _) _).grown hg1 (by simp) (fun k h => by simp [Value.ownBlock] at h; omega); clear hg1; obtain ⟨k0, _, _⟩ := own1.at_ hlen.out (j := 0) (by omega); obtain ⟨k10, z10, _⟩ := own1.at_ hlen.out (j := 10) (by omega); obtain ⟨k11, z11, _⟩ := own1.at_ hlen.out (j := 11) (by omega); rw [← hf0.out] at k0; unfold maxLen at hc2; have hkc1 : 20 ≤ c1 := (by omega))
  have own2 := (own1.set hlen.out 10 (x := 0) (u8_inr (by omega))).set (by rw [List.length_set]; exact hlen.out) 11 (x := 0) (u8_inr (by omega))
  rw [← hZ.out] at own2
  have rd2 := own2.rd hZl.out
  have bel2 : Below w.heap.size w ((w1.setCell ⟨g, 10, none⟩ (.int .u8 0)).setCell ⟨g, 11, none⟩ (.int .u8 0)) := (bel1.setCell (p := ⟨g, 10, none⟩) hgb _).setCell (p := ⟨g, 11, none⟩) hgb _
  refine (hof.out _ _ _ _ (rd2.take hkc)).mono ?_
  rintro e w' ⟨rfl, rfl⟩
  have own3 := (own2.set hZl.out 10 (x := S / 256) (u8_inr (by omega))).set (by rw [List.length_set]; exact hZl.out) 11 (x := S % 256) (u8_inr (by omega))
  rw [← hX.out] at own3
  replace hSw := hSw.out
  go_wp2
  go_ret
  refine ⟨_, rfl, ?_, ?_⟩
  ·exact own3
  ·exact (bel2.setCell (p := ⟨g, 10, none⟩) hgb _).setCell (p := ⟨g, 11, none⟩) hgb _
 ·replace h3 := h3.symm
  go_enter Tryz.func21, Tryz.ntmps21
  go_wp2_with (at_builtin; refine wpList_app _ rfl (.tmp 6) (.tmp 7) 36 rfl .u8 w.heap.size 5 i0 (.int .u8 0) 1 Tryz.underlying36 hi hz0 hz1 hz2 rfl (.slice (some ⟨w.heap.size, 0, none⟩) 0 0) rfl [] own0 (w.heap.size + 1) _ _ _ rfl l hr2 (by simp; omega) (by decide) (by simp) ?_; intro v1 w1 own1 hg1 _; rw [List.nil_append] at own1; obtain ⟨g, c1, rfl, hc1, hc2, hgb, hgw⟩ := own1.formG hlen.out (by omega); have bel1 : Below w.heap.size w w1 := ((Below.refl _ _).alloc (Nat.le_refl _) _).grown hg1 (by simp) (fun k h => by simp [Value.ownBlock] at h; omega); clear hg1; obtain ⟨k0, _, _⟩ := own1.at_ hlen.out (j := 0) (by omega); obtain ⟨k10, z10, _⟩ := own1.at_ hlen.out (j := 10) (by omega); obtain ⟨k11, z11, _⟩ := own1.at_ hlen.out (j := 11) (by omega); rw [← hf0.out] at k0; unfold maxLen at hc2; have hkc1 : k ≤ c1 := (by omega))
  have own2 := (own1.set hlen.out 10 (x := 0) (u8_inr (by omega))).set (by rw [List.length_set]; exact hlen.out) 11 (x := 0) (u8_inr (by omega))
  rw [← hZ.out] at own2
  have rd2 := own2.rd hZl.out
  have bel2 : Below w.heap.size w ((w1.setCell ⟨g, 10, none⟩ (.int .u8 0)).setCell ⟨g, 11, none⟩ (.int .u8 0)) := (bel1.setCell (p := ⟨g, 10, none⟩) hgb _).setCell (p := ⟨g, 11, none⟩) hgb _
  refine (hof.out _ _ _ _ (rd2.take hkc)).mono ?_
  rintro e w' ⟨rfl, rfl⟩
  have own3 := (own2.set hZl.out 10 (x := S / 256) (u8_inr (by omega))).set (by rw [List.length_set]; exact hZl.out) 11 (x := S % 256) (u8_inr (by omega))
  rw [← hX.out] at own3
  replace hSw := hSw.out
  go_wp2
  go_ret
  refine ⟨_, rfl, ?_, ?_⟩
  ·exact own3
  ·exact (bel2.setCell (p := ⟨g, 10, none⟩) hgb _).setCell (p := ⟨g, 11, none⟩) hgb _
variable {α : Type} {P : Program} {cs : α → List Value} {sz : Nat}
end Go.Proofs.YtbichbdcibchlaaGreat
