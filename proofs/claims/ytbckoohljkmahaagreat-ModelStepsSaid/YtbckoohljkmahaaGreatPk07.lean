/- Contracts and plain facts. -/
import Derived.Test.YtbckoohljkmahaaGreatPk06
import Derived.Test.YtbckoohljkmahaaGreatPk05
namespace Go.Proofs.YtbckoohljkmahaaGreat
set_option linter.unusedVariables false
set_option linter.unusedSimpArgs false
set_option maxRecDepth 100000
set_option maxHeartbeats 16000000
open Go.RowKit
def fixN (l : List Int) : Nat := if l.getD 0 0 % 16 * 4 < 20 ∨ (l.length : Int) < l.getD 0 0 % 16 * 4 then 20 else (l.getD 0 0 % 16 * 4).toNat
def fixZ (l : List Int) : List Int := (l.set 10 0).set 11 0
def fixL (l : List Int) : List Int := ((fixZ l).set 10 (sumOf ((fixZ l).take (fixN l)) / 256)).set 11 (sumOf ((fixZ l).take (fixN l)) % 256)
theorem fixL_len (l : List Int) : (fixL l).length = l.length := by simp [fixL, fixZ]
def FixRes (w : World) (l : List Int) (e : Ending) (w' : World) : Prop := ∃ v', e = .returned v' ∧ Own .u8 5 w' w.heap.size v' l ∧ Below w.heap.size w w'
theorem rHFix_any (l : List Int) (A : Option Addr) (len c B : Nat) (w : World) (hr : Rd .u8 w B A len l) (hB : B ≤ w.heap.size) (h20 : 20 ≤ len) (hl : len ≤ 100000) :
  Calls Tryz.prog 38 #[.slice A len c] w (FixRes w (fixL l)) := by
 obtain ⟨i0, hi, hz0, hz1, hz2⟩ := info_parts info_u8_
 have hr2 := ((hr.more hB).alloc (Nat.le_refl _) (.cells #[] 5)).more (Nat.le_succ _)
 have hlen := hr.len
 have own0 := Own.new .u8 w 5 w.heap.size (Nat.le_refl _) [] (by simp) #[] rfl 0 rfl (by simp)
 have hcs : (l.getD 0 0 % 16 * 4 < 20 ∧ fixN l = 20) ∨ (20 ≤ l.getD 0 0 % 16 * 4 ∧ (len : Int) < l.getD 0 0 % 16 * 4 ∧ fixN l = 20) ∨ (20 ≤ l.getD 0 0 % 16 * 4 ∧ l.getD 0 0 % 16 * 4 ≤ len ∧ ((fixN l : Nat) : Int) = l.getD 0 0 % 16 * 4) := by
  unfold fixN; rw [hlen]
  by_cases h1 : l.getD 0 0 % 16 * 4 < 20
  ·rw [if_pos (.inl h1)]; exact .inl ⟨h1, rfl⟩
  ·by_cases h2 : (len : Int) < l.getD 0 0 % 16 * 4
   ·rw [if_pos (.inr h2)]; exact .inr (.inl ⟨by omega, h2, rfl⟩)
   ·rw [if_neg (by omega)]; exact .inr (.inr ⟨by omega, by omega, by omega⟩)
 have hk20 : 20 ≤ fixN l ∧ fixN l ≤ len := by omega
 have hX : Hid (fixL l = ((fixZ l).set 10 (sumOf ((fixZ l).take (fixN l)) / 256)).set 11 (sumOf ((fixZ l).take (fixN l)) % 256)) := rfl
 have hZ : Hid (fixZ l = (l.set 10 0).set 11 0) := rfl
 generalize fixL l = X at *
 generalize fixN l = k at *
 generalize fixZ l = Z at *
 have hZl : Hid (Z.length = len) := Lib.hid (by rw [hZ.out]; simp [hlen])
 have hsb : 0 ≤ sumOf (Z.take k) ∧ sumOf (Z.take k) ≤ 65535 := by
  refine sumOf_bd fun x hx => ?_
  have := List.mem_of_mem_take hx
  rw [hZ.out] at this
  rcases List.mem_or_eq_of_mem_set this with h | h
  ·rcases List.mem_or_eq_of_mem_set h with h | h
   ·exact inr_u8 (hr.rng x h)
   ·omega
  ·omega
 obtain ⟨S, hS⟩ : ∃ S, S = sumOf (Z.take k) := ⟨_, rfl⟩
 rw [← hS] at hX hsb
 have hof := fun W' A' c' B' h => rOf_any (Z.take k) A' k c' B' W' (by omega) h
 rw [← hS] at hof
 replace hof := Lib.hid hof
 have hSw : IntKind.u8.wrap S = S % 256 := IntKind.wrap_u8' S
 replace hSw := Lib.hid hSw
 clear hS
 replace hlen := Lib.hid hlen
 obtain ⟨f0, hf0⟩ : ∃ f, f = l.getD 0 0 := ⟨_, rfl⟩
 rw [← hf0] at hcs
 have x0 : 0 ≤ f0 ∧ f0 ≤ 255 := by rw [hf0]; exact inr_u8 (hr.at_ (j := 0) (by omega)).choose_spec.choose_spec.2.2.2
 replace hf0 := Lib.hid hf0
 have hkc : k ≤ len := hk20.2
 have hkI : (0 : Int) ≤ (k : Int) := by omega
 rcases hcs with ⟨h1, rfl⟩ | ⟨h1, h2, rfl⟩ | ⟨h1, h2, h3⟩
 ·go_enter Tryz.func38, Tryz.ntmps38
  go_wp2_with (at_builtin; refine wpList_app _ rfl (.tmp 6) (.tmp 7) 22 rfl .u8 w.heap.size 5 i0 (.int .u8 0) 1 Tryz.underlying22 hi hz0 hz1 hz2 rfl (.slice (some ⟨w.heap.size, 0, none⟩) 0 0) rfl [] own0 (w.heap.size + 1) _ _ _ rfl l hr2 (by simp; omega) (by decide) (by simp) ?_; intro v1 w1 own1 hg1 _; rw [List.nil_append] at own1; obtain ⟨g, c1, rfl, hc1, hc2, hgb, hgw⟩ := own1.formG hlen.out (by omega); have bel1 : Below w.heap.size w w1 := ((Below.refl _ _).alloc (Nat.le_refl _) _).grown hg1 (by simp) (fun k h => by simp [Value.ownBlock] at h; omega); clear hg1; obtain ⟨k0, _, _⟩ := own1.at_ hlen.out (j := 0) (by omega); obtain ⟨k10, z10, _⟩ := own1.at_ hlen.out (j := 10) (by omega); obtain ⟨k11, z11, _⟩ := own1.at_ hlen.out (j := 11) (by omega); rw [← hf0.out] at k0; unfold maxLen at hc2; have hkc1 : 20 ≤ c1 := (by omega))
  have own2 := (own1.set hlen.out 10 (x := 0) (u8_inr (by omega))).set (by rw [List.length_set]; exact hlen.out) 11 (x := 0) (u8_inr (by omega))
  rw [← hZ.out] at own2
  have rd2 := own2.rd hZl.out
  have bel2 : Below w.heap.size w ((w1.setCell ⟨g, 10, none⟩ (.int .u8 0)).setCell ⟨g, 11, none⟩ (.int .u8 0)) := (bel1.setCell (p := ⟨g, 10, none⟩) hgb _).setCell (p := ⟨g, 11, none⟩) hgb _
  refine (hof.out _ _ _ _ (rd2.take hkc)).mono ?_
  rintro e w' ⟨rfl, rfl⟩
  have own3 := (own2.set hZl.out 10 (x := S / 256) (u8_inr (by omega))).set (by rw [List.length_set]; exact hZl.out) 11 (x := S % 256) (u8_inr (by omega))
  rw [← hX.out] at own3
  replace hSw := hSw.out
  go_wp2
  go_ret
  refine ⟨_, rfl, ?_, ?_⟩
  ·exact own3
  ·exact (bel2.setCell (p := ⟨g, 10, none⟩) hgb _).setCell (p := ⟨g, 11, none⟩) hgb _
 ·go_enter Tryz.func38, Tryz.ntmps38
  go_wp2_with (at_builtin; refine wpList_app _ rfl (.tmp 6) (.tmp 7) 22 rfl .u8 w.heap.size 5 i0 (.int .u8 0) 1 Tryz.underlying22 hi hz0 hz1 hz2 rfl (.slice (some ⟨w.heap.size, 0, none⟩) 0 0) rfl [] own0 (w.heap.size + 1) _ _ _ rfl l hr2 (by simp; omega) (by decide) (by simp) ?_; intro v1 w1 own1 hg1 _; rw [List.nil_append] at own1; obtain ⟨g, c1, rfl, hc1, hc2, hgb, hgw⟩ := own1.formG hlen.out (by omega); have bel1 : Below w.heap.size w w1 := ((Below.refl _ _).alloc (Nat.le_refl _) _).grown hg1 (by simp) (fun k h => by simp [Value.ownBlock] at h; omega); clear hg1; obtain ⟨k0, _, _⟩ := own1.at_ hlen.out (j := 0) (by omega); obtain ⟨k10, z10, _⟩ := own1.at_ hlen.out (j := 10) (by omega); obtain ⟨k11, z11, _⟩ := own1.at_ hlen.out (j := 11) (by omega); rw [← hf0.out] at k0; unfold maxLen at hc2; have hkc1 : 20 ≤ c1 := (by omega))
  have own2 := (own1.set hlen.out 10 (x := 0) (u8_inr (by omega))).set (by rw [List.length_set]; exact hlen.out) 11 (x := 0) (u8_inr (by omega))
  rw [← hZ.out] at own2
  have rd2 := own2.rd hZl.out
  have bel2 : Below w.heap.size w ((w1.setCell ⟨g, 10, none⟩ (.int .u8 0)).setCell ⟨g, 11, none⟩ (.int .u8 0)) := (bel1.setCell (p := ⟨g, 10, none⟩) hgb _).setCell (p := ⟨g, 11, none⟩) hgb _
  refine (hof.out _ _ _ _ (rd2.take hkc)).mono ?_
  rintro e w' ⟨rfl, rfl⟩
  have own3 := (own2.set hZl.out 10 (x := S / 256) (u8_inr (by omega))).set (by rw [List.length_set]; exact hZl.out) 11 (x := S % 256) (u8_inr (by omega))
  rw [← hX.out] at own3
  replace hSw := hSw.out
  go_wp2
  go_ret
  refine ⟨_, rfl, ?_, ?_⟩
  ·exact own3
  ·exact (bel2.setCell (p := ⟨g, 10, none⟩) hgb _).setCell (p := ⟨g, 11, none⟩) hgb _
 ·replace h3 := h3.symm
  go_enter Tryz.func38, Tryz.ntmps38
  go_wp2_with (at_builtin; refine wpList_app _ rfl (.tmp 6) (.tmp 7) 22 rfl .u8 w.heap.size 5 i0 (.int .u8 0) 1 Tryz.underlying22 hi hz0 hz1 hz2 rfl (.slice (some ⟨w.heap.size, 0, none⟩) 0 0) rfl [] own0 (w.heap.size + 1) _ _ _ rfl l hr2 (by simp; omega) (by decide) (by simp) ?_; intro v1 w1 own1 hg1 _; rw [List.nil_append] at own1; obtain ⟨g, c1, rfl, hc1, hc2, hgb, hgw⟩ := own1.formG hlen.out (by omega); have bel1 : Below w.heap.size w w1 := ((Below.refl _ _).alloc (Nat.le_refl _) _).grown hg1 (by simp) (fun k h => by simp [Value.ownBlock] at h; omega); clear hg1; obtain ⟨k0, _, _⟩ := own1.at_ hlen.out (j := 0) (by omega); obtain ⟨k10, z10, _⟩ := own1.at_ hlen.out (j := 10) (by omega); obtain ⟨k11, z11, _⟩ := own1.at_ hlen.out (j := 11) (by omega); rw [← hf0.out] at k0; unfold maxLen at hc2; have hkc1 : k ≤ c1 := (by omega))
  have own2 := (own1.set hlen.out 10 (x := 0) (u8_inr (by omega))).set (by rw [List.length_set]; exact hlen.out) 11 (x := 0) (u8_inr (by omega))
  rw [← hZ.out] at own2
  have rd2 := own2.rd hZl.out
  have bel2 : Below w.heap.size w ((w1.setCell ⟨g, 10, none⟩ (.int .u8 0)).setCell ⟨g, 11, none⟩ (.int .u8 0)) := (bel1.setCell (p := ⟨g, 10, none⟩) hgb _).setCell (p := ⟨g, 11, none⟩) hgb _
  refine (hof.out _ _ _ _ (rd2.take hkc)).mono ?_
  rintro e w' ⟨rfl, rfl⟩
  have own3 := (own2.set hZl.out 10 (x := S / 256) (u8_inr (by omega))).set (by rw [List.length_set]; exact hZl.out) 11 (x := S % 256) (u8_inr (by omega))
  rw [← hX.out] at own3
  replace hSw := hSw.out
  go_wp2
  go_ret
  refine ⟨_, rfl, ?_, ?_⟩
  ·exact own3
  ·exact (bel2.setCell (p := ⟨g, 10, none⟩) hgb _).setCell (p := ⟨g, 11, none⟩) hgb _
def Bw (W : World) (base g n c : Nat) (X : List Int) : Prop :=
 Own .u8 5 W base (.slice (some ⟨g, 0, none⟩) n c) X ∧ X.length = n ∧ base ≤ g ∧ n ≤ 60000
theorem Bw.bel {W W' : World} {base g n c : Nat} {X : List Int} (h : Bw W base g n c X) (hb : Below W.heap.size W W') : Bw W' base g n c X := ⟨h.1.below hb, h.2⟩
theorem Bw.bd {W : World} {base g n c : Nat} {X : List Int} (h : Bw W base g n c X) : ∀ x, x ∈ X → 0 ≤ x ∧ x ≤ 255 := fun x hx => inr_u8 (h.1.rng x hx)
theorem Bw.len {W : World} {base g n c : Nat} {X : List Int} (h : Bw W base g n c X) : X.length = n := h.2.1
theorem dget_any (base g n c : Nat) (X : List Int) (i : Nat) (W : World) (h : Bw W base g n c X) (hi : i + 2 ≤ n) :
  Calls Tryz.prog 111 #[(.slice (some ⟨g, 0, none⟩) n c), .int .i64 i] W fun e w' => e = .returned (.int .u16 (n2 X i)) ∧ Below W.heap.size W w' := by
 obtain ⟨ho, hX, _, hn⟩ := h
 obtain ⟨c0, _, x0⟩ := ho.at_ hX (j := i) (by omega)
 obtain ⟨c1, _, x1⟩ := ho.at_ hX (j := i + 1) (by omega)
 rw [n2_eq _ _ (by omega)]
 replace x0 := inr_u8 x0
 replace x1 := inr_u8 x1
 generalize X.getD i 0 = a at *
 generalize X.getD (i + 1) 0 = b at *
 have hor := u16_shl_or_ a b x0 x1
 obtain ⟨i1, hj⟩ : ∃ i1, i + 1 = i1 := ⟨_, rfl⟩
 have hi1 : (i : Int) + 1 = (i1 : Int) := by omega
 have k0 : (0 : Int) ≤ (i : Int) := by omega
 have k1 : (i : Int) < (n : Int) := by omega
 have k2 : (0 : Int) ≤ (i1 : Int) := by omega
 have k3 : (i1 : Int) < (n : Int) := by omega
 rw [hj] at c1
 clear hj
 clear ho hX
 go_enter Tryz.func111, Tryz.ntmps111
 go_upto_region 1 with fail
 have F1 : ∀ t : Tw (fun w' => Below W.heap.size W w'), t.w.cell? ⟨g, i, none⟩ = some (.int .u8 a) := fun t => (t.h.cell (p := ⟨g, i, none⟩) (cell_lt c0)).trans c0
 have F2 : ∀ t : Tw (fun w' => Below W.heap.size W w'), t.w.cell? ⟨g, i1, none⟩ = some (.int .u8 b) := fun t => (t.h.cell (p := ⟨g, i1, none⟩) (cell_lt c1)).trans c1
 have : Nonempty (Tw (fun w' => Below W.heap.size W w')) := ⟨⟨_, Below.refl _ _⟩⟩
 clear c0 c1
 refine region_tw (fun w' => Below (W).heap.size (W) w') (by kernel_rfl) (by kernel_rfl) (Below.refl _ _).drew ?_
 unfold clsS
 repeat (first
  | go_big_quiet_skip
  | (go_big_quiet_want; go_big_quiet_op; first | go_big_quiet_on | go_big_quiet_call (
   (first |(fail)))))
 refine wpQuiet_nil ?_
 intro tq
 go_wp2
 go_ret
 exact ⟨rfl, tq.h⟩
theorem dset_any (base g n c : Nat) (X : List Int) (i : Nat) (v : Int) (W : World) (h : Bw W base g n c X) (hi : i + 2 ≤ n) (hv : 0 ≤ v ∧ v ≤ 65535) :
  Calls Tryz.prog 90 #[(.slice (some ⟨g, 0, none⟩) n c), .int .i64 i, .int .u16 v] W fun e w' => e = .returned (.tuple #[]) ∧ Bw w' base g n c (put2 X i v) ∧ Upd (fun k => k = g) W w' := by
 obtain ⟨ho, hX, hg, hn⟩ := h
 obtain ⟨c0, f0, x0⟩ := ho.at_ hX (j := i) (by omega)
 have ho2 := ho.set hX i (x := v / 256) (u8_inr (by omega))
 have hX2 : (X.set i (v / 256)).length = n := by rw [List.length_set]; exact hX
 have ho3 := ho2.set hX2 (i + 1) (x := v % 256) (u8_inr (by omega))
 have hX3 : (put2 X i v).length = n := by rw [put2_len]; exact hX
 obtain ⟨c1, f1, x1⟩ := ho2.at_ hX2 (j := i + 1) (by omega)
 obtain ⟨i1, hj⟩ : ∃ i1, i + 1 = i1 := ⟨_, rfl⟩
 have hi1 : (i : Int) + 1 = (i1 : Int) := by omega
 have k0 : (0 : Int) ≤ (i : Int) := by omega
 have k1 : (i : Int) < (n : Int) := by omega
 have k2 : (0 : Int) ≤ (i1 : Int) := by omega
 have k3 : (i1 : Int) < (n : Int) := by omega
 unfold put2 at hX3 ⊢
 rw [hj] at c1 f1 ho3 hX3 ⊢
 have hu := ((Upd.refl (fun k => k = g) W).setCell (p := ⟨g, i, none⟩) (fun _ => rfl) (.int .u8 (v / 256))).setCell (p := ⟨g, i1, none⟩) (fun _ => rfl) (.int .u8 (v % 256))
 clear hj ho ho2
 go_enter Tryz.func90, Tryz.ntmps90
 go_wp2_with fail
 go_end0
 exact ⟨rfl, ⟨ho3, hX3, hg, hn⟩, hu⟩
def DStep (W : World) (base g n c : Nat) (Y : List Int) (r : Value) (e : Ending) (w' : World) : Prop := e = .returned r ∧ Bw w' base g n c Y ∧ Upd (fun k => k = g) W w'
theorem dwide_any (s o n : Int) (w : World) (hs : 0 ≤ s ∧ s ≤ 65535) (ho : 0 ≤ o ∧ o ≤ 4294967295) (hn : 0 ≤ n ∧ n ≤ 4294967295) :
  Calls Tryz.prog 112 #[.int .u16 s, .int .u32 o, .int .u32 n] w fun e w' => e = .returned (.int .u16 (fixW s o n)) ∧ w = w' := by
 unfold fixW
 have hb := fixOf_bd hs (o := o / 65536) (n := n / 65536) (by omega) (by omega)
 have hw1 := IntKind.wrap_u16 o
 have hw2 := IntKind.wrap_u16 n
 go_enter Tryz.func112, Tryz.ntmps112
 go_wp2_with (go_at_call 113; refine (rFix_any _ _ _ _ (by omega) (by omega) (by omega)).mono ?_; rintro e w' ⟨rfl, rfl⟩)
 go_ret
 exact ⟨rfl, rfl⟩
theorem daddr_any (base g n c : Nat) (X : List Int) (h0 p : Nat) (v : Int) (W : World) (h : Bw W base g n c X) (hi : h0 + 12 ≤ n) (hp : p + 4 ≤ n) (hv : 0 ≤ v ∧ v ≤ 4294967295) :
  Calls Tryz.prog 87 #[(.slice (some ⟨g, 0, none⟩) n c), .int .i64 h0, .int .i64 p, .int .u32 v] W (DStep W base g n c (put2 (put4 X p v) (h0 + 10) (fixW (n2 (put4 X p v) (h0 + 10)) (n4 X p) v)) (.int .u32 (n4 X p))) := by
 unfold DStep
 have hl := h.len
 have hn : n ≤ 60000 := h.2.2.2
 have a1 := n2_bd h.bd (i := p) (by omega)
 have a2 := n2_bd h.bd (i := p + 2) (by omega)
 have a4 := n4_bd h.bd (i := p) (by omega)
 have hY8 : ∀ x, x ∈ put4 X p v → 0 ≤ x ∧ x ≤ 255 := put2_bd (put2_bd h.bd p (v := v / 65536) (by omega)) (p + 2) (v := v % 65536) (by omega)
 have a3 := n2_bd hY8 (i := h0 + 10) (by rw [put4_len]; omega)
 have hor := or32_ (n2 X p) (n2 X (p + 2)) a1 a2
 rw [n4_of (by omega)] at hor
 have hfx := fixW_bd a3 a4 hv
 have g1 := fun W' (hb : Below W.heap.size W W') => dget_any base g n c X p W' (h.bel hb) (by omega)
 have g2 := fun W' (hb : Below W.heap.size W W') => dget_any base g n c X (p + 2) W' (h.bel hb) (by omega)
 have g3 := fun W' (hb : Below W.heap.size W W') => dset_any base g n c X p (v / 65536) W' (h.bel hb) (by omega) (by omega)
 have g4 := fun W' (h' : Bw W' base g n c (put2 X p (v / 65536))) => dset_any base g n c _ (p + 2) (v % 65536) W' h' (by omega) (by omega)
 have g5 := fun W' (h' : Bw W' base g n c (put4 X p v)) => dget_any base g n c _ (h0 + 10) W' h' (by omega)
 have g6 := fun W' => dwide_any (n2 (put4 X p v) (h0 + 10)) (n4 X p) v W' a3 a4 hv
 have g7 := fun W' (h' : Bw W' base g n c (put4 X p v)) => dset_any base g n c _ (h0 + 10) (fixW (n2 (put4 X p v) (h0 + 10)) (n4 X p) v) W' h' (by omega) hfx
 unfold put4 at g5 g6 g7 a3 hfx ⊢
 generalize n4 X p = N at *
 generalize n2 X p = x0 at *
 obtain ⟨j, hj⟩ : ∃ j, p + 2 = j := ⟨_, rfl⟩
 have hj2 : (p : Int) + 2 = (j : Int) := by omega
 obtain ⟨q, hq⟩ : ∃ q, h0 + 10 = q := ⟨_, rfl⟩
 have hq2 : (h0 : Int) + 10 = (q : Int) := by omega
 rw [hj] at g2 g4 g5 g6 g7 a2 a3 hor hfx ⊢
 rw [hq] at g5 g6 g7 a3 hfx ⊢
 generalize n2 X j = x1 at *
 generalize n2 (put2 (put2 X p (v / 65536)) j (v % 65536)) q = s0 at *
 generalize fixW s0 N v = S at *
 have p6 : (p : Int) ≤ 60000 := by omega
 have h6 : (h0 : Int) ≤ 60000 := by omega
 have hwv := IntKind.wrap_u16 v
 clear hj hq hi hp hY8 hl
 replace g1 := Lib.hid g1
 replace g2 := Lib.hid g2
 replace g3 := Lib.hid g3
 replace g4 := Lib.hid g4
 replace g5 := Lib.hid g5
 replace g6 := Lib.hid g6
 replace g7 := Lib.hid g7
 go_enter Tryz.func87, Tryz.ntmps87
 go_wp2_with fail
 refine (g1.out _ (Below.refl _ _)).mono ?_
 rintro e w1 ⟨rfl, b1⟩
 go_wp2_with fail
 refine (g2.out _ b1).mono ?_
 rintro e w2 ⟨rfl, b2⟩
 replace b2 := bel_after b1 b2
 go_wp2_with fail
 refine (g3.out _ b2).mono ?_
 rintro e w3 ⟨rfl, h3, u3⟩
 go_wp2_with fail
 refine (g4.out _ h3).mono ?_
 rintro e w4 ⟨rfl, h4, u4⟩
 go_wp2_with fail
 refine (g5.out _ h4).mono ?_
 rintro e w5 ⟨rfl, b5⟩
 go_wp2_with fail
 refine (g6.out _).mono ?_
 rintro e w6 ⟨rfl, rfl⟩
 go_wp2_with fail
 refine (g7.out _ (h4.bel b5)).mono ?_
 rintro e w7 ⟨rfl, h7, u7⟩
 go_wp2_with fail
 go_ret
 exact ⟨rfl, h7, ((((Upd.of_below b2 _).trans u3).trans u4).trans (Upd.of_below b5 _)).trans u7⟩
theorem echoW_eq {X : List Int} {i : Nat} {v : Int} (hi : i + 6 ≤ X.length) : put2 (put2 X (i + 4) v) (i + 2) (nevS (fixOf (n2 X (i + 2)) (n2 X (i + 4)) v)) = echoW X i v := by
 unfold echoW echoS
 rw [n2_put2_ne (i := i + 4) (j := i + 2) (.inr (by omega)) (by omega)]
theorem decho_any (base g n c : Nat) (X : List Int) (i : Nat) (v : Int) (W : World) (h : Bw W base g n c X) (hi : i + 6 ≤ n) (hv : 0 ≤ v ∧ v ≤ 65535) :
  Calls Tryz.prog 88 #[(.slice (some ⟨g, 0, none⟩) n c), .int .i64 i, .int .u16 v] W (DStep W base g n c (echoW X i v) (.tuple #[])) := by
 have hl := h.len
 rw [← echoW_eq (by omega)]
 unfold DStep
 have hn : n ≤ 60000 := h.2.2.2
 have a1 := n2_bd h.bd (i := i + 2) (by omega)
 have a2 := n2_bd h.bd (i := i + 4) (by omega)
 have f1 := fixOf_bd a1 a2 hv
 have f2 := nevS_bd f1
 have g1 := fun W' (hb : Below W.heap.size W W') => dget_any base g n c X (i + 2) W' (h.bel hb) (by omega)
 have g2 := fun W' (hb : Below W.heap.size W W') => dget_any base g n c X (i + 4) W' (h.bel hb) (by omega)
 have g3 := fun W' => rFix_any (n2 X (i + 2)) (n2 X (i + 4)) v W' a1 a2 hv
 have g4 := fun W' (hb : Below W.heap.size W W') => dset_any base g n c X (i + 4) v W' (h.bel hb) (by omega) hv
 have g5 := fun W' (h' : Bw W' base g n c (put2 X (i + 4) v)) => dset_any base g n c _ (i + 2) (nevS (fixOf (n2 X (i + 2)) (n2 X (i + 4)) v)) W' h' (by omega) f2
 obtain ⟨j, hj⟩ : ∃ j, i + 2 = j := ⟨_, rfl⟩
 have hj2 : (i : Int) + 2 = (j : Int) := by omega
 obtain ⟨q, hq⟩ : ∃ q, i + 4 = q := ⟨_, rfl⟩
 have hq2 : (i : Int) + 4 = (q : Int) := by omega
 rw [hj] at g1 g3 g5 f1 f2 a1 ⊢
 rw [hq] at g2 g3 g4 g5 f1 f2 a2 ⊢
 generalize n2 X j = x0 at *
 generalize n2 X q = x1 at *
 generalize fixOf x0 x1 v = s at *
 obtain ⟨S, hS⟩ : ∃ S, nevS s = S := ⟨_, rfl⟩
 rw [hS] at g5 f2 ⊢
 unfold nevS at hS
 have i6 : (i : Int) ≤ 60000 := by omega
 clear hj hq hi hl
 replace hS := Lib.hid hS
 replace g1 := Lib.hid g1
 replace g2 := Lib.hid g2
 replace g3 := Lib.hid g3
 replace g4 := Lib.hid g4
 replace g5 := Lib.hid g5
 go_enter Tryz.func88, Tryz.ntmps88
 go_wp2_with fail
 refine (g1.out _ (Below.refl _ _)).mono ?_
 rintro e w1 ⟨rfl, b1⟩
 go_wp2_with fail
 refine (g2.out _ b1).mono ?_
 rintro e w2 ⟨rfl, b2⟩
 replace b2 := bel_after b1 b2
 go_wp2_with fail
 refine (g3.out _).mono ?_
 rintro e w3 ⟨rfl, rfl⟩
 go_wp2_with fail
 refine (g4.out _ b2).mono ?_
 rintro e w4 ⟨rfl, h4, u4⟩
 by_cases hs : s = 0
 ·have d1 : (s == 0) = true := by simpa using hs
  have hS2 := hS.out
  rw [if_pos hs] at hS2
  subst hS2
  clear hs hS
  go_wp2_with fail
  refine (g5.out _ h4).mono ?_
  rintro e w5 ⟨rfl, h5, u5⟩
  go_wp2_with fail
  go_end0
  exact ⟨rfl, h5, ((Upd.of_below b2 _).trans u4).trans u5⟩
 ·have d1 : (s == 0) = false := by simpa using hs
  have hS2 := hS.out
  rw [if_neg hs] at hS2
  subst hS2
  clear hs hS
  go_wp2_with fail
  refine (g5.out _ h4).mono ?_
  rintro e w5 ⟨rfl, h5, u5⟩
  go_wp2_with fail
  go_end0
  exact ⟨rfl, h5, ((Upd.of_below b2 _).trans u4).trans u5⟩
theorem put2_put2 (l : List Int) (i : Nat) (u v : Int) : put2 (put2 l i u) i v = put2 l i v := by
 unfold put2
 rw [List.set_comm _ _ (show i ≠ i + 1 by omega), List.set_set, List.set_comm _ _ (show i + 1 ≠ i by omega), List.set_set]
def carE (Y : List Int) (n q : Nat) (udp : Bool) (was port o a : Int) : List Int :=
 if n < q + 2 ∨ (udp = true ∧ n2 Y q = 0) then Y else put2 Y q (if udp = true ∧ fixOf (fixW (n2 Y q) o a) was port = 0 then 65535 else fixOf (fixW (n2 Y q) o a) was port)
theorem dcar_go (base g n c : Nat) (X : List Int) (i p q : Nat) (proto : Int) (src : Bool) (port o a : Int) (W : World) (h : Bw W base g n c X) (hi : i ≤ 50000) (hp : p + 2 ≤ n) (hq6 : q ≤ 60000) (hport : 0 ≤ port ∧ port ≤ 65535) (ho : 0 ≤ o ∧ o ≤ 4294967295) (ha : 0 ≤ a ∧ a ≤ 4294967295)
  (hpp : (if src then (i : Int) else (i : Int) + 2) = (p : Int)) (hqq : (if proto == 17 then (i : Int) + 6 else (i : Int) + 16) = (q : Int)) (Y : List Int) (hY : Y = put2 X p port) :
  Calls Tryz.prog 89 #[(.slice (some ⟨g, 0, none⟩) n c), .int .i64 i, .int .i64 proto, .bool src, .int .u16 port, .int .u32 o, .int .u32 a] W (DStep W base g n c (carE Y n q (proto == 17) (n2 X p) port o a) (.tuple #[])) := by
 have hl := h.len
 have hn : n ≤ 60000 := h.2.2.2
 have hb1 := n2_bd h.bd (i := p) (by omega)
 have hY8 : ∀ x, x ∈ Y → 0 ≤ x ∧ x ≤ 255 := by rw [hY]; exact put2_bd h.bd p hport
 have hYl : Y.length = n := by rw [hY, put2_len]; exact hl
 have cg1 := dget_any base g n c X p W h hp
 have cs1 : ∀ w1, Below W.heap.size W w1 → Calls Tryz.prog 90 #[(.slice (some ⟨g, 0, none⟩) n c), .int .i64 p, .int .u16 port] w1 fun e w' => e = .returned (.tuple #[]) ∧ Bw w' base g n c Y ∧ Upd (fun k => k = g) w1 w' := fun w1 h1 => by rw [hY]; exact dset_any base g n c X p port w1 (h.bel h1) hp hport
 generalize n2 X p = was at *
 clear hY hl h
 replace cg1 := Lib.hid cg1
 replace cs1 := Lib.hid cs1
 unfold DStep
 obtain ⟨Z, hZ⟩ : ∃ Z, carE Y n q (proto == 17) was port o a = Z := ⟨_, rfl⟩
 rw [hZ]
 unfold carE at hZ
 have i6 : (i : Int) ≤ 60000 := by omega
 by_cases hq : n < q + 2
 ·rw [if_pos (.inl hq)] at hZ
  subst hZ
  have d1 : decide ((n : Int) < (q : Int) + 2) = true := by simp; omega
  have q60 : (q : Int) ≤ 60000 := by omega
  cases hu : (proto == 17) with
  | true =>
   rw [hu] at hqq
   simp only [if_true] at hqq
   cases src with
   | true =>
    simp only [if_true] at hpp
    obtain rfl : p = i := by omega
    clear hpp
    go_enter Tryz.func89, Tryz.ntmps89
    go_wp2_with fail
    refine (cg1.out).mono ?_
    rintro e w1 ⟨rfl, b1⟩
    go_wp2_with fail
    refine (cs1.out w1 b1).mono ?_
    rintro e w2 ⟨rfl, h2, b2⟩
    replace b2 := (Upd.of_below b1 _).trans b2
    clear b1
    go_wp2_with fail
    exact bodyPost_ret (results_none (by rfl) _ _ _) rfl ⟨rfl, h2, b2⟩
   | false =>
    simp only [Bool.false_eq_true, if_false] at hpp
    go_enter Tryz.func89, Tryz.ntmps89
    go_wp2_with fail
    refine (cg1.out).mono ?_
    rintro e w1 ⟨rfl, b1⟩
    go_wp2_with fail
    refine (cs1.out w1 b1).mono ?_
    rintro e w2 ⟨rfl, h2, b2⟩
    replace b2 := (Upd.of_below b1 _).trans b2
    clear b1
    go_wp2_with fail
    exact bodyPost_ret (results_none (by rfl) _ _ _) rfl ⟨rfl, h2, b2⟩
  | false =>
   rw [hu] at hqq
   simp only [Bool.false_eq_true, if_false] at hqq
   cases src with
   | true =>
    simp only [if_true] at hpp
    obtain rfl : p = i := by omega
    clear hpp
    go_enter Tryz.func89, Tryz.ntmps89
    go_wp2_with fail
    refine (cg1.out).mono ?_
    rintro e w1 ⟨rfl, b1⟩
    go_wp2_with fail
    refine (cs1.out w1 b1).mono ?_
    rintro e w2 ⟨rfl, h2, b2⟩
    replace b2 := (Upd.of_below b1 _).trans b2
    clear b1
    go_wp2_with fail
    exact bodyPost_ret (results_none (by rfl) _ _ _) rfl ⟨rfl, h2, b2⟩
   | false =>
    simp only [Bool.false_eq_true, if_false] at hpp
    go_enter Tryz.func89, Tryz.ntmps89
    go_wp2_with fail
    refine (cg1.out).mono ?_
    rintro e w1 ⟨rfl, b1⟩
    go_wp2_with fail
    refine (cs1.out w1 b1).mono ?_
    rintro e w2 ⟨rfl, h2, b2⟩
    replace b2 := (Upd.of_below b1 _).trans b2
    clear b1
    go_wp2_with fail
    exact bodyPost_ret (results_none (by rfl) _ _ _) rfl ⟨rfl, h2, b2⟩
 ·have hq2 : q + 2 ≤ n := by omega
  have d1 : decide ((n : Int) < (q : Int) + 2) = false := by simp; omega
  have hz := n2_bd hY8 (i := q) (by omega)
  have hf := fixW_bd hz ho ha
  have hs := fixOf_bd hf hb1 hport
  have cz := fun w1 (h1 : Bw w1 base g n c Y) => dget_any base g n c Y q w1 h1 hq2
  have cw := fun w1 => dwide_any (n2 Y q) o a w1 hz ho ha
  have cx := fun w1 => rFix_any (fixW (n2 Y q) o a) was port w1 hf hb1 hport
  have cs := fun v (hv : 0 ≤ v ∧ v ≤ 65535) w1 (h1 : Bw w1 base g n c Y) => dset_any base g n c Y q v w1 h1 hq2 hv
  have q60 : (q : Int) ≤ 60000 := by omega
  generalize fixOf (fixW (n2 Y q) o a) was port = S at *
  generalize fixW (n2 Y q) o a = f at *
  generalize n2 Y q = z at *
  replace cz := Lib.hid cz
  replace cw := Lib.hid cw
  replace cx := Lib.hid cx
  clear hY8 hYl
  cases hu : (proto == 17) with
  | true =>
   rw [hu] at hqq hZ
   simp only [if_true] at hqq
   by_cases h0 : z = 0
   ·have d2 : (z == 0) = true := by simpa using h0
    rw [if_pos (.inr ⟨rfl, h0⟩)] at hZ
    subst hZ
    clear h0 cs
    cases src with
    | true =>
     simp only [if_true] at hpp
     obtain rfl : p = i := by omega
     clear hpp
     go_enter Tryz.func89, Tryz.ntmps89
     go_wp2_with fail
     refine (cg1.out).mono ?_
     rintro e w1 ⟨rfl, b1⟩
     go_wp2_with fail
     refine (cs1.out w1 b1).mono ?_
     rintro e w2 ⟨rfl, h2, b2⟩
     replace b2 := (Upd.of_below b1 _).trans b2
     clear b1
     go_wp2_with fail
     refine (cz.out _ h2).mono ?_
     rintro e w4 ⟨rfl, b4⟩
     replace b2 := b2.trans (Upd.of_below b4 _)
     replace h2 := h2.bel b4
     clear b4
     go_wp2_with fail
     exact bodyPost_ret (results_none (by rfl) _ _ _) rfl ⟨rfl, h2, b2⟩
    | false =>
     simp only [Bool.false_eq_true, if_false] at hpp
     go_enter Tryz.func89, Tryz.ntmps89
     go_wp2_with fail
     refine (cg1.out).mono ?_
     rintro e w1 ⟨rfl, b1⟩
     go_wp2_with fail
     refine (cs1.out w1 b1).mono ?_
     rintro e w2 ⟨rfl, h2, b2⟩
     replace b2 := (Upd.of_below b1 _).trans b2
     clear b1
     go_wp2_with fail
     refine (cz.out _ h2).mono ?_
     rintro e w4 ⟨rfl, b4⟩
     replace b2 := b2.trans (Upd.of_below b4 _)
     replace h2 := h2.bel b4
     clear b4
     go_wp2_with fail
     exact bodyPost_ret (results_none (by rfl) _ _ _) rfl ⟨rfl, h2, b2⟩
   have d2 : (z == 0) = false := by simpa using h0
   rw [if_neg (fun e => by rcases e with e | ⟨_, e⟩; exact hq e; exact h0 e)] at hZ
   by_cases h1 : S = 0
   ·have d3 : (S == 0) = true := by simpa using h1
    rw [if_pos ⟨rfl, h1⟩] at hZ
    have cs2 := cs 65535 (by omega)
    rw [hZ] at cs2
    replace cs2 := Lib.hid cs2
    clear h0 h1 cs hZ
    cases src with
    | true =>
     simp only [if_true] at hpp
     obtain rfl : p = i := by omega
     clear hpp
     go_enter Tryz.func89, Tryz.ntmps89
     go_wp2_with fail
     refine (cg1.out).mono ?_
     rintro e w1 ⟨rfl, b1⟩
     go_wp2_with fail
     refine (cs1.out w1 b1).mono ?_
     rintro e w2 ⟨rfl, h2, b2⟩
     replace b2 := (Upd.of_below b1 _).trans b2
     clear b1
     go_wp2_with fail
     refine (cz.out _ h2).mono ?_
     rintro e w4 ⟨rfl, b4⟩
     replace b2 := b2.trans (Upd.of_below b4 _)
     replace h2 := h2.bel b4
     clear b4
     go_wp2_with fail
     refine (cz.out _ h2).mono ?_
     rintro e w4 ⟨rfl, b4⟩
     replace b2 := b2.trans (Upd.of_below b4 _)
     replace h2 := h2.bel b4
     clear b4
     go_wp2_with fail
     refine (cw.out _).mono ?_
     rintro e w5 ⟨rfl, rfl⟩
     go_wp2_with fail
     refine (cx.out _).mono ?_
     rintro e w6 ⟨rfl, rfl⟩
     go_wp2_with fail
     refine (cs2.out _ h2).mono ?_
     rintro e w8 ⟨rfl, h8, b8⟩
     go_wp2_with fail
     go_end0
     exact ⟨rfl, h8, b2.trans b8⟩
    | false =>
     simp only [Bool.false_eq_true, if_false] at hpp
     go_enter Tryz.func89, Tryz.ntmps89
     go_wp2_with fail
     refine (cg1.out).mono ?_
     rintro e w1 ⟨rfl, b1⟩
     go_wp2_with fail
     refine (cs1.out w1 b1).mono ?_
     rintro e w2 ⟨rfl, h2, b2⟩
     replace b2 := (Upd.of_below b1 _).trans b2
     clear b1
     go_wp2_with fail
     refine (cz.out _ h2).mono ?_
     rintro e w4 ⟨rfl, b4⟩
     replace b2 := b2.trans (Upd.of_below b4 _)
     replace h2 := h2.bel b4
     clear b4
     go_wp2_with fail
     refine (cz.out _ h2).mono ?_
     rintro e w4 ⟨rfl, b4⟩
     replace b2 := b2.trans (Upd.of_below b4 _)
     replace h2 := h2.bel b4
     clear b4
     go_wp2_with fail
     refine (cw.out _).mono ?_
     rintro e w5 ⟨rfl, rfl⟩
     go_wp2_with fail
     refine (cx.out _).mono ?_
     rintro e w6 ⟨rfl, rfl⟩
     go_wp2_with fail
     refine (cs2.out _ h2).mono ?_
     rintro e w8 ⟨rfl, h8, b8⟩
     go_wp2_with fail
     go_end0
     exact ⟨rfl, h8, b2.trans b8⟩
   ·have d3 : (S == 0) = false := by simpa using h1
    rw [if_neg (fun e => h1 e.2)] at hZ
    have cs2 := cs S hs
    rw [hZ] at cs2
    replace cs2 := Lib.hid cs2
    clear h0 h1 cs hZ
    cases src with
    | true =>
     simp only [if_true] at hpp
     obtain rfl : p = i := by omega
     clear hpp
     go_enter Tryz.func89, Tryz.ntmps89
     go_wp2_with fail
     refine (cg1.out).mono ?_
     rintro e w1 ⟨rfl, b1⟩
     go_wp2_with fail
     refine (cs1.out w1 b1).mono ?_
     rintro e w2 ⟨rfl, h2, b2⟩
     replace b2 := (Upd.of_below b1 _).trans b2
     clear b1
     go_wp2_with fail
     refine (cz.out _ h2).mono ?_
     rintro e w4 ⟨rfl, b4⟩
     replace b2 := b2.trans (Upd.of_below b4 _)
     replace h2 := h2.bel b4
     clear b4
     go_wp2_with fail
     refine (cz.out _ h2).mono ?_
     rintro e w4 ⟨rfl, b4⟩
     replace b2 := b2.trans (Upd.of_below b4 _)
     replace h2 := h2.bel b4
     clear b4
     go_wp2_with fail
     refine (cw.out _).mono ?_
     rintro e w5 ⟨rfl, rfl⟩
     go_wp2_with fail
     refine (cx.out _).mono ?_
     rintro e w6 ⟨rfl, rfl⟩
     go_wp2_with fail
     refine (cs2.out _ h2).mono ?_
     rintro e w8 ⟨rfl, h8, b8⟩
     go_wp2_with fail
     go_end0
     exact ⟨rfl, h8, b2.trans b8⟩
    | false =>
     simp only [Bool.false_eq_true, if_false] at hpp
     go_enter Tryz.func89, Tryz.ntmps89
     go_wp2_with fail
     refine (cg1.out).mono ?_
     rintro e w1 ⟨rfl, b1⟩
     go_wp2_with fail
     refine (cs1.out w1 b1).mono ?_
     rintro e w2 ⟨rfl, h2, b2⟩
     replace b2 := (Upd.of_below b1 _).trans b2
     clear b1
     go_wp2_with fail
     refine (cz.out _ h2).mono ?_
     rintro e w4 ⟨rfl, b4⟩
     replace b2 := b2.trans (Upd.of_below b4 _)
     replace h2 := h2.bel b4
     clear b4
     go_wp2_with fail
     refine (cz.out _ h2).mono ?_
     rintro e w4 ⟨rfl, b4⟩
     replace b2 := b2.trans (Upd.of_below b4 _)
     replace h2 := h2.bel b4
     clear b4
     go_wp2_with fail
     refine (cw.out _).mono ?_
     rintro e w5 ⟨rfl, rfl⟩
     go_wp2_with fail
     refine (cx.out _).mono ?_
     rintro e w6 ⟨rfl, rfl⟩
     go_wp2_with fail
     refine (cs2.out _ h2).mono ?_
     rintro e w8 ⟨rfl, h8, b8⟩
     go_wp2_with fail
     go_end0
     exact ⟨rfl, h8, b2.trans b8⟩
  | false =>
   rw [hu] at hqq hZ
   simp only [Bool.false_eq_true, if_false] at hqq
   rw [if_neg (fun e => by rcases e with e | ⟨e, _⟩; exact hq e; exact absurd e (by decide)), if_neg (fun e => absurd e.1 (by decide))] at hZ
   have cs2 := cs S hs
   rw [hZ] at cs2
   replace cs2 := Lib.hid cs2
   clear cs hZ
   cases src with
   | true =>
    simp only [if_true] at hpp
    obtain rfl : p = i := by omega
    clear hpp
    go_enter Tryz.func89, Tryz.ntmps89
    go_wp2_with fail
    refine (cg1.out).mono ?_
    rintro e w1 ⟨rfl, b1⟩
    go_wp2_with fail
    refine (cs1.out w1 b1).mono ?_
    rintro e w2 ⟨rfl, h2, b2⟩
    replace b2 := (Upd.of_below b1 _).trans b2
    clear b1
    go_wp2_with fail
    refine (cz.out _ h2).mono ?_
    rintro e w4 ⟨rfl, b4⟩
    replace b2 := b2.trans (Upd.of_below b4 _)
    replace h2 := h2.bel b4
    clear b4
    go_wp2_with fail
    refine (cw.out _).mono ?_
    rintro e w5 ⟨rfl, rfl⟩
    go_wp2_with fail
    refine (cx.out _).mono ?_
    rintro e w6 ⟨rfl, rfl⟩
    go_wp2_with fail
    refine (cs2.out _ h2).mono ?_
    rintro e w8 ⟨rfl, h8, b8⟩
    go_wp2_with fail
    go_end0
    exact ⟨rfl, h8, b2.trans b8⟩
   | false =>
    simp only [Bool.false_eq_true, if_false] at hpp
    go_enter Tryz.func89, Tryz.ntmps89
    go_wp2_with fail
    refine (cg1.out).mono ?_
    rintro e w1 ⟨rfl, b1⟩
    go_wp2_with fail
    refine (cs1.out w1 b1).mono ?_
    rintro e w2 ⟨rfl, h2, b2⟩
    replace b2 := (Upd.of_below b1 _).trans b2
    clear b1
    go_wp2_with fail
    refine (cz.out _ h2).mono ?_
    rintro e w4 ⟨rfl, b4⟩
    replace b2 := b2.trans (Upd.of_below b4 _)
    replace h2 := h2.bel b4
    clear b4
    go_wp2_with fail
    refine (cw.out _).mono ?_
    rintro e w5 ⟨rfl, rfl⟩
    go_wp2_with fail
    refine (cx.out _).mono ?_
    rintro e w6 ⟨rfl, rfl⟩
    go_wp2_with fail
    refine (cs2.out _ h2).mono ?_
    rintro e w8 ⟨rfl, h8, b8⟩
    go_wp2_with fail
    go_end0
    exact ⟨rfl, h8, b2.trans b8⟩
theorem carE_eq {X : List Int} {n i : Nat} {udp src : Bool} {port o a : Int} (hX : X.length = n) (h8 : ∀ x, x ∈ X → 0 ≤ x ∧ x ≤ 255) (hport : 0 ≤ port ∧ port ≤ 65535) (ho : 0 ≤ o ∧ o ≤ 4294967295) (ha : 0 ≤ a ∧ a ≤ 4294967295) :
  carE (put2 X (portAt i src) port) n (sumAt i udp) udp (n2 X (portAt i src)) port o a = carW X i udp src port o a := by
 unfold carE carW
 rw [hX]
 by_cases hc : n < sumAt i udp + 2 ∨ (udp = true ∧ n2 (put2 X (portAt i src) port) (sumAt i udp) = 0)
 ·rw [if_pos hc, if_pos hc]
 ·rw [if_neg hc, if_neg hc, put2_put2]
  have hq : sumAt i udp + 2 ≤ (put2 X (portAt i src) port).length := by
   rw [put2_len]
   rcases Nat.lt_or_ge n (sumAt i udp + 2) with h | h
   ·exact absurd (.inl h) hc
   ·omega
  unfold carS
  rw [n2_put2 hq (fixW_bd (n2_bd (put2_bd h8 _ hport) hq) ho ha)]
theorem dcar_any (base g n c : Nat) (X : List Int) (i : Nat) (proto : Int) (src : Bool) (port o a : Int) (W : World) (h : Bw W base g n c X) (hi : i + 4 ≤ n) (hport : 0 ≤ port ∧ port ≤ 65535) (ho : 0 ≤ o ∧ o ≤ 4294967295) (ha : 0 ≤ a ∧ a ≤ 4294967295) (hn5 : n ≤ 50000) :
  Calls Tryz.prog 89 #[(.slice (some ⟨g, 0, none⟩) n c), .int .i64 i, .int .i64 proto, .bool src, .int .u16 port, .int .u32 o, .int .u32 a] W (DStep W base g n c (carW X i (proto == 17) src port o a) (.tuple #[])) := by
 rw [← carE_eq h.len h.bd hport ho ha]
 refine dcar_go base g n c X i (portAt i src) (sumAt i (proto == 17)) proto src port o a W h (by omega) ?_ ?_ hport ho ha ?_ ?_ _ rfl
 ·unfold portAt; split <;> omega
 ·unfold sumAt; split <;> omega
 ·unfold portAt; cases src <;> simp
 ·unfold sumAt; cases (proto == 17) <;> simp
end Go.Proofs.YtbckoohljkmahaaGreat
