/- Every input of SumWhole answers true, and reads behind the call as it read before. No condition. -/
import Derived.Test.YtdhpjdnbdeghdaaSumWalkB
import Derived.Test.YtdhpjdnbdeghdaaSumPlain2
import Derived.Test.YtdhpjdnbdeghdaaFrame
namespace Go.Proofs.Ytdhpjdnbdeghdaa
set_option linter.unusedVariables false
open Go.RowKit
/-- one bit of a byte turned -/
def flip (x m : Nat) : Nat := if x / 2 ^ m % 2 = 1 then x - 2 ^ m else x + 2 ^ m
theorem xor_bit : ∀ x : Fin 256, ∀ m : Fin 8, x.val ^^^ 2 ^ m.val = flip x.val m.val := by decide +kernel
theorem flip_bd : ∀ x : Fin 256, ∀ m : Fin 8, flip x.val m.val < 256 := by decide +kernel
theorem sb_set (l : List Int) (j : Nat) (x : Int) (hj : j < l.length) : ∀ h, sb h (l.set j x) = sb h l + (x - l.getD j 0) * (if (j % 2 = 0) = (h = true) then 256 else 1) := by
  induction l generalizing j with
  | nil => simp at hj
  | cons y l ih =>
    intro h
    cases j with
    | zero => cases h <;> simp [sb] <;> omega
    | succ j =>
      have := ih j (by simpa using hj)
      cases h
      · simp only [List.set_cons_succ, sb, this true, List.getD_cons_succ]; rcases Nat.mod_two_eq_zero_or_one j with e | e <;> simp [Nat.add_mod, e] <;> omega
      · simp only [List.set_cons_succ, sb, this false, List.getD_cons_succ]; rcases Nat.mod_two_eq_zero_or_one j with e | e <;> simp [Nat.add_mod, e] <;> omega
theorem sum_closed (a : List Int) (he : a.length % 2 = 0) (h : 0 ≤ sb true a) : ∃ q : Int, 0 < q ∧ sb true (a ++ [sumOf a / 256, sumOf a % 256]) = 65535 * q := by
  rw [sb_word a _ _ he]
  have h1 : sumOf a / 256 * 256 + sumOf a % 256 = sumOf a := by omega
  rw [h1]
  unfold sumOf
  generalize sb true a = A at *
  by_cases h0 : A = 0
  · subst h0; exact ⟨1, by omega, by decide⟩
  · have : fo A = (A - 1) % 65535 + 1 := by unfold fo; rw [if_neg h0]
    rw [this]; exact ⟨(A - 1) / 65535 + 1, by omega, by omega⟩
theorem sumOf_null (l : List Int) (q : Int) (hq : 0 < q) (h : sb true l = 65535 * q) : sumOf l = 0 := by
  unfold sumOf fo; rw [h, if_neg (by omega)]; omega
theorem sumOf_not (l : List Int) (q d : Int) (h0 : 0 ≤ sb true l) (h : sb true l = 65535 * q + d) (hd : d % 65535 ≠ 0) : sumOf l ≠ 0 := by
  unfold sumOf fo; rw [h] at h0 ⊢; split <;> omega
theorem flip_sum (l : List Int) (q : Int) (j m : Nat) (hj : j < l.length) (hm : m < 8) (hl : ∀ x, x ∈ l → 0 ≤ x ∧ x ≤ 255) (h : sb true l = 65535 * q) :
    sumOf (l.set j (flip (l.getD j 0).toNat m : Nat)) ≠ 0 := by
  have hx := hl (l.getD j 0) (by rw [List.getD_eq_getElem?_getD, List.getElem?_eq_getElem hj]; exact List.getElem_mem _)
  have hs := sb_set l j (flip (l.getD j 0).toNat m : Nat) hj true
  have h0 : 0 ≤ sb true (l.set j (flip (l.getD j 0).toNat m : Nat)) := (sb_bd _ (fun y hy => by
    rcases List.mem_or_eq_of_mem_set hy with h | h
    · exact hl y h
    · have := flip_bd ⟨(l.getD j 0).toNat, by omega⟩ ⟨m, hm⟩; simp only at this; omega) true).1
  refine sumOf_not _ q _ h0 (by rw [hs, h]) ?_
  obtain ⟨x, hxe⟩ : ∃ x : Nat, l.getD j 0 = x := ⟨(l.getD j 0).toNat, by omega⟩
  rw [hxe]
  have hd : ((flip (x : Int).toNat m : Nat) : Int) - x = 2 ^ m ∨ ((flip (x : Int).toNat m : Nat) : Int) - x = - 2 ^ m := by
    rw [Int.toNat_natCast]
    unfold flip
    split
    · rename_i h1
      have : 2 ^ m ≤ x := by
        rcases Nat.lt_or_ge x (2 ^ m) with h2 | h2
        · rw [Nat.div_eq_of_lt h2] at h1; simp at h1
        · exact h2
      right; push_cast [this]; omega
    · left; push_cast; omega
  have hm' : m = 0 ∨ m = 1 ∨ m = 2 ∨ m = 3 ∨ m = 4 ∨ m = 5 ∨ m = 6 ∨ m = 7 := by omega
  have hp : (2 : Int) ^ m = 1 ∨ (2 : Int) ^ m = 2 ∨ (2 : Int) ^ m = 4 ∨ (2 : Int) ^ m = 8 ∨ (2 : Int) ^ m = 16 ∨ (2 : Int) ^ m = 32 ∨ (2 : Int) ^ m = 64 ∨ (2 : Int) ^ m = 128 := by
    rcases hm' with rfl | rfl | rfl | rfl | rfl | rfl | rfl | rfl <;> simp
  split <;> omega
theorem xor_u8 (x : Int) (m : Nat) (hx : 0 ≤ x ∧ x ≤ 255) (hm : m < 8) : bits .xor .u8 x (2 ^ m % 256) = (flip x.toNat m : Nat) := by
  have h1 : (2 : Int) ^ m % 256 = ((2 ^ m : Nat) : Int) := by
    have : m = 0 ∨ m = 1 ∨ m = 2 ∨ m = 3 ∨ m = 4 ∨ m = 5 ∨ m = 6 ∨ m = 7 := by omega
    rcases this with rfl | rfl | rfl | rfl | rfl | rfl | rfl | rfl <;> rfl
  have h2 : 2 ^ m < 256 := by
    have : 2 ^ m ≤ 2 ^ 7 := Nat.pow_le_pow_right (by omega) (by omega)
    omega
  rw [h1, u8_xor x _ (by omega) (by omega) (by omega) (by omega), Int.toNat_natCast]
  have := xor_bit ⟨x.toNat, by omega⟩ ⟨m, hm⟩
  simp only at this
  rw [this]
set_option maxHeartbeats 400000 in
theorem SumWhole_walk (A : Option Addr) (len cap : Nat) (l : List Int) (bit : Int) (w : World) (hr : Rd .u8 w w.heap.size A len l) (hlc : len ≤ cap) (hm : cap ≤ maxLen) :
    Calls Try.prog 6 #[.slice A len cap, .int .i64 bit] w fun e w' => e = .returned (.bool true) ∧ Below w.heap.size w w' := by
  obtain ⟨i0, hi, hz0, hz1, hz2⟩ := info_parts info_u8
  unfold maxLen at hm
  obtain ⟨m0, hmn0, hm10, hm20⟩ := minc 200 (by omega) len
  obtain ⟨m, hmn, hm1, hm2, hme⟩ : ∃ m : Nat, (m0 : Int) / 2 * 2 = (m : Int) ∧ m ≤ len ∧ m ≤ 200 ∧ m % 2 = 0 := ⟨m0 / 2 * 2, by push_cast; rfl, by omega, by omega, by omega⟩
  replace hme := Lib.hid hme
  obtain ⟨kk, hkk, hkk1⟩ := modn bit (8 * (m + 2)) (by omega)
  obtain ⟨j, hj, hj1⟩ : ∃ j : Nat, (kk : Int) / 8 = (j : Int) ∧ j < m + 2 := ⟨kk / 8, by push_cast; rfl, by omega⟩
  obtain ⟨mm, hmm, hmm1⟩ : ∃ mm : Nat, (kk : Int) % 8 = (mm : Int) ∧ mm < 8 := ⟨kk % 8, by push_cast; rfl, by omega⟩
  have hr2 := ((hr.take hm1).alloc (Nat.le_refl _) (.cells #[] 5)).more (Nat.le_succ _)
  have hlm : (l.take m).length = m := by rw [List.length_take, hr.len]; omega
  obtain ⟨L, hL⟩ : ∃ L, L = l.take m := ⟨_, rfl⟩
  rw [← hL] at hr2 hlm
  clear hL hr
  replace hlm := Lib.hid hlm
  have hown := Own.new .u8 w 5 w.heap.size (Nat.le_refl _) [] (by simp) #[] rfl 0 rfl (by simp)
  go_enter Try.func6, Try.ntmps6
  go_wp2_with (at_builtin; refine wpList_app _ rfl (.tmp 7) (.tmp 14) 22 rfl .u8 w.heap.size 5 i0 (.int .u8 0) 1 Try.underlying22 hi hz0 hz1 hz2 rfl (.slice (some ⟨w.heap.size, 0, none⟩) 0 0) rfl [] hown (w.heap.size + 1) _ _ _ rfl L hr2 (by simp; omega) (by decide) (by simp) ?_; intro v1 w1 own1 hg1 _; rw [List.nil_append] at own1; obtain ⟨A1, c1, rfl, hc1, hc2, rd1⟩ := own1.form hlm.out; have bel1 : Below w.heap.size w w1 := ((Below.refl _ _).alloc (Nat.le_refl _) _).grown hg1 (by simp) (fun k h => by simp [Value.ownBlock] at h; omega); clear hg1)
  go_wp2_with (first | (go_at_call 11; refine (Of_any _ _ _ _ _ _ (by omega) rd1).mono ?_; rintro e w' ⟨rfl, rfl⟩; have h8 := sb_bd L (fun y hy => inr_u8 (own1.rng y hy)) true; have hsO : 0 ≤ sumOf L ∧ sumOf L ≤ 65535 := (by have := fo_bd h8.1; unfold sumOf; omega); have hw8 := IntKind.wrap_u8' (sumOf L); have hw8' := IntWalk.u8_in (sumOf L / 256) (by omega)) | (at_builtin; go_loud (have hra := Rd.new .u8 w1 5 [sumOf L / 256, sumOf L % 256] (by intro y hy; simp at hy; rcases hy with rfl | rfl <;> exact u8_inr (by omega)) #[.int .u8 (sumOf L / 256), .int .u8 (sumOf L % 256)] rfl 2 rfl; refine wpList_app _ rfl (.tmp 18) (.tmp 24) 22 rfl .u8 w.heap.size 5 i0 (.int .u8 0) 1 Try.underlying22 hi hz0 hz1 hz2 rfl (.slice A1 m c1) rfl L (own1.alloc _) (w1.heap.size + 1) _ 2 2 rfl [sumOf L / 256, sumOf L % 256] hra (by rw [hlm.out]; omega) (by decide) (by have := bel1.size; simp; omega) ?_; intro v2 w2 own2 hg2 _; have bel2 : Below w.heap.size w w2 := (bel1.alloc bel1.size _).grown hg2 (by simp; have := bel1.size; omega) (fun g h => (own1.lt g h).1); clear hg2; obtain ⟨g, c2, rfl, hc21, hc22, hg1, hg2⟩ := own2.formG (n := m + 2) (by simp [hlm.out]) (by omega); have rd2 := own2.rd (by simp [hlm.out]); obtain ⟨Q, hQ⟩ := sum_closed L (by rw [hlm.out]; exact hme.out) h8.1; have hl2 : (L ++ [sumOf L / 256, sumOf L % 256]).length = m + 2 := (by simp [hlm.out]); obtain ⟨L2, hL2⟩ : ∃ L2, L2 = L ++ [sumOf L / 256, sumOf L % 256] := ⟨_, rfl⟩; rw [← hL2] at own2 rd2 hQ hl2; clear hL2; replace hl2 := Lib.hid hl2)))
  go_wp2_with (go_at_call 10; refine (sums_any _).mono ?_; rintro e w3 ⟨rfl, hb3⟩; have rd3 := rd2.below hb3; have own3 := own2.below hb3; have bel3 : Below w.heap.size w w3 := bel2.trans (hb3.mono bel2.size); have hE := sumOf_null L2 Q hQ.1 hQ.2)
  go_wp2_with (go_at_call 11; refine (Of_any _ _ _ _ _ _ (by omega) rd3).mono ?_; rw [hE]; rintro e w' ⟨rfl, rfl⟩)
  obtain ⟨hcj, hfj, hxj⟩ := own3.at_ hl2.out hj1
  replace hxj := inr_u8 hxj
  have hfl := flip_sum L2 Q j mm (by rw [hl2.out]; exact hj1) hmm1 (fun y hy => inr_u8 (own3.rng y hy)) hQ.2
  have hfb := flip_bd ⟨(L2.getD j 0).toNat, by omega⟩ ⟨mm, hmm1⟩
  obtain ⟨x, hxe⟩ : ∃ x, x = L2.getD j 0 := ⟨_, rfl⟩
  rw [← hxe] at hcj hxj hfl
  simp only [← hxe] at hfb
  clear hxe
  have hxr := xor_u8 x mm hxj hmm1
  obtain ⟨fx, hfx⟩ : ∃ fx, fx = flip x.toNat mm := ⟨_, rfl⟩
  rw [← hfx] at hxr hfl hfb
  clear hfx
  have own4 := own3.set hl2.out j (x := (fx : Int)) (u8_inr (by omega))
  have bel4 : Below w.heap.size w (w3.setCell ⟨g, j, none⟩ (.int .u8 fx)) := bel3.setCell hg1 _
  have rd4 := (own4.rd (by rw [List.length_set]; exact hl2.out)).drew
  obtain ⟨L3, hL3⟩ : ∃ L3, L3 = L2.set j (fx : Int) := ⟨_, rfl⟩
  rw [← hL3] at rd4 hfl
  clear hL3 hQ hE
  have hne : (sumOf L3 != 0) = true := by simpa using hfl
  go_region
  go_wp2_with (go_at_call 11; refine (Of_any _ _ _ _ _ _ (by omega) rd4).mono ?_; rintro e w' ⟨rfl, rfl⟩)
  go_ret
  exact ⟨rfl, bel4.drew⟩
theorem SumWhole_args (W : World) (args : Array Value) (hs : args.size = Try.f6.params.size) (hA : ∀ (j : Nat) t v, Try.f6.params[j]? = some t → args[j]? = some v → Arg Try.prog W t v) :
    Calls Try.prog 6 args W fun e W' => e = .returned (.bool true) ∧ Below W.heap.size W W' := by
  obtain ⟨v0, v1, rfl⟩ := args2 hs
  obtain ⟨A, len, cap, l, rfl, h1, h2, h3⟩ := arg_ints Try.underlying22 Try.underlying5 (by kernel_rfl) (hA 0 22 v0 rfl rfl)
  obtain ⟨a, rfl, wa⟩ := arg_int Try.underlying3 (hA 1 3 v1 rfl rfl)
  exact SumWhole_walk A len cap l a W h3 h1 h2

set_option maxRecDepth 100000 in
theorem SumWhole_lifted (os : Os) (started : os.Started) (H : Type) (enc : TypeId × Value → H) :
    ReturnsInHanded {} Try.checked os 6 .any (Rows.sumWholeSpec.pre6 enc Try.prog Try.f6 Rows.sumWholeRow.domain false) (Rows.sumWholeSpec.post enc Try.prog Try.f6 false true false false) :=
  law_lifted os started H enc (by kernel_rfl) Try.func6 rfl rfl (fun H ds h => by match ds, h with | [_, _], _ => exact ⟨rfl, rfl, rfl⟩) (by kernel_rfl)
    (ChangeSpec.witness6 (enc := enc) (C := Try.checked) false ⟨#[], #[.slice none 0 0, .int .i64 0], []⟩ 8 (by kernel_rfl) (by kernel_rfl) (by kernel_rfl) (by kernel_rfl))
    SumWhole_args

/-- the statement -/
theorem sumWhole_holds : Rows.SumWholeSaid :=
  OpenClaim.holds_of_wide 6 Try.f6 rfl rfl rfl rfl rfl rfl rfl ⟨rfl, rfl, rfl, rfl, rfl⟩ rfl rfl rfl rfl rfl (by kernel_rfl) Try.func6 (by kernel_rfl)
    (of_decide_eq_true (by kernel_rfl)) (by unfold Func.isWrapper; first | (rw [if_pos (by decide +kernel)]; kernel_rfl) | (rw [if_neg (by decide +kernel)]; exact ⟨rfl, rfl⟩))
    (fun os started H enc _ => SumWhole_lifted os started H enc)

end Go.Proofs.Ytdhpjdnbdeghdaa
