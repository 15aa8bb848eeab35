/- The walks of package place's plain functions, and of the reference's. -/
import Derived.Test.YtgkimfodbbgdbaaPlacePlain
import Derived.Test.YtgkimfodbbgdbaaProg
import Derived.Test.YtgkimfodbbgdbaaHeap
import Derived.Test.YtgkimfodbbgdbaaQuiet
namespace Go.Proofs.Ytgkimfodbbgdbaa
set_option linter.unusedVariables false
set_option linter.unusedSimpArgs false
open Go.RowKit
def Wd.val (w : Wd) : Value := .agg #[.int .i64 w.st, .int .i64 w.gen, .int .i64 w.tr, .int .i64 w.seen]
theorem within_any (n m : Int) (w : World) :
    Calls Try.prog 37 #[.int .i64 n, .int .i64 m] w fun e w' => e = .returned (.bool (decide (0 ≤ n ∧ n ≤ m))) ∧ w = w' := by
  by_cases h : 0 ≤ n
  · have h1 : decide (0 ≤ n) = true := by simpa using h
    have h2 : decide (0 ≤ n ∧ n ≤ m) = decide (n ≤ m) := by simp [h]
    rw [h2]
    go_enter Try.func37, Try.ntmps37
    go_wp2
    go_ret
    exact ⟨rfl, rfl⟩
  · have h1 : decide (0 ≤ n) = false := by simpa using h
    have h2 : decide (0 ≤ n ∧ n ≤ m) = false := by simp [h]
    rw [h2]
    go_enter Try.func37, Try.ntmps37
    go_wp2
    go_ret
    exact ⟨rfl, rfl⟩
set_option maxHeartbeats 400000 in
theorem right_any (a b c d : Int) (w : World) :
    Calls Try.prog 31 #[.agg #[.int .i64 a, .int .i64 b, .int .i64 c, .int .i64 d]] w fun e w' => e = .returned (.bool (decide (Wd.mk a b c d).ok)) ∧ Below w.heap.size w w' := by
  rcases Bool.eq_false_or_eq_true (decide (0 ≤ a ∧ a ≤ 3)) with h1 | h1
  rotate_left
  · have h4 : decide (Wd.mk a b c d).ok = false := by simp only [decide_eq_false_iff_not] at h1 ⊢; exact fun h => h1 h.1
    rw [h4]
    go_enter Try.func31, Try.ntmps31
    go_wp2_with (go_at_call 37; refine (within_any _ _ _).mono ?_; (try simp only [h1]); rintro e w' ⟨rfl, rfl⟩)
    go_ret
    exact ⟨rfl, (Below.refl _ _).alloc (Nat.le_refl _) _⟩
  rcases Bool.eq_false_or_eq_true (decide (0 ≤ b ∧ b ≤ 65535)) with h2 | h2
  rotate_left
  · have h4 : decide (Wd.mk a b c d).ok = false := by simp only [decide_eq_false_iff_not] at h2 ⊢; exact fun h => h2 h.2.1
    rw [h4]
    go_enter Try.func31, Try.ntmps31
    go_wp2_with (go_at_call 37; refine (within_any _ _ _).mono ?_; (try simp only [h1, h2]); rintro e w' ⟨rfl, rfl⟩)
    go_ret
    exact ⟨rfl, (Below.refl _ _).alloc (Nat.le_refl _) _⟩
  rcases Bool.eq_false_or_eq_true (decide (0 ≤ c ∧ c ≤ 7)) with h3 | h3
  rotate_left
  · have h4 : decide (Wd.mk a b c d).ok = false := by simp only [decide_eq_false_iff_not] at h3 ⊢; exact fun h => h3 h.2.2.1
    rw [h4]
    go_enter Try.func31, Try.ntmps31
    go_wp2_with (go_at_call 37; refine (within_any _ _ _).mono ?_; (try simp only [h1, h2, h3]); rintro e w' ⟨rfl, rfl⟩)
    go_ret
    exact ⟨rfl, (Below.refl _ _).alloc (Nat.le_refl _) _⟩
  have h4 : decide (Wd.mk a b c d).ok = (decide (0 ≤ d) && decide (d ≤ 4294967295)) := by simp only [decide_eq_true_eq] at h1 h2 h3; simp only [Wd.ok, h1, h2, h3, true_and, decide_true, and_self, Bool.decide_and]
  rw [h4]
  go_enter Try.func31, Try.ntmps31
  go_wp2_with (go_at_call 37; refine (within_any _ _ _).mono ?_; (try simp only [h1, h2, h3]); rintro e w' ⟨rfl, rfl⟩)
  go_ret
  exact ⟨rfl, (Below.refl _ _).alloc (Nat.le_refl _) _⟩
theorem number_any (a b c d : Int) (w : World) (h : (Wd.mk a b c d).ok) :
    Calls Try.prog 32 #[.agg #[.int .i64 a, .int .i64 b, .int .i64 c, .int .i64 d]] w fun e w' => e = .returned (.int .u64 (Wd.mk a b c d).num) ∧ Below w.heap.size w w' := by
  have ho := or_num h
  unfold Wd.ok at h
  simp only at h ho
  generalize (Wd.mk a b c d).num = n at *
  have w1 : IntKind.u64.wrap a = a := by rw [IntKind.wrap_u64]; omega
  have w2 : IntKind.u64.wrap b = b := by rw [IntKind.wrap_u64]; omega
  have w3 : IntKind.u64.wrap c = c := by rw [IntKind.wrap_u64]; omega
  have w4 : IntKind.u64.wrap d = d := by rw [IntKind.wrap_u64]; omega
  go_enter Try.func32, Try.ntmps32
  go_wp2
  go_ret
  exact ⟨rfl, (Below.refl _ _).alloc (Nat.le_refl _) _⟩
theorem Pack_any (a b c d : Int) (w : World) :
    Calls Try.prog 9 #[.agg #[.int .i64 a, .int .i64 b, .int .i64 c, .int .i64 d]] w fun e w' => e = .returned (.tuple #[.int .u64 (if (Wd.mk a b c d).ok then (Wd.mk a b c d).num else 0), .int .i64 (if (Wd.mk a b c d).ok then 0 else 1)]) ∧ Below w.heap.size w w' := by
  by_cases h : (Wd.mk a b c d).ok
  · have h1 : decide (Wd.mk a b c d).ok = true := by simpa using h
    rw [if_pos h, if_pos h]
    go_enter Try.func9, Try.ntmps9
    go_wp2_with fail
    refine (right_any _ _ _ _ _).mono ?_
    rw [h1]
    rintro e w1 ⟨rfl, b1⟩
    have k1 := ((Blk.new w 28 #[.int .i64 a, .int .i64 b, .int .i64 c, .int .i64 d]).bel b1)
    have bw := bel_after (bel_alloc _ _) b1
    have e0 := k1.cell 0
    have e1 := k1.cell 1
    have e2 := k1.cell 2
    have e3 := k1.cell 3
    go_wp2_with fail
    refine (number_any _ _ _ _ _ h).mono ?_
    rintro e w2 ⟨rfl, b2⟩
    go_wp2
    go_ret2
    exact ⟨rfl, bel_after bw b2⟩
  · have h1 : decide (Wd.mk a b c d).ok = false := by simpa using h
    rw [if_neg h, if_neg h]
    go_enter Try.func9, Try.ntmps9
    go_wp2_with fail
    refine (right_any _ _ _ _ _).mono ?_
    rw [h1]
    rintro e w1 ⟨rfl, b1⟩
    go_wp2
    go_ret2
    exact ⟨rfl, bel_after (bel_alloc _ _) b1⟩
theorem Unpack_any (n : Int) (w : World) (hn : 0 ≤ n ∧ n ≤ 18446744073709551615) :
    Calls Try.prog 14 #[.int .u64 n] w fun e w' => e = .returned (unW n).val ∧ Below w.heap.size w w' := by
  have hv : (unW n).val = .agg #[.int .i64 (n % 4), .int .i64 (n / 65536 % 65536), .int .i64 (n / 256 % 8), .int .i64 (n / 4294967296)] := rfl
  rw [hv]
  go_enter Try.func14, Try.ntmps14
  go_wp2
  exact bodyPost_ret (v := .agg #[.int .i64 (n % 4), .int .i64 (n / 65536 % 65536), .int .i64 (n / 256 % 8), .int .i64 (n / 4294967296)]) (by simp [results, Try.results14, go_sem]) rfl ⟨rfl, bel_alloc _ _⟩
theorem rUnpack_any (n : Int) (w : World) (hn : 0 ≤ n ∧ n ≤ 18446744073709551615) :
    Calls Try.prog 15 #[.int .u64 n] w fun e w' => e = .returned (unW n).val ∧ Below w.heap.size w w' := by
  have hv : (unW n).val = .agg #[.int .i64 (n % 4), .int .i64 (n / 65536 % 65536), .int .i64 (n / 256 % 8), .int .i64 (n / 4294967296)] := rfl
  rw [hv]
  go_enter Try.func15, Try.ntmps15
  go_wp2
  exact bodyPost_ret (v := .agg #[.int .i64 (n % 4), .int .i64 (n / 65536 % 65536), .int .i64 (n / 256 % 8), .int .i64 (n / 4294967296)]) (by simp [results, Try.results15, go_sem]) rfl ⟨rfl, bel_alloc _ _⟩
theorem To_any (a b c d : Int) (w : World) :
    Calls Try.prog 10 #[.agg #[.int .i64 a, .int .i64 b, .int .i64 c, .int .i64 d]] w fun r w' => r = .returned (.agg #[.int .i64 a, .int .i64 b, .int .i64 c, .int .i64 d]) ∧ Below w.heap.size w w' := by
  go_enter Try.func10, Try.ntmps10
  go_wp2
  exact bodyPost_ret (v := .agg #[.int .i64 a, .int .i64 b, .int .i64 c, .int .i64 d]) (by simp [results, Try.results10, go_sem]) rfl ⟨rfl, ((bel_alloc _ _).alloc (by simp) _)⟩
theorem From_any (a b c d : Int) (w : World) :
    Calls Try.prog 13 #[.agg #[.int .i64 a, .int .i64 b, .int .i64 c, .int .i64 d]] w fun r w' => r = .returned (.agg #[.int .i64 a, .int .i64 b, .int .i64 c, .int .i64 d]) ∧ Below w.heap.size w w' := by
  go_enter Try.func13, Try.ntmps13
  go_wp2
  exact bodyPost_ret (v := .agg #[.int .i64 a, .int .i64 b, .int .i64 c, .int .i64 d]) (by simp [results, Try.results13, go_sem]) rfl ⟨rfl, ((bel_alloc _ _).alloc (by simp) _)⟩
set_option maxHeartbeats 400000 in
theorem rRight_any (a b c d : Int) (w : World) :
    Calls Try.prog 21 #[.agg #[.int .i64 a, .int .i64 b, .int .i64 c, .int .i64 d]] w fun e w' => e = .returned (.bool (decide (Wd.mk a b c d).ok)) ∧ Below w.heap.size w w' := by
  rcases Bool.eq_false_or_eq_true (decide (0 ≤ a)) with h1 | h1
  rotate_left
  · have h : decide (Wd.mk a b c d).ok = false := by rw [decide_eq_false_iff_not] at h1 ⊢; intro hh; unfold Wd.ok at hh; simp only at hh; omega
    rw [h]
    go_enter Try.func21, Try.ntmps21
    go_wp2
    go_ret
    exact ⟨rfl, bel_alloc _ _⟩
  rcases Bool.eq_false_or_eq_true (decide (a ≤ 3)) with h2 | h2
  rotate_left
  · have h : decide (Wd.mk a b c d).ok = false := by rw [decide_eq_false_iff_not] at h2 ⊢; intro hh; unfold Wd.ok at hh; simp only at hh; omega
    rw [h]
    go_enter Try.func21, Try.ntmps21
    go_wp2
    go_ret
    exact ⟨rfl, bel_alloc _ _⟩
  rcases Bool.eq_false_or_eq_true (decide (0 ≤ b)) with h3 | h3
  rotate_left
  · have h : decide (Wd.mk a b c d).ok = false := by rw [decide_eq_false_iff_not] at h3 ⊢; intro hh; unfold Wd.ok at hh; simp only at hh; omega
    rw [h]
    go_enter Try.func21, Try.ntmps21
    go_wp2
    go_ret
    exact ⟨rfl, bel_alloc _ _⟩
  rcases Bool.eq_false_or_eq_true (decide (b ≤ 65535)) with h4 | h4
  rotate_left
  · have h : decide (Wd.mk a b c d).ok = false := by rw [decide_eq_false_iff_not] at h4 ⊢; intro hh; unfold Wd.ok at hh; simp only at hh; omega
    rw [h]
    go_enter Try.func21, Try.ntmps21
    go_wp2
    go_ret
    exact ⟨rfl, bel_alloc _ _⟩
  rcases Bool.eq_false_or_eq_true (decide (0 ≤ c)) with h5 | h5
  rotate_left
  · have h : decide (Wd.mk a b c d).ok = false := by rw [decide_eq_false_iff_not] at h5 ⊢; intro hh; unfold Wd.ok at hh; simp only at hh; omega
    rw [h]
    go_enter Try.func21, Try.ntmps21
    go_wp2
    go_ret
    exact ⟨rfl, bel_alloc _ _⟩
  rcases Bool.eq_false_or_eq_true (decide (c ≤ 7)) with h6 | h6
  rotate_left
  · have h : decide (Wd.mk a b c d).ok = false := by rw [decide_eq_false_iff_not] at h6 ⊢; intro hh; unfold Wd.ok at hh; simp only at hh; omega
    rw [h]
    go_enter Try.func21, Try.ntmps21
    go_wp2
    go_ret
    exact ⟨rfl, bel_alloc _ _⟩
  rcases Bool.eq_false_or_eq_true (decide (0 ≤ d)) with h7 | h7
  rotate_left
  · have h : decide (Wd.mk a b c d).ok = false := by rw [decide_eq_false_iff_not] at h7 ⊢; intro hh; unfold Wd.ok at hh; simp only at hh; omega
    rw [h]
    go_enter Try.func21, Try.ntmps21
    go_wp2
    go_ret
    exact ⟨rfl, bel_alloc _ _⟩
  have h : decide (Wd.mk a b c d).ok = decide (d ≤ 4294967295) := by
    simp only [decide_eq_true_eq] at h1 h2 h3 h4 h5 h6 h7
    simp only [Wd.ok, h1, h2, h3, h4, h5, h6, h7, true_and, and_self]
  rw [h]
  go_enter Try.func21, Try.ntmps21
  go_wp2
  go_ret
  exact ⟨rfl, bel_alloc _ _⟩
theorem rPack_any (a b c d : Int) (w : World) :
    Calls Try.prog 11 #[.agg #[.int .i64 a, .int .i64 b, .int .i64 c, .int .i64 d]] w fun e w' => e = .returned (.tuple #[.int .u64 (if (Wd.mk a b c d).ok then (Wd.mk a b c d).num else 0), .bool (decide (Wd.mk a b c d).ok)]) ∧ Below w.heap.size w w' := by
  by_cases h : (Wd.mk a b c d).ok
  · have h1 : decide (Wd.mk a b c d).ok = true := by simpa using h
    rw [if_pos h, h1]
    have hb := num_bd h
    have hn : (Wd.mk a b c d).num = a + 256 * c + 65536 * b + 4294967296 * d := rfl
    generalize (Wd.mk a b c d).num = n at *
    subst hn
    unfold Wd.ok at h
    simp only at h
    have w1 : IntKind.u64.wrap a = a := by rw [IntKind.wrap_u64]; omega
    have w2 : IntKind.u64.wrap b = b := by rw [IntKind.wrap_u64]; omega
    have w3 : IntKind.u64.wrap c = c := by rw [IntKind.wrap_u64]; omega
    have w4 : IntKind.u64.wrap d = d := by rw [IntKind.wrap_u64]; omega
    go_enter Try.func11, Try.ntmps11
    go_wp2_with fail
    refine (rRight_any _ _ _ _ _).mono ?_
    rw [h1]
    rintro e w1 ⟨rfl, b1⟩
    have k1 := ((Blk.new w 23 #[.int .i64 a, .int .i64 b, .int .i64 c, .int .i64 d]).bel b1)
    have bw := bel_after (bel_alloc _ _) b1
    have e0 := k1.cell 0
    have e1 := k1.cell 1
    have e2 := k1.cell 2
    have e3 := k1.cell 3
    go_wp2
    go_ret2
    exact ⟨rfl, bw⟩
  · have h1 : decide (Wd.mk a b c d).ok = false := by simpa using h
    rw [if_neg h, h1]
    go_enter Try.func11, Try.ntmps11
    go_wp2_with fail
    refine (rRight_any _ _ _ _ _).mono ?_
    rw [h1]
    rintro e w1 ⟨rfl, b1⟩
    go_wp2
    go_ret2
    exact ⟨rfl, bel_after (bel_alloc _ _) b1⟩
end Go.Proofs.Ytgkimfodbbgdbaa
