/- The walks of package track and of its reference. -/
import Derived.Test.YtjhiiencakcajaaProg
import Derived.Test.YtjhiiencakcajaaTrackPlain
import Derived.Test.YtjhiiencakcajaaQuiet
namespace Go.Proofs.Ytjhiiencakcajaa
set_option linter.unusedVariables false
open Go.RowKit
theorem ended_any (st : Int) (out : Bool) (w : World) :
    Calls Try.prog 18 #[.int .i64 st, .bool out] w fun e w' => e = .returned (.int .i64 (endd st out)) ∧ w = w' := by
  have hs : st = 0 ∨ st = 1 ∨ st = 2 ∨ st = 3 ∨ ((st == 0) = false ∧ (st == 1) = false ∧ (st == 2) = false ∧ (st == 3) = false) := by simp; omega
  cases out <;> rcases hs with rfl | rfl | rfl | rfl | ⟨h0, h1, h2, h3⟩
  all_goals
    go_enter Try.func18, Try.ntmps18
    go_wp2
    go_ret
    first
    | exact ⟨rfl, rfl⟩
    | exact ⟨ret_int (by unfold endd; simp at h0 h1 h2 h3; simp [h0, h1, h2, h3]), rfl⟩
set_option maxHeartbeats 4000000 in
theorem Next_in (st : Int) (out : Bool) (fl : Int) (w : World) (h0 : 0 ≤ st ∧ st ≤ 4) :
    Calls Try.prog 8 #[.int .i64 6, .int .i64 st, .bool out, .int .i64 fl] w fun e w' => e = .returned (.int .i64 (nxt 6 st out (fb fl 4) (fb fl 1) (fb fl 2) (fb fl 16))) ∧ w = w' := by
  have hf18 := flags18 fl
  have e4 : (bits .and .i64 fl 4 != 0) = fb fl 4 := rfl
  have e1 : (bits .and .i64 fl 1 != 0) = fb fl 1 := rfl
  have e16 : (bits .and .i64 fl 16 != 0) = fb fl 16 := rfl
  generalize fb fl 4 = r at *
  generalize fb fl 1 = f at *
  generalize fb fl 16 = k at *
  generalize fb fl 2 = s at *
  have hs : st = 0 ∨ st = 1 ∨ st = 2 ∨ st = 3 ∨ st = 4 := by omega
  cases r
  · cases f
    · rcases hs with rfl | rfl | rfl | rfl | rfl <;> cases out <;> cases s <;> cases k
      all_goals
        simp only [Bool.not_true, Bool.not_false, Bool.and_true, Bool.and_false] at hf18
        go_enter Try.func8, Try.ntmps8
        go_wp2
        go_ret
        exact ⟨rfl, rfl⟩
    · go_enter Try.func8, Try.ntmps8
      go_wp2_with (go_at_call 18; refine (ended_any _ _ _).mono ?_; rintro e w' ⟨rfl, rfl⟩)
      go_ret
      exact ⟨ret_int (by unfold nxt clampS; simp; rw [if_neg (by omega)]), rfl⟩
  · go_enter Try.func8, Try.ntmps8
    go_wp2
    go_ret
    exact ⟨rfl, rfl⟩
theorem nxt_clamp (st : Int) (out r f s k : Bool) : nxt 6 (clampS st) out r f s k = nxt 6 st out r f s k := by
  have h := clampS_bd st
  have e : clampS (clampS st) = clampS st := by show (if clampS st < 0 ∨ 4 < clampS st then 4 else clampS st) = _; rw [if_neg (by omega)]
  unfold nxt; rw [e]
set_option maxHeartbeats 4000000 in
theorem Next_out (st : Int) (out : Bool) (fl : Int) (w : World) (h0 : st < 0 ∨ 4 < st) :
    Calls Try.prog 8 #[.int .i64 6, .int .i64 st, .bool out, .int .i64 fl] w fun e w' => e = .returned (.int .i64 (nxt 6 st out (fb fl 4) (fb fl 1) (fb fl 2) (fb fl 16))) ∧ w = w' := by
  have hcl : clampS st = 4 := by unfold clampS; rw [if_pos h0]
  rw [← nxt_clamp, hcl]
  clear hcl
  have hf18 := flags18 fl
  have e4 : (bits .and .i64 fl 4 != 0) = fb fl 4 := rfl
  have e1 : (bits .and .i64 fl 1 != 0) = fb fl 1 := rfl
  have e16 : (bits .and .i64 fl 16 != 0) = fb fl 16 := rfl
  generalize fb fl 4 = r at *
  generalize fb fl 1 = f at *
  generalize fb fl 16 = k at *
  generalize fb fl 2 = s at *
  have hs : decide (st < 0) = true ∨ (decide (st < 0) = false ∧ decide (4 < st) = true) := by
    rcases Int.lt_or_le st 0 with h | h
    · exact .inl (by simpa using h)
    · exact .inr ⟨by simp; omega, by simp; omega⟩
  clear h0
  rcases hs with hd | ⟨hd, hd2⟩
  all_goals
    cases r
    · cases f
      · cases out <;> cases s <;> cases k
        all_goals
          simp only [Bool.not_true, Bool.not_false, Bool.and_true, Bool.and_false] at hf18
          go_enter Try.func8, Try.ntmps8
          go_wp2
          go_ret
          exact ⟨rfl, rfl⟩
      · go_enter Try.func8, Try.ntmps8
        go_wp2_with (go_at_call 18; refine (ended_any _ _ _).mono ?_; rintro e w' ⟨rfl, rfl⟩)
        go_ret
        exact ⟨rfl, rfl⟩
    · go_enter Try.func8, Try.ntmps8
      go_wp2
      go_ret
      exact ⟨rfl, rfl⟩
theorem Next_any (p st : Int) (out : Bool) (fl : Int) (w : World) :
    Calls Try.prog 8 #[.int .i64 p, .int .i64 st, .bool out, .int .i64 fl] w fun e w' => e = .returned (.int .i64 (nxt p st out (fb fl 4) (fb fl 1) (fb fl 2) (fb fl 16))) ∧ w = w' := by
  by_cases hp : p = 6
  · subst hp
    by_cases h : 0 ≤ st ∧ st ≤ 4
    · exact Next_in st out fl w h
    · exact Next_out st out fl w (by omega)
  · have hd : (p != 6) = true := by simpa using hp
    have hn : ∀ b1 b2 b3 b4, nxt p st out b1 b2 b3 b4 = 0 := fun _ _ _ _ => by unfold nxt; rw [if_pos hp]
    rw [hn]
    clear hn
    go_enter Try.func8, Try.ntmps8
    go_wp2
    go_ret
    exact ⟨rfl, rfl⟩
theorem has_any (f m : Int) (w : World) :
    Calls Try.prog 19 #[.int .i64 f, .int .i64 m] w fun e w' => e = .returned (.bool (fb f m)) ∧ w = w' := by
  go_enter Try.func19, Try.ntmps19
  go_wp2
  go_ret
  exact ⟨rfl, rfl⟩
set_option maxHeartbeats 4000000 in
theorem rNext_cl (st : Int) (out : Bool) (fl : Int) (w : World) :
    Calls Try.prog 9 #[.int .i64 6, .int .i64 st, .bool out, .int .i64 fl] w fun e w' => e = .returned (.int .i64 (nxt 6 (clampS st) out (fb fl 4) (fb fl 1) (fb fl 2) (fb fl 16))) ∧ w = w' := by
  have hm := fun (m : Int) (w : World) => has_any fl m w
  generalize fb fl = F at *
  obtain ⟨r, hr⟩ : ∃ r, r = F 4 := ⟨_, rfl⟩
  obtain ⟨f, hf⟩ : ∃ r, r = F 1 := ⟨_, rfl⟩
  obtain ⟨s, hs⟩ : ∃ r, r = F 2 := ⟨_, rfl⟩
  obtain ⟨k, hk⟩ : ∃ r, r = F 16 := ⟨_, rfl⟩
  have m4 := fun w => hm 4 w
  have m1 := fun w => hm 1 w
  have m2 := fun w => hm 2 w
  have m16 := fun w => hm 16 w
  rw [← hr, ← hf, ← hs, ← hk]
  rw [← hr] at m4
  rw [← hf] at m1
  rw [← hs] at m2
  rw [← hk] at m16
  clear hm hr hf hs hk
  replace m4 := Lib.hid m4
  replace m1 := Lib.hid m1
  replace m2 := Lib.hid m2
  replace m16 := Lib.hid m16
  have hst : st = 0 ∨ st = 1 ∨ st = 2 ∨ st = 3 ∨ st = 4 ∨ (decide (st < 0) = true ∧ clampS st = 4) ∨ (decide (st < 0) = false ∧ decide (4 < st) = true ∧ clampS st = 4) := by
    unfold clampS
    by_cases h1 : st < 0
    · refine .inr (.inr (.inr (.inr (.inr (.inl ⟨by simpa using h1, by rw [if_pos (.inl h1)]⟩)))))
    · by_cases h2 : 4 < st
      · exact .inr (.inr (.inr (.inr (.inr (.inr ⟨by simpa using h1, by simpa using h2, by rw [if_pos (.inr h2)]⟩)))))
      · omega
  rcases hst with rfl | rfl | rfl | rfl | rfl | ⟨hd, hcl⟩ | ⟨hd, hd2, hcl⟩
  all_goals
    first
    | (rw [hcl]; clear hcl)
    | rw [show clampS _ = _ from rfl]
    cases r
    · cases f
      · cases out <;> cases s <;> cases k
        all_goals
          go_enter Try.func9, Try.ntmps9
          go_wp2_with (first
            | (go_at_call_of 19 (Value.int .i64 4); refine (m4.out _).mono ?_; rintro e w' ⟨rfl, rfl⟩)
            | (go_at_call_of 19 (Value.int .i64 1); refine (m1.out _).mono ?_; rintro e w' ⟨rfl, rfl⟩)
            | (go_at_call_of 19 (Value.int .i64 2); refine (m2.out _).mono ?_; rintro e w' ⟨rfl, rfl⟩)
            | (go_at_call_of 19 (Value.int .i64 16); refine (m16.out _).mono ?_; rintro e w' ⟨rfl, rfl⟩))
          go_ret
          exact ⟨rfl, rfl⟩
      · cases out
        all_goals
          go_enter Try.func9, Try.ntmps9
          go_wp2_with (first
            | (go_at_call_of 19 (Value.int .i64 4); refine (m4.out _).mono ?_; rintro e w' ⟨rfl, rfl⟩)
            | (go_at_call_of 19 (Value.int .i64 1); refine (m1.out _).mono ?_; rintro e w' ⟨rfl, rfl⟩))
          go_ret
          exact ⟨rfl, rfl⟩
    · go_enter Try.func9, Try.ntmps9
      go_wp2_with (go_at_call 19; refine (m4.out _).mono ?_; rintro e w' ⟨rfl, rfl⟩)
      go_ret
      exact ⟨rfl, rfl⟩
theorem rNext_any (p st : Int) (out : Bool) (fl : Int) (w : World) :
    Calls Try.prog 9 #[.int .i64 p, .int .i64 st, .bool out, .int .i64 fl] w fun e w' => e = .returned (.int .i64 (nxt p st out (fb fl 4) (fb fl 1) (fb fl 2) (fb fl 16))) ∧ w = w' := by
  by_cases hp : p = 6
  · subst hp; rw [← nxt_clamp]; exact rNext_cl st out fl w
  · have hd : (p != 6) = true := by simpa using hp
    have hn : ∀ b1 b2 b3 b4, nxt p st out b1 b2 b3 b4 = 0 := fun _ _ _ _ => by unfold nxt; rw [if_pos hp]
    rw [hn]
    clear hn
    go_enter Try.func9, Try.ntmps9
    go_wp2
    go_ret
    exact ⟨rfl, rfl⟩
end Go.Proofs.Ytjhiiencakcajaa
