/- The walks of Life, Renews, Begins, Text, and of the laws' helper. -/
import Derived.Test.YtjhiiencakcajaaTrack
namespace Go.Proofs.Ytjhiiencakcajaa
set_option linter.unusedVariables false
open Go.RowKit
def lifeS (p st : Int) : Int := if p = 17 then 120 else if p = 1 then 60 else if p = 6 then (if st = 1 then 7440 else 240) else 0
def renewsS (p : Int) (out : Bool) : Bool := if p = 6 then true else if p = 17 ∨ p = 1 then out else false
def beginsS (p kind fl : Int) : Bool := if p = 17 then true else if p = 6 then (fb fl 2 && !fb fl 1 && !fb fl 4 && !fb fl 16) else if p = 1 then kind == 8 else false
theorem protos (p : Int) : p = 17 ∨ p = 1 ∨ p = 6 ∨ ((p == 17) = false ∧ (p == 1) = false ∧ (p == 6) = false ∧ p ≠ 17 ∧ p ≠ 1 ∧ p ≠ 6) := by simp; omega
theorem lifeS_none {p st : Int} (h : p ≠ 17 ∧ p ≠ 1 ∧ p ≠ 6) : lifeS p st = 0 := by unfold lifeS; simp [h.1, h.2.1, h.2.2]
theorem renewsS_none {p : Int} {out : Bool} (h : p ≠ 17 ∧ p ≠ 1 ∧ p ≠ 6) : renewsS p out = false := by unfold renewsS; simp [h.1, h.2.1, h.2.2]
theorem beginsS_none {p k f : Int} (h : p ≠ 17 ∧ p ≠ 1 ∧ p ≠ 6) : beginsS p k f = false := by unfold beginsS; simp [h.1, h.2.1, h.2.2]
theorem Life_any (p st : Int) (w : World) :
    Calls Try.prog 10 #[.int .i64 p, .int .i64 st] w fun e w' => e = .returned (.int .i64 (lifeS p st)) ∧ w = w' := by
  rcases protos p with rfl | rfl | rfl | ⟨h1, h2, h3, h⟩
  · go_enter Try.func10, Try.ntmps10
    go_wp2
    go_ret
    exact ⟨rfl, rfl⟩
  · go_enter Try.func10, Try.ntmps10
    go_wp2
    go_ret
    exact ⟨rfl, rfl⟩
  · by_cases hs : st = 1
    · subst hs
      go_enter Try.func10, Try.ntmps10
      go_wp2
      go_ret
      exact ⟨rfl, rfl⟩
    · have hb : (st == 1) = false := by simpa using hs
      have e : lifeS 6 st = 240 := by unfold lifeS; simp [hs]
      rw [e]
      clear e
      go_enter Try.func10, Try.ntmps10
      go_wp2
      go_ret
      exact ⟨rfl, rfl⟩
  · rw [lifeS_none h]
    clear h
    go_enter Try.func10, Try.ntmps10
    go_wp2
    go_ret
    exact ⟨rfl, rfl⟩
theorem rLife_any (p st : Int) (w : World) :
    Calls Try.prog 11 #[.int .i64 p, .int .i64 st] w fun e w' => e = .returned (.int .i64 (lifeS p st)) ∧ w = w' := by
  rcases protos p with rfl | rfl | rfl | ⟨h1, h2, h3, h⟩
  · go_enter Try.func11, Try.ntmps11
    go_wp2
    go_ret
    exact ⟨rfl, rfl⟩
  · go_enter Try.func11, Try.ntmps11
    go_wp2
    go_ret
    exact ⟨rfl, rfl⟩
  · by_cases hs : st = 1
    · subst hs
      go_enter Try.func11, Try.ntmps11
      go_wp2
      go_ret
      exact ⟨rfl, rfl⟩
    · have hb : (st == 1) = false := by simpa using hs
      have e : lifeS 6 st = 240 := by unfold lifeS; simp [hs]
      rw [e]
      clear e
      go_enter Try.func11, Try.ntmps11
      go_wp2
      go_ret
      exact ⟨rfl, rfl⟩
  · rw [lifeS_none h]
    clear h
    go_enter Try.func11, Try.ntmps11
    go_wp2
    go_ret
    exact ⟨rfl, rfl⟩
theorem Renews_any (p : Int) (out : Bool) (w : World) :
    Calls Try.prog 12 #[.int .i64 p, .bool out] w fun e w' => e = .returned (.bool (renewsS p out)) ∧ w = w' := by
  rcases protos p with rfl | rfl | rfl | ⟨h1, h2, h3, h⟩
  case inr.inr.inr => rw [renewsS_none h]; clear h; go_enter Try.func12, Try.ntmps12; go_wp2; go_ret; exact ⟨rfl, rfl⟩
  all_goals
    go_enter Try.func12, Try.ntmps12
    go_wp2
    go_ret
    exact ⟨rfl, rfl⟩
theorem rRenews_any (p : Int) (out : Bool) (w : World) :
    Calls Try.prog 13 #[.int .i64 p, .bool out] w fun e w' => e = .returned (.bool (renewsS p out)) ∧ w = w' := by
  rcases protos p with rfl | rfl | rfl | ⟨h1, h2, h3, h⟩ <;> cases out
  case inr.inr.inr.false => rw [renewsS_none h]; clear h; go_enter Try.func13, Try.ntmps13; go_wp2; go_ret; exact ⟨rfl, rfl⟩
  case inr.inr.inr.true => rw [renewsS_none h]; clear h; go_enter Try.func13, Try.ntmps13; go_wp2; go_ret; exact ⟨rfl, rfl⟩
  all_goals
    go_enter Try.func13, Try.ntmps13
    go_wp2
    go_ret
    exact ⟨rfl, rfl⟩
theorem Begins_any (p k fl : Int) (w : World) :
    Calls Try.prog 14 #[.int .i64 p, .int .i64 k, .int .i64 fl] w fun e w' => e = .returned (.bool (beginsS p k fl)) ∧ w = w' := by
  have h23 := flags23 fl
  rcases protos p with rfl | rfl | rfl | ⟨h1, h2, h3, h⟩
  case inr.inr.inr => rw [beginsS_none h]; clear h; go_enter Try.func14, Try.ntmps14; go_wp2; go_ret; exact ⟨rfl, rfl⟩
  case inr.inr.inl =>
    have e : beginsS 6 k fl = (fb fl 2 && !fb fl 1 && !fb fl 4 && !fb fl 16) := rfl
    rw [e, ← h23]
    clear e h23
    go_enter Try.func14, Try.ntmps14
    go_wp2
    go_ret
    exact ⟨rfl, rfl⟩
  all_goals
    go_enter Try.func14, Try.ntmps14
    go_wp2
    go_ret
    exact ⟨rfl, rfl⟩
set_option maxHeartbeats 1000000 in
theorem rBegins_any (p k fl : Int) (w : World) :
    Calls Try.prog 15 #[.int .i64 p, .int .i64 k, .int .i64 fl] w fun e w' => e = .returned (.bool (beginsS p k fl)) ∧ w = w' := by
  rcases protos p with rfl | rfl | rfl | ⟨h1, h2, h3, h⟩
  case inr.inr.inr => rw [beginsS_none h]; clear h; go_enter Try.func15, Try.ntmps15; go_wp2; go_ret; exact ⟨rfl, rfl⟩
  case inr.inr.inl =>
    have e : beginsS 6 k fl = (fb fl 2 && !fb fl 1 && !fb fl 4 && !fb fl 16) := rfl
    rw [e]
    clear e
    have hm := fun (m : Int) (w : World) => has_any fl m w
    generalize fb fl = F at *
    obtain ⟨r, hr⟩ : ∃ r, r = F 4 := ⟨_, rfl⟩
    obtain ⟨f, hf⟩ : ∃ r, r = F 1 := ⟨_, rfl⟩
    obtain ⟨s, hs⟩ : ∃ r, r = F 2 := ⟨_, rfl⟩
    obtain ⟨q, hk⟩ : ∃ r, r = F 16 := ⟨_, rfl⟩
    have m4 := fun w => hm 4 w
    have m1 := fun w => hm 1 w
    have m2 := fun w => hm 2 w
    have m16 := fun w => hm 16 w
    rw [← hr, ← hf, ← hs, ← hk]
    rw [← hr] at m4
    rw [← hf] at m1
    rw [← hs] at m2
    rw [← hk] at m16
    clear hm hr hf hs hk
    replace m4 := Lib.hid m4
    replace m1 := Lib.hid m1
    replace m2 := Lib.hid m2
    replace m16 := Lib.hid m16
    cases s <;> cases f <;> cases r
    all_goals
      go_enter Try.func15, Try.ntmps15
      go_wp2_with (first
        | (go_at_call_of 19 (Value.int .i64 4); refine (m4.out _).mono ?_; rintro e w' ⟨rfl, rfl⟩)
        | (go_at_call_of 19 (Value.int .i64 1); refine (m1.out _).mono ?_; rintro e w' ⟨rfl, rfl⟩)
        | (go_at_call_of 19 (Value.int .i64 2); refine (m2.out _).mono ?_; rintro e w' ⟨rfl, rfl⟩)
        | (go_at_call_of 19 (Value.int .i64 16); refine (m16.out _).mono ?_; rintro e w' ⟨rfl, rfl⟩))
      go_ret
      exact ⟨rfl, rfl⟩
  all_goals
    go_enter Try.func15, Try.ntmps15
    go_wp2
    go_ret
    exact ⟨rfl, rfl⟩
def textS (st : Int) : ByteArray := if st = 0 then ⟨#[111, 112, 101, 110, 105, 110, 103]⟩ else if st = 1 then ⟨#[111, 112, 101, 110]⟩ else if st = 2 then ⟨#[104, 97, 108, 102, 32, 111, 117, 116]⟩ else if st = 3 then ⟨#[104, 97, 108, 102, 32, 105, 110]⟩ else ⟨#[99, 108, 111, 115, 101, 100]⟩
theorem Text_any (st : Int) (w : World) : Calls Try.prog 16 #[.int .i64 st] w fun e w' => e = .returned (.string (textS st)) ∧ w = w' := by
  have hs : st = 0 ∨ st = 1 ∨ st = 2 ∨ st = 3 ∨ ((st == 0) = false ∧ (st == 1) = false ∧ (st == 2) = false ∧ (st == 3) = false ∧ textS st = ⟨#[99, 108, 111, 115, 101, 100]⟩) := by
    by_cases h0 : st = 0
    · exact .inl h0
    by_cases h1 : st = 1
    · exact .inr (.inl h1)
    by_cases h2 : st = 2
    · exact .inr (.inr (.inl h2))
    by_cases h3 : st = 3
    · exact .inr (.inr (.inr (.inl h3)))
    · exact .inr (.inr (.inr (.inr ⟨by simpa using h0, by simpa using h1, by simpa using h2, by simpa using h3, by unfold textS; rw [if_neg h0, if_neg h1, if_neg h2, if_neg h3]⟩)))
  rcases hs with rfl | rfl | rfl | rfl | ⟨h0, h1, h2, h3, h⟩
  case inr.inr.inr.inr => rw [h]; clear h; go_enter Try.func16, Try.ntmps16; go_wp2; go_ret; exact ⟨rfl, rfl⟩
  all_goals
    go_enter Try.func16, Try.ntmps16
    go_wp2
    go_ret
    exact ⟨rfl, rfl⟩
theorem rText_any (st : Int) (w : World) : Calls Try.prog 17 #[.int .i64 st] w fun e w' => e = .returned (.string (textS st)) ∧ w = w' := by
  have hs : st = 0 ∨ st = 1 ∨ st = 2 ∨ st = 3 ∨ ((st == 0) = false ∧ (st == 1) = false ∧ (st == 2) = false ∧ (st == 3) = false ∧ textS st = ⟨#[99, 108, 111, 115, 101, 100]⟩) := by
    by_cases h0 : st = 0
    · exact .inl h0
    by_cases h1 : st = 1
    · exact .inr (.inl h1)
    by_cases h2 : st = 2
    · exact .inr (.inr (.inl h2))
    by_cases h3 : st = 3
    · exact .inr (.inr (.inr (.inl h3)))
    · exact .inr (.inr (.inr (.inr ⟨by simpa using h0, by simpa using h1, by simpa using h2, by simpa using h3, by unfold textS; rw [if_neg h0, if_neg h1, if_neg h2, if_neg h3]⟩)))
  rcases hs with rfl | rfl | rfl | rfl | ⟨h0, h1, h2, h3, h⟩
  case inr.inr.inr.inr => rw [h]; clear h; go_enter Try.func17, Try.ntmps17; go_wp2; go_ret; exact ⟨rfl, rfl⟩
  all_goals
    go_enter Try.func17, Try.ntmps17
    go_wp2
    go_ret
    exact ⟨rfl, rfl⟩
theorem opens_any (w : World) : Calls Try.prog 7 #[] w fun e w' => e = .returned (.bool true) ∧ w = w' := by
  go_enter Try.func7, Try.ntmps7
  go_wp2_with fail
  refine (Next_any 6 0 true 2 _).mono ?_
  rintro e w' ⟨he, rfl⟩
  obtain rfl : e = .returned (.int .i64 0) := he
  go_wp2_with fail
  refine (Next_any 6 0 false 18 _).mono ?_
  rintro e w' ⟨he, rfl⟩
  obtain rfl : e = .returned (.int .i64 1) := he
  go_wp2_with fail
  refine (Life_any 17 0 _).mono ?_
  rintro e w' ⟨he, rfl⟩
  obtain rfl : e = .returned (.int .i64 120) := he
  go_wp2_with fail
  refine (Begins_any 6 0 2 _).mono ?_
  rintro e w' ⟨he, rfl⟩
  obtain rfl : e = .returned (.bool true) := he
  go_wp2_with fail
  refine (Text_any 1 _).mono ?_
  rintro e w' ⟨he, rfl⟩
  obtain rfl : e = .returned (.string ⟨#[111, 112, 101, 110]⟩) := he
  go_wp2
  go_ret
  exact ⟨rfl, rfl⟩
end Go.Proofs.Ytjhiiencakcajaa
