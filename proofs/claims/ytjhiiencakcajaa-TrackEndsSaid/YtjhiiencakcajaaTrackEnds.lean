/- Every input of TrackEnds answers true, and reads behind the call as it read before. No condition. -/
import Derived.Test.YtjhiiencakcajaaTrackRows
namespace Go.Proofs.Ytjhiiencakcajaa
set_option linter.unusedVariables false
open Go.RowKit
theorem wrap_mod32 (x : Nat) : (IntKind.i64.wrap (x : Int) % 32).toNat = x % 32 := by
  rw [IntKind.wrap_i64]; omega
theorem not_mod32 (m : Nat) (hm : m < 32) : (~~~ BitVec.ofNat 64 m).toNat % 32 = 31 - m := by
  rw [BitVec.toNat_not, BitVec.toNat_ofNat]
  have hm2 : m % 2 ^ 64 = m := Nat.mod_eq_of_lt (by omega)
  rw [hm2]; omega
theorem of_mod32 (f : Int) : (BitVec.ofInt 64 f).toNat % 32 = (f % 32).toNat := by
  have hb : ((BitVec.ofInt 64 f).toNat : Int) = f % 18446744073709551616 := by rw [BitVec.toNat_ofInt]; omega
  omega
theorem and_mod32 (a b : Nat) : (a &&& b) % 32 = (a % 32) &&& (b % 32) := Nat.and_mod_two_pow (n := 5)
theorem andNot_mod (f : Int) (m : Nat) (hm : m < 32) : ((bits .andNot .i64 f (m : Int)) % 32).toNat = (f % 32).toNat &&& (31 - m) := by
  show (IntKind.i64.wrap ((BitVec.ofInt 64 f &&& ~~~ BitVec.ofInt 64 (m : Int)).toNat : Int) % 32).toNat = _
  rw [wrap_mod32, BitVec.ofInt_natCast, BitVec.toNat_and, and_mod32, not_mod32 m hm, of_mod32]
theorem clr4 : ∀ x : Fin 32, (((x.val &&& 27) &&& 4) != 0) = false := by decide +kernel
theorem clr5 : ∀ x : Fin 32, (((x.val &&& 26) &&& 4) != 0) = false ∧ (((x.val &&& 26) &&& 1) != 0) = false := by decide +kernel
theorem fb_not4 (f : Int) : fb (bits .andNot .i64 f 4) 4 = false := by
  have := clr4 ⟨(f % 32).toNat, by omega⟩
  rw [show fb (bits .andNot .i64 f 4) 4 = _ from fb_nat _ 4 (by omega), show ((bits .andNot .i64 f 4) % 32).toNat = _ from andNot_mod f 4 (by omega)]; exact this
theorem fb_not5 (f : Int) : fb (bits .andNot .i64 f 5) 4 = false ∧ fb (bits .andNot .i64 f 5) 1 = false := by
  have := clr5 ⟨(f % 32).toNat, by omega⟩
  rw [show fb (bits .andNot .i64 f 5) 4 = _ from fb_nat _ 4 (by omega), show fb (bits .andNot .i64 f 5) 1 = _ from fb_nat _ 1 (by omega), show ((bits .andNot .i64 f 5) % 32).toNat = _ from andNot_mod f 5 (by omega)]; exact this
theorem ack_only (f : Int) : bits .and .i64 f 16 = 0 ∨ bits .and .i64 f 16 = 16 := by
  have h : ∀ x : Fin 32, x.val &&& 16 = 0 ∨ x.val &&& 16 = 16 := by decide +kernel
  have := h ⟨(f % 32).toNat, by omega⟩
  rw [show bits .and .i64 f 16 = _ from and32 f 16 (by omega)]
  simp only at this; omega
theorem nxt_half (first : Bool) : ∀ (f s k : Bool), nxt 6 (if first then 2 else 3) first false f s k = (if first then 2 else 3) := by cases first <;> decide
theorem nxt_half2 (first : Bool) : ∀ (s k : Bool), nxt 6 (if first then 2 else 3) (!first) false false s k = (if first then 2 else 3) := by cases first <;> decide
theorem Next_at (p st : Int) (out : Bool) (fl x : Int) (h : nxt p st out (fb fl 4) (fb fl 1) (fb fl 2) (fb fl 16) = x) (w : World) :
    Calls Try.prog 8 #[.int .i64 p, .int .i64 st, .bool out, .int .i64 fl] w fun e w' => e = .returned (.int .i64 x) ∧ w = w' := h ▸ Next_any p st out fl w
set_option maxRecDepth 100000 in
set_option maxHeartbeats 4000000 in
theorem TrackEnds_walk (first : Bool) (A : Option Addr) (n cap : Nat) (flags : Int) (w : World) (hr : SegRd w A n) (hm : n ≤ 9223372036854775807) :
    Calls Try.prog 5 #[.bool first, .slice A n cap, .int .i64 flags] w fun e w' => e = .returned (.bool true) ∧ Below w.heap.size w w' := by
  obtain ⟨F, hF, hF1, hF2⟩ : ∃ F, bits .or .i64 1 (bits .and .i64 flags 16) = F ∧ (∀ w, Calls Try.prog 8 #[.int .i64 6, .int .i64 1, .bool first, .int .i64 F] w fun e w' => e = .returned (.int .i64 (if first then 2 else 3)) ∧ w = w') ∧
      (∀ w, Calls Try.prog 8 #[.int .i64 6, .int .i64 (if first then 2 else 3), .bool (!first), .int .i64 F] w fun e w' => e = .returned (.int .i64 4) ∧ w = w') := by
    rcases ack_only flags with h | h
    · exact ⟨1, by rw [h]; rfl, fun w => Next_at _ _ _ _ _ (by cases first <;> decide) w, fun w => Next_at _ _ _ _ _ (by cases first <;> decide) w⟩
    · exact ⟨17, by rw [h]; rfl, fun w => Next_at _ _ _ _ _ (by cases first <;> decide) w, fun w => Next_at _ _ _ _ _ (by cases first <;> decide) w⟩
  obtain ⟨a16, ha16⟩ : ∃ a, bits .and .i64 flags 16 = a := ⟨_, rfl⟩
  rw [ha16] at hF
  have hn1 := fun (w : World) (fl : Int) => Next_at 6 (if first then 2 else 3) first (bits .andNot .i64 fl 4) (if first then 2 else 3) (by rw [fb_not4]; exact nxt_half first _ _ _) w
  have hn2 := fun (w : World) (fl : Int) => Next_at 6 (if first then 2 else 3) (!first) (bits .andNot .i64 fl 5) (if first then 2 else 3) (by rw [(fb_not5 fl).1, (fb_not5 fl).2]; exact nxt_half2 first _ _) w
  replace hF1 := Lib.hid hF1
  replace hF2 := Lib.hid hF2
  replace hn1 := Lib.hid hn1
  replace hn2 := Lib.hid hn2
  cases first
  · simp only [Bool.not_true, Bool.not_false, if_true, Bool.false_eq_true, if_false] at hF1 hF2 hn1 hn2
    go_enter Try.func5, Try.ntmps5
    go_wp2_with (go_at_call 8; refine (hF1.out _).mono ?_; rintro e w' ⟨rfl, rfl⟩)
    go_loopw [7, 9] (fun s i wr => ∃ k : Nat, i = .int .i64 k ∧ s = .int .i64 3 ∧ k ≤ n ∧ Below w.heap.size w wr) (fun _ i _ => n - (intOf i).toNat)
    case atStart => exact ⟨0, rfl, rfl, Nat.zero_le _, Below.refl _ _⟩
    case round =>
      obtain ⟨k, rfl, rfl, hk, bel⟩ := hrel
      by_cases hlt : k < n ∧ k < 50
      · obtain ⟨hlt, hlt2⟩ := hlt
        obtain ⟨b, o, rfl, hbl, hcl⟩ := hr (by omega)
        obtain ⟨out, fl, c0, c1⟩ := hcl k hlt
        clear hcl
        replace c0 := bel.cell (p := ⟨b, o + k * 2, none⟩) hbl |>.trans c0
        replace c1 := bel.cell (p := ⟨b, o + k * 2 + 1, none⟩) hbl |>.trans c1
        have hd : decide (k < n) = true := by simpa using hlt
        have hd2 : decide ((k : Int) < 50) = true := by simp; omega
        cases out
        · go_wp2_with (go_at_call 8; refine (hn1.out _ fl).mono ?_; rintro e w' ⟨rfl, rfl⟩)
          go_roundw
          case rel => exact ⟨k + 1, by go_num, rfl, by omega, bel.alloc bel.size _⟩
          case measure => simp [intOf]; omega
        · go_wp2_with (go_at_call 8; refine (hn2.out _ fl).mono ?_; rintro e w' ⟨rfl, rfl⟩)
          go_roundw
          case rel => exact ⟨k + 1, by go_num, rfl, by omega, bel.alloc bel.size _⟩
          case measure => simp [intOf]; omega
      · have hcond : decide (k < n) = false ∨ (decide (k < n) = true ∧ decide ((k : Int) < 50) = false) := by
          rcases Nat.lt_or_ge k n with h | h
          · exact .inr ⟨by simpa using h, by simp; omega⟩
          · exact .inl (by simp; omega)
        rcases hcond with hd | ⟨hd, hd2⟩
        all_goals
          go_wp2_with (first
            | (go_at_call 7; refine (opens_any _).mono ?_; rintro e w' ⟨rfl, rfl⟩)
            | (go_at_call 8; refine (hF2.out _).mono ?_; rintro e w' ⟨rfl, rfl⟩))
          go_ret
          exact ⟨rfl, bel⟩
  · simp only [Bool.not_true, Bool.not_false, if_true, Bool.false_eq_true, if_false] at hF1 hF2 hn1 hn2
    go_enter Try.func5, Try.ntmps5
    go_wp2_with (go_at_call 8; refine (hF1.out _).mono ?_; rintro e w' ⟨rfl, rfl⟩)
    go_loopw [7, 9] (fun s i wr => ∃ k : Nat, i = .int .i64 k ∧ s = .int .i64 2 ∧ k ≤ n ∧ Below w.heap.size w wr) (fun _ i _ => n - (intOf i).toNat)
    case atStart => exact ⟨0, rfl, rfl, Nat.zero_le _, Below.refl _ _⟩
    case round =>
      obtain ⟨k, rfl, rfl, hk, bel⟩ := hrel
      by_cases hlt : k < n ∧ k < 50
      · obtain ⟨hlt, hlt2⟩ := hlt
        obtain ⟨b, o, rfl, hbl, hcl⟩ := hr (by omega)
        obtain ⟨out, fl, c0, c1⟩ := hcl k hlt
        clear hcl
        replace c0 := bel.cell (p := ⟨b, o + k * 2, none⟩) hbl |>.trans c0
        replace c1 := bel.cell (p := ⟨b, o + k * 2 + 1, none⟩) hbl |>.trans c1
        have hd : decide (k < n) = true := by simpa using hlt
        have hd2 : decide ((k : Int) < 50) = true := by simp; omega
        cases out
        · go_wp2_with (go_at_call 8; refine (hn2.out _ fl).mono ?_; rintro e w' ⟨rfl, rfl⟩)
          go_roundw
          case rel => exact ⟨k + 1, by go_num, rfl, by omega, bel.alloc bel.size _⟩
          case measure => simp [intOf]; omega
        · go_wp2_with (go_at_call 8; refine (hn1.out _ fl).mono ?_; rintro e w' ⟨rfl, rfl⟩)
          go_roundw
          case rel => exact ⟨k + 1, by go_num, rfl, by omega, bel.alloc bel.size _⟩
          case measure => simp [intOf]; omega
      · have hcond : decide (k < n) = false ∨ (decide (k < n) = true ∧ decide ((k : Int) < 50) = false) := by
          rcases Nat.lt_or_ge k n with h | h
          · exact .inr ⟨by simpa using h, by simp; omega⟩
          · exact .inl (by simp; omega)
        rcases hcond with hd | ⟨hd, hd2⟩
        all_goals
          go_wp2_with (first
            | (go_at_call 7; refine (opens_any _).mono ?_; rintro e w' ⟨rfl, rfl⟩)
            | (go_at_call 8; refine (hF2.out _).mono ?_; rintro e w' ⟨rfl, rfl⟩))
          go_ret
          exact ⟨rfl, bel⟩
theorem TrackEnds_args (W : World) (args : Array Value) (hs : args.size = Try.f5.params.size) (hA : ∀ (j : Nat) t v, Try.f5.params[j]? = some t → args[j]? = some v → Arg Try.prog W t v) :
    Calls Try.prog 5 args W fun e W' => e = .returned (.bool true) ∧ Below W.heap.size W W' := by
  obtain ⟨v0, v1, v2, rfl⟩ := args3 hs
  obtain ⟨first, rfl⟩ := arg_bool Try.underlying4 (hA 0 4 v0 rfl rfl)
  obtain ⟨A, len, cap, rfl, h1, h2, h3⟩ := arg_segs (hA 1 27 v1 rfl rfl)
  obtain ⟨fl, rfl, _⟩ := arg_int Try.underlying3 (hA 2 3 v2 rfl rfl)
  unfold maxLen at h2
  exact TrackEnds_walk first A len cap fl W h3 (by omega)

set_option maxRecDepth 100000 in
theorem TrackEnds_lifted (os : Os) (started : os.Started) (H : Type) (enc : TypeId × Value → H) :
    ReturnsInHanded {} Try.checked os 5 .any (Rows.trackEndsSpec.pre6 enc Try.prog Try.f5 Rows.trackEndsRow.domain false) (Rows.trackEndsSpec.post enc Try.prog Try.f5 false true false false) :=
  law_lifted os started H enc (by kernel_rfl) Try.func5 rfl rfl (fun H ds h => by match ds, h with | [_, _, _], _ => exact ⟨rfl, rfl, rfl⟩) (by kernel_rfl)
    (ChangeSpec.witness6 (enc := enc) (C := Try.checked) false ⟨#[], #[.bool false, .slice none 0 0, .int .i64 0], []⟩ 8 (by kernel_rfl) (by kernel_rfl) (by kernel_rfl) (by kernel_rfl))
    TrackEnds_args

/-- the statement -/
theorem trackEnds_holds : Rows.TrackEndsSaid :=
  OpenClaim.holds_of_wide 5 Try.f5 rfl rfl rfl rfl rfl rfl rfl ⟨rfl, rfl, rfl, rfl, rfl⟩ rfl rfl rfl rfl rfl (by kernel_rfl) Try.func5 (by kernel_rfl)
    (of_decide_eq_true (by kernel_rfl)) (by unfold Func.isWrapper; first | (rw [if_pos (by decide +kernel)]; kernel_rfl) | (rw [if_neg (by decide +kernel)]; exact ⟨rfl, rfl⟩))
    (fun os started H enc _ => TrackEnds_lifted os started H enc)

end Go.Proofs.Ytjhiiencakcajaa
