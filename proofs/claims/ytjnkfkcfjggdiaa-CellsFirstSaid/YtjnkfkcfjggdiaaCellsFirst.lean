/- Every input of CellsFirst answers true, and reads behind the call as it read before. No condition. -/
import Derived.Test.YtjnkfkcfjggdiaaCells2
import Derived.Test.YtjnkfkcfjggdiaaFrame
namespace Go.Proofs.Ytjnkfkcfjggdiaa
set_option linter.unusedVariables false
open Go.RowKit
structure FirstRel (n B : Nat) (w : World) (was : Int) (g h k : Nat) (v d : Int) (wr : World) : Prop where
  hk : k ≤ n
  hk50 : k ≤ 50
  hv : 0 ≤ v ∧ v ≤ 18446744073709551615
  hc : Cel wr g h [v]
  bel : Below B w wr
  z : k = 0 → v = was
  p : 0 < k → 1 ≤ d
  hd : 0 ≤ d ∧ d ≤ k
set_option maxHeartbeats 400000 in
theorem CellsFirst_walk (was : Int) (A : Option Addr) (n cap : Nat) (l : List Int) (w : World) (hw : 0 ≤ was ∧ was ≤ 18446744073709551615) (hr : Rd .u64 w w.heap.size A n l) (hm : n ≤ 9223372036854775807) :
    Calls Try.prog 3 #[.int .u64 was, .slice A n cap] w fun e w' => e = .returned (.bool true) ∧ Below w.heap.size w w' := by
  go_enter Try.func3, Try.ntmps3
  go_wp2_with (first
    | (go_at_call 7; refine (CellsNew_yes 1 _ (by omega) (by omega)).mono ?_; rintro e w1 ⟨g, h, rfl, bel1, hg, hh, hc, _⟩; have hc0 : Cel w1 g h [0] := hc; clear hc)
    | (go_at_call 8; refine (Store_any 0 was g h [0] _ hc0 (by decide) (u64_inr hw)).mono ?_; rintro e w2 ⟨rfl, hc2, hu2⟩; have hc2' : Cel w2 g h [was] := hc2; have bel2 := bel1.trans (hu2.below bel1.size (fun k hk e => by subst e; omega)); clear hc2 hu2))
  go_loopw [7, 8, 9] (fun sv sd i wr => ∃ (k : Nat) (v d : Int), i = .int .i64 k ∧ sv = .int .u64 v ∧ sd = .int .i64 d ∧ FirstRel n w.heap.size w was g h k v d wr) (fun _ _ i _ => n - (intOf i).toNat)
  case atStart => exact ⟨0, was, 0, rfl, rfl, rfl, Nat.zero_le _, Nat.zero_le _, hw, hc2', bel2, fun _ => rfl, fun h => absurd h (by omega), by omega, by omega⟩
  case round =>
    obtain ⟨k, v, d, rfl, rfl, rfl, hk, hk50, hv, hc, bel, hz, hp, hd0, hd1⟩ := hrel
    clear hc0 hc2' bel1 bel2
    have hz := Lib.hid hz
    by_cases hlt : k < n ∧ k < 50
    · obtain ⟨hlt, hlt50⟩ := hlt
      obtain ⟨b, o, rfl, hbl, hcl, hx⟩ := hr.at_ hlt
      replace hx := inr_u64 hx
      obtain ⟨x, hxe⟩ : ∃ x, x = l.getD k 0 := ⟨_, rfl⟩
      rw [← hxe] at hcl hx
      clear hxe
      have hcx := Lib.hid (fun w1 (h : Below w.heap.size w w1) => h.cell (p := ⟨b, o + k, none⟩) hbl |>.trans hcl)
      replace hcl := hcx.out wr bel
      have hd : decide ((k : Int) < n) = true := by simpa using hlt
      have hd2 : decide ((k : Int) < 50) = true := by simp; omega
      by_cases he : v = was
      · obtain rfl : v = was := he
        have hcas := Cas_any 0 v x g h [v] wr hc (by simp) (u64_inr hx)
        rw [if_pos (by simp [celAt]), decide_eq_true (by simp [celAt])] at hcas
        replace hcas := Lib.hid hcas
        go_wp2_with (first
          | (go_at_call 9; refine hcas.out.mono ?_; rintro e w2 ⟨rfl, hc2, hu2⟩; have hc3 : Cel w2 g h [x] := hc2; have bel2 := bel.trans (hu2.below bel.size (fun k hk e => by subst e; omega)); have hcl2 := hcx.out w2 bel2; clear hc2 hu2)
          | (go_at_call 10; refine (Load_any 0 g h [x] _ hc3 (by simp)).mono ?_; rintro e w' ⟨he', rfl⟩; obtain rfl : e = .returned (.int .u64 x) := he'))
        go_roundw
        case rel => exact ⟨k + 1, x, d + 1, by go_num, rfl, by go_num, by omega, by omega, hx, hc3, bel2, fun h => absurd h (by omega), fun _ => by omega, by omega, by omega⟩
        case measure => simp [intOf]; omega
      · have hcas := Cas_any 0 was x g h [v] wr hc (by simp) (u64_inr hx)
        rw [if_neg (by simp [celAt]; exact he), decide_eq_false (by simp [celAt]; exact he)] at hcas
        replace hcas := Lib.hid hcas
        have hne : (v == was) = false := by simpa using he
        go_wp2_with (first
          | (go_at_call 9; refine hcas.out.mono ?_; rintro e w2 ⟨rfl, hc3, hu2⟩; have bel2 := bel.trans (hu2.below bel.size (fun k hk e => by subst e; omega)); have hcl2 := hcx.out w2 bel2; clear hu2)
          | (go_at_call 10; refine (Load_any 0 g h [v] _ hc3 (by simp)).mono ?_; rintro e w' ⟨he', rfl⟩; obtain rfl : e = .returned (.int .u64 v) := he'))
        go_roundw
        case rel => exact ⟨k + 1, v, d, by go_num, rfl, rfl, by omega, by omega, hv, hc3, bel2, fun h => absurd h (by omega), fun _ => by
            rcases Nat.eq_zero_or_pos k with h0 | h0
            · exact absurd (hz.out h0) he
            · exact hp h0, by omega, by omega⟩
        case measure => simp [intOf]; omega
    · have hlast : Hid (n = 0 ∨ 0 < d) := by
        show n = 0 ∨ 0 < d
        rcases Nat.eq_zero_or_pos n with h | h
        · exact .inl h
        · exact .inr (by have := hp (by omega); omega)
      have hcond : decide ((k : Int) < n) = false ∨ (decide ((k : Int) < n) = true ∧ decide ((k : Int) < 50) = false) := by
        rcases Nat.lt_or_ge k n with h | h
        · exact .inr ⟨by simpa using h, by simp; omega⟩
        · exact .inl (by simp; omega)
      have hn0 : ((n : Int) == 0) = true ∨ (((n : Int) == 0) = false ∧ decide (0 < d) = true) := by
        rcases Nat.eq_zero_or_pos n with h | h
        · exact .inl (by simp; omega)
        · exact .inr ⟨by simp; omega, by have := hlast.out; simp; omega⟩
      rcases hcond with hd | ⟨hd, hd2⟩ <;> rcases hn0 with h0 | ⟨h0, h1⟩
      all_goals
        go_wp2_with (go_at_call 11; refine (swaps_any _).mono ?_; rintro e w2 ⟨rfl, hb2⟩)
        all_goals (go_ret; exact ⟨rfl, bel.trans (hb2.mono bel.size)⟩)
theorem CellsFirst_args (W : World) (args : Array Value) (hs : args.size = Try.f3.params.size) (hA : ∀ (j : Nat) t v, Try.f3.params[j]? = some t → args[j]? = some v → Arg Try.prog W t v) :
    Calls Try.prog 3 args W fun e W' => e = .returned (.bool true) ∧ Below W.heap.size W W' := by
  obtain ⟨v0, v1, rfl⟩ := args2 hs
  obtain ⟨a, rfl, wa⟩ := arg_int Try.underlying22 (hA 0 22 v0 rfl rfl)
  obtain ⟨A, len, cap, l, rfl, h1, h2, h3⟩ := arg_ints Try.underlying23 Try.underlying22 (by kernel_rfl) (hA 1 23 v1 rfl rfl)
  unfold maxLen at h2
  exact CellsFirst_walk a A len cap l W (inr_u64 wa) h3 (by omega)

set_option maxRecDepth 100000 in
theorem CellsFirst_lifted (os : Os) (started : os.Started) (H : Type) (enc : TypeId × Value → H) :
    ReturnsInHanded {} Try.checked os 3 .any (Rows.cellsFirstSpec.pre6 enc Try.prog Try.f3 Rows.cellsFirstRow.domain false) (Rows.cellsFirstSpec.post enc Try.prog Try.f3 false true false false) :=
  law_lifted os started H enc (by kernel_rfl) Try.func3 rfl rfl (fun H ds h => by match ds, h with | [_, _], _ => exact ⟨rfl, rfl, rfl⟩) (by kernel_rfl)
    (ChangeSpec.witness6 (enc := enc) (C := Try.checked) false ⟨#[], #[.int .u64 0, .slice none 0 0], []⟩ 8 (by kernel_rfl) (by kernel_rfl) (by kernel_rfl) (by kernel_rfl))
    CellsFirst_args

/-- the statement -/
theorem cellsFirst_holds : Rows.CellsFirstSaid :=
  OpenClaim.holds_of_wide 3 Try.f3 rfl rfl rfl rfl rfl rfl rfl ⟨rfl, rfl, rfl, rfl, rfl⟩ rfl rfl rfl rfl rfl (by kernel_rfl) Try.func3 (by kernel_rfl)
    (of_decide_eq_true (by kernel_rfl)) (by unfold Func.isWrapper; first | (rw [if_pos (by decide +kernel)]; kernel_rfl) | (rw [if_neg (by decide +kernel)]; exact ⟨rfl, rfl⟩))
    (fun os started H enc _ => CellsFirst_lifted os started H enc)

end Go.Proofs.Ytjnkfkcfjggdiaa
