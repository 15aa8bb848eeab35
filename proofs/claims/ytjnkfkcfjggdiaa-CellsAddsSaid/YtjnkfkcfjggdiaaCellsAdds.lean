/- Every input of CellsAdds answers true, and reads behind the call as it read before. No condition. -/
import Derived.Test.YtjnkfkcfjggdiaaCells2
import Derived.Test.YtjnkfkcfjggdiaaFrame
namespace Go.Proofs.Ytjnkfkcfjggdiaa
set_option linter.unusedVariables false
open Go.RowKit
/-- noughts, but s at place at -/
def onlyAt (n at_ : Nat) (s : Int) : List Int := (List.replicate n 0).set at_ s
theorem onlyAt_length (n a : Nat) (s : Int) : (onlyAt n a s).length = n := by simp [onlyAt]
theorem onlyAt_get (n a : Nat) (s : Int) (j : Nat) (hj : j < n) : (onlyAt n a s).getD j 0 = if j = a then s else 0 := by
  unfold onlyAt
  rw [List.getD_eq_getElem?_getD, List.getElem?_set]
  by_cases h : a = j
  · subst h; simp [hj]
  · rw [if_neg h, if_neg (fun e => h e.symm)]; simp [hj]
theorem celAt_only (n a : Nat) (s : Int) (h : a < n) : celAt (onlyAt n a s) a = s := by
  unfold celAt; rw [if_pos (by rw [onlyAt_length]; omega), Int.toNat_natCast, onlyAt_get n a s a h, if_pos rfl]
theorem celSet_only (n a : Nat) (s v : Int) (h : a < n) : celSet (onlyAt n a s) a v = onlyAt n a v := by
  unfold celSet; rw [if_pos (by rw [onlyAt_length]; omega), Int.toNat_natCast]; simp [onlyAt]
theorem only0 (n a : Nat) : onlyAt n a 0 = List.replicate n 0 := by
  unfold onlyAt; apply List.ext_getElem <;> simp [List.getElem_set]
structure AddsRel (n B : Nat) (w : World) (g h m at_ : Nat) (k : Nat) (s : Int) (wr : World) : Prop where
  hk : k ≤ n
  hs : 0 ≤ s ∧ s ≤ 18446744073709551615
  hc : Cel wr g h (onlyAt m at_ s)
  bel : Below B w wr
set_option maxHeartbeats 400000 in
theorem CellsAdds_walk (n0 i0 : Int) (A : Option Addr) (n cap : Nat) (l : List Int) (w : World) (hr : Rd .u64 w w.heap.size A n l) (hm : n ≤ 9223372036854775807) :
    Calls Try.prog 4 #[.int .i64 n0, .int .i64 i0, .slice A n cap] w fun e w' => e = .returned (.bool true) ∧ Below w.heap.size w w' := by
  obtain ⟨m0, hm0, hm1⟩ := modn n0 100 (by omega)
  obtain ⟨m, hmm, hmm1, hmm2⟩ : ∃ m : Nat, 1 + (m0 : Int) = (m : Int) ∧ 1 ≤ m ∧ m ≤ 100 := ⟨1 + m0, by push_cast; rfl, by omega, by omega⟩
  obtain ⟨a, ha, ha1⟩ := modn i0 m (by omega)
  have ha2 : a < m := by omega
  go_enter Try.func4, Try.ntmps4
  go_wp2_with (go_at_call 7; refine (CellsNew_yes m _ (by omega) (by omega)).mono ?_; rintro e w1 ⟨g, h, rfl, bel1, hg, hh, hc, _⟩; rw [← only0 m a] at hc)
  go_loopw [11, 12] (fun ss i wr => ∃ (k : Nat) (s : Int), i = .int .i64 k ∧ ss = .int .u64 s ∧ AddsRel n w.heap.size w g h m a k s wr) (fun _ i _ => n - (intOf i).toNat)
  case atStart => exact ⟨0, 0, rfl, rfl, Nat.zero_le _, by omega, hc, bel1⟩
  case round =>
    clear hc bel1
    obtain ⟨k, s, rfl, rfl, hk, hs, hc, bel⟩ := hrel
    by_cases hlt : k < n ∧ k < 50
    · obtain ⟨hlt, hlt50⟩ := hlt
      obtain ⟨b, o, rfl, hbl, hcl, hx⟩ := hr.at_ hlt
      replace hx := inr_u64 hx
      obtain ⟨x, hxe⟩ : ∃ x, x = l.getD k 0 := ⟨_, rfl⟩
      rw [← hxe] at hcl hx
      clear hxe
      replace hcl := bel.cell (p := ⟨b, o + k, none⟩) hbl |>.trans hcl
      have hd : decide (k < n) = true := by simpa using hlt
      have hd2 : decide ((k : Int) < 50) = true := by simp; omega
      have hadd := Add_any a x g h (onlyAt m a s) wr hc (by rw [onlyAt_length]; omega)
      rw [if_pos (by rw [onlyAt_length]; omega), celAt_only m a s ha2, celSet_only m a s _ ha2] at hadd
      have hwr : IntKind.u64.wrap (s + x) = (s + x) % 18446744073709551616 := by simp [IntKind.wrap, IntKind.bits, IntKind.signed]
      obtain ⟨y, hy⟩ : ∃ y, y = (s + x) % 18446744073709551616 := ⟨_, rfl⟩
      have hyb : 0 ≤ y ∧ y ≤ 18446744073709551615 := by omega
      rw [← hy] at hadd hwr
      clear hy
      replace hadd := Lib.hid hadd
      have hcy := Lib.hid (celAt_only m a y ha2)
      have hol := Lib.hid (onlyAt_length m a y)
      go_wp2_with (first
        | (go_at_call 12; refine hadd.out.mono ?_; rintro e w2 ⟨rfl, hc2, hu2⟩; have bel2 := bel.trans (hu2.below bel.size (fun k hk e => by subst e; omega)); clear hu2)
        | (go_at_call 10; refine (Load_any a g h (onlyAt m a y) _ hc2 (by rw [hol.out]; omega)).mono ?_; rw [hcy.out]; rintro e w' ⟨rfl, rfl⟩))
      go_roundw
      case rel => exact ⟨k + 1, y, by go_num, rfl, by omega, hyb, hc2, bel2⟩
      case measure => simp [intOf]; omega
    · have hcond : decide (k < n) = false ∨ (decide (k < n) = true ∧ decide ((k : Int) < 50) = false) := by
        rcases Nat.lt_or_ge k n with h | h
        · exact .inr ⟨by simpa using h, by simp; omega⟩
        · exact .inl (by simp; omega)
      rcases hcond with hd | ⟨hd, hd2⟩
      all_goals
        go_wp2_with (go_at_call 13; refine (Copy_any _ _ _ _ hc (by rw [onlyAt_length]; omega)).mono ?_; rintro e w2 ⟨v, rfl, own, bel2⟩; obtain ⟨A2, c2, rfl, _, _, rd⟩ := own.form (onlyAt_length m a s))
        have bel3 : Below w.heap.size w w2 := bel.trans (bel2.mono bel.size)
        go_loop [14] (fun i => ∃ k : Nat, i = .int .i64 k ∧ k ≤ m) (fun i => m - (intOf i).toNat)
        case atStart => exact ⟨0, rfl, Nat.zero_le _⟩
        case round =>
          obtain ⟨j, rfl, hj⟩ := hrel
          by_cases hlt2 : j < m
          · obtain ⟨b, o, rfl, hbl, hcl, hx⟩ := rd.at_ hlt2
            rw [onlyAt_get m a s j hlt2] at hcl
            have hd3 : decide (m ≤ j) = false := by simp; omega
            by_cases hja : j = a
            · subst hja
              rw [if_pos rfl] at hcl
              have hne : ((j : Int) != (j : Int)) = false := by simp
              go_wp2
              go_round
              case rel => exact ⟨j + 1, by go_num, by omega⟩
              case measure => simp [intOf]; omega
            · rw [if_neg hja] at hcl
              have hne : ((j : Int) != (a : Int)) = true := by simp; omega
              have hne2 : ((j : Int) == (a : Int)) = false := by simp; omega
              go_wp2
              go_round
              case rel => exact ⟨j + 1, by go_num, by omega⟩
              case measure => simp [intOf]; omega
          · have hmm : ((m : Int) == (m : Int)) = true := by simp
            go_wp2_with (go_at_call 11; refine (swaps_any _).mono ?_; rintro e w3 ⟨rfl, hb3⟩)
            all_goals (go_ret; exact ⟨rfl, bel3.trans (hb3.mono bel3.size)⟩)
theorem CellsAdds_args (W : World) (args : Array Value) (hs : args.size = Try.f4.params.size) (hA : ∀ (j : Nat) t v, Try.f4.params[j]? = some t → args[j]? = some v → Arg Try.prog W t v) :
    Calls Try.prog 4 args W fun e W' => e = .returned (.bool true) ∧ Below W.heap.size W W' := by
  obtain ⟨v0, v1, v2, rfl⟩ := args3 hs
  obtain ⟨a, rfl, wa⟩ := arg_int Try.underlying3 (hA 0 3 v0 rfl rfl)
  obtain ⟨b, rfl, wb⟩ := arg_int Try.underlying3 (hA 1 3 v1 rfl rfl)
  obtain ⟨A, len, cap, l, rfl, h1, h2, h3⟩ := arg_ints Try.underlying23 Try.underlying22 (by kernel_rfl) (hA 2 23 v2 rfl rfl)
  unfold maxLen at h2
  exact CellsAdds_walk a b A len cap l W h3 (by omega)

set_option maxRecDepth 100000 in
theorem CellsAdds_lifted (os : Os) (started : os.Started) (H : Type) (enc : TypeId × Value → H) :
    ReturnsInHanded {} Try.checked os 4 .any (Rows.cellsAddsSpec.pre6 enc Try.prog Try.f4 Rows.cellsAddsRow.domain false) (Rows.cellsAddsSpec.post enc Try.prog Try.f4 false true false false) :=
  law_lifted os started H enc (by kernel_rfl) Try.func4 rfl rfl (fun H ds h => by match ds, h with | [_, _, _], _ => exact ⟨rfl, rfl, rfl⟩) (by kernel_rfl)
    (ChangeSpec.witness6 (enc := enc) (C := Try.checked) false ⟨#[], #[.int .i64 0, .int .i64 0, .slice none 0 0], []⟩ 8 (by kernel_rfl) (by kernel_rfl) (by kernel_rfl) (by kernel_rfl))
    CellsAdds_args

/-- the statement -/
theorem cellsAdds_holds : Rows.CellsAddsSaid :=
  OpenClaim.holds_of_wide 4 Try.f4 rfl rfl rfl rfl rfl rfl rfl ⟨rfl, rfl, rfl, rfl, rfl⟩ rfl rfl rfl rfl rfl (by kernel_rfl) Try.func4 (by kernel_rfl)
    (of_decide_eq_true (by kernel_rfl)) (by unfold Func.isWrapper; first | (rw [if_pos (by decide +kernel)]; kernel_rfl) | (rw [if_neg (by decide +kernel)]; exact ⟨rfl, rfl⟩))
    (fun os started H enc _ => CellsAdds_lifted os started H enc)

end Go.Proofs.Ytjnkfkcfjggdiaa
