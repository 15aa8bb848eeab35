/- Every input of TrackRows answers true, and reads behind the call as it read before. No condition. -/
import Derived.Test.YtjhiiencakcajaaTrackNext
import Derived.Test.YtjhiiencakcajaaHeap
namespace Go.Proofs.Ytjhiiencakcajaa
set_option linter.unusedVariables false
open Go.RowKit
/-- the rows of segments -/
def SegRd (w : World) (A : Option Addr) (n : Nat) : Prop :=
  0 < n → ∃ b o, A = some ⟨b, o, none⟩ ∧ b < w.heap.size ∧ ∀ i, i < n → ∃ (out : Bool) (fl : Int), w.cell? ⟨b, o + i * 2, none⟩ = some (.bool out) ∧ w.cell? ⟨b, o + i * 2 + 1, none⟩ = some (.int .i64 fl)
theorem arg_segs {W : World} {v : Value} (h : Arg Try.prog W 27 v) : ∃ A len cap, v = .slice A len cap ∧ len ≤ cap ∧ cap ≤ maxLen ∧ SegRd W A len := by
  obtain ⟨A, len, cap, m, rfl, h1, h2, h3⟩ := arg_slice Try.underlying27 h
  have hC : Try.prog.cellsOf 23 = 2 := by kernel_rfl
  have hCi : Try.prog.cellsOf 3 = 1 := by kernel_rfl
  have hCb : Try.prog.cellsOf 4 = 1 := by kernel_rfl
  rw [hC] at h3
  have h4 := slice_rows (by omega) h3
  refine ⟨A, len, cap, rfl, h1, h2, fun hp => ?_⟩
  obtain ⟨b, o, rfl, hb, hi⟩ := h4 hp
  refine ⟨b, o, rfl, hb, fun i hil => ?_⟩
  obtain ⟨ys, hc, hl, hr⟩ := hi i hil
  obtain ⟨m', _, hf⟩ := rdg_struct Try.underlying23 hr
  obtain ⟨x0, e0⟩ := fld_bool (i := 0) hf rfl Try.underlying4 hCb
  obtain ⟨x1, e1, _⟩ := fld_int (i := 1) hf rfl Try.underlying3 hCi
  exact ⟨x0, x1, (hc 0 (by omega)).trans e0, (hc 1 (by omega)).trans e1⟩
theorem nxt_dec : ∀ (st : Fin 5) (out r f s k : Bool), let x := nxt 6 (st.val : Int) out r f s k
    0 ≤ x ∧ x ≤ 4 ∧ (r = true → x = 4) ∧ (st.val = 4 → x = 4 ∨ (x = 0 ∧ (s && !f && !r && !k) = true ∧ out = true)) ∧ (x = 1 → st.val = 1 ∨ (st.val = 0 ∧ out = false ∧ k = true)) := by decide +kernel
theorem nxt_class (st : Int) (h : 0 ≤ st ∧ st ≤ 4) (out r f s k : Bool) :
    (0 ≤ nxt 6 st out r f s k ∧ nxt 6 st out r f s k ≤ 4) ∧
    ((r = true ∧ nxt 6 st out r f s k = 4) ∨ (r = false ∧ st ≠ 4 ∧ nxt 6 st out r f s k ≠ 1) ∨ (r = false ∧ st = 1 ∧ nxt 6 st out r f s k = 1) ∨
     (r = false ∧ st = 0 ∧ nxt 6 st out r f s k = 1 ∧ out = false ∧ k = true) ∨ (r = false ∧ st = 4 ∧ nxt 6 st out r f s k = 4) ∨
     (r = false ∧ st = 4 ∧ nxt 6 st out r f s k = 0 ∧ (s && !f && !r && !k) = true ∧ out = true)) := by
  obtain ⟨n, rfl⟩ := Int.eq_ofNat_of_zero_le h.1
  have hd := nxt_dec ⟨n, by omega⟩ out r f s k
  simp only at hd
  obtain ⟨h1, h2, h3, h4, h5⟩ := hd
  generalize nxt 6 (n : Int) out r f s k = x at *
  refine ⟨⟨h1, h2⟩, ?_⟩
  cases r
  · by_cases hn : n = 4
    · rcases h4 hn with h | ⟨h6, h7, h8⟩
      · exact .inr (.inr (.inr (.inr (.inl ⟨rfl, by omega, h⟩))))
      · exact .inr (.inr (.inr (.inr (.inr ⟨rfl, by omega, h6, h7, h8⟩))))
    · by_cases hx : x = 1
      · rcases h5 hx with h | ⟨h6, h7, h8⟩
        · exact .inr (.inr (.inl ⟨rfl, by omega, hx⟩))
        · exact .inr (.inr (.inr (.inl ⟨rfl, by omega, hx, h7, h8⟩)))
      · exact .inr (.inl ⟨rfl, by omega, hx⟩)
  · exact .inl ⟨rfl, h3 rfl⟩
theorem fb16 (fl : Int) : (bits .and .i64 fl 16 == 0) = !fb fl 16 := by unfold fb; simp [bne]
structure RowsRel (n B : Nat) (w : World) (k : Nat) (s : Int) (wr : World) : Prop where
  hk : k ≤ n
  hs : 0 ≤ s ∧ s ≤ 4
  bel : Below B w wr
set_option maxRecDepth 100000 in
set_option maxHeartbeats 4000000 in
theorem TrackRows_walk (A : Option Addr) (n cap : Nat) (w : World) (hr : SegRd w A n) (hm : n ≤ 9223372036854775807) :
    Calls Try.prog 4 #[.slice A n cap] w fun e w' => e = .returned (.bool true) ∧ Below w.heap.size w w' := by
  go_enter Try.func4, Try.ntmps4
  go_wp2_with fail
  go_loopw [3, 4, 5] (fun ss sh i wr => ∃ (k : Nat) (s : Int), i = .int .i64 k ∧ ss = .int .i64 s ∧ sh = .bool (s == 4) ∧ RowsRel n w.heap.size w k s wr) (fun _ _ i _ => n - (intOf i).toNat)
  case atStart => exact ⟨0, 0, rfl, rfl, rfl, Nat.zero_le _, by omega, Below.refl _ _⟩
  case round =>
    obtain ⟨k, s, rfl, rfl, rfl, hk, hs, bel⟩ := hrel
    by_cases hlt : k < n ∧ k < 100
    · obtain ⟨hlt, hlt2⟩ := hlt
      obtain ⟨b, o, rfl, hbl, hcl⟩ := hr (by omega)
      obtain ⟨out, fl, c0, c1⟩ := hcl k hlt
      clear hcl
      replace c0 := bel.cell (p := ⟨b, o + k * 2, none⟩) hbl |>.trans c0
      replace c1 := bel.cell (p := ⟨b, o + k * 2 + 1, none⟩) hbl |>.trans c1
      have hd : decide (k < n) = true := by simpa using hlt
      have hd2 : decide ((k : Int) < 100) = true := by simp; omega
      have hN := fun w => Next_any 6 s out fl w
      have hcls := nxt_class s hs out (fb fl 4) (fb fl 1) (fb fl 2) (fb fl 16)
      have e4 : (bits .and .i64 fl 4 != 0) = fb fl 4 := rfl
      have e23 := flags23 fl
      have e16 := fb16 fl
      have e23' : (fb fl 2 && !fb fl 1 && !fb fl 4 && !fb fl 16) = (fb fl 2 && !fb fl 1 && !fb fl 4 && !fb fl 16) := rfl
      obtain ⟨x, hx⟩ : ∃ x, x = nxt 6 s out (fb fl 4) (fb fl 1) (fb fl 2) (fb fl 16) := ⟨_, rfl⟩
      rw [← hx] at hcls
      rw [← hx] at hN
      replace hN := Lib.hid hN
      clear hx e23'
      generalize fb fl 4 = r at *
      generalize fb fl 1 = f at *
      generalize fb fl 2 = sy at *
      generalize fb fl 16 = ak at *
      obtain ⟨hxb, hcls⟩ := hcls
      have hgo : (r = true ∧ x = 4 ∧ s = 4) ∨ (r = true ∧ x = 4 ∧ (s == 4) = false) ∨ (r = false ∧ (s == 4) = false ∧ (x == 1) = false) ∨ (r = false ∧ s = 1 ∧ x = 1) ∨
          (r = false ∧ s = 0 ∧ x = 1 ∧ out = false ∧ ak = true) ∨ (r = false ∧ s = 4 ∧ x = 4) ∨ (r = false ∧ s = 4 ∧ x = 0 ∧ (sy && !f && !r && !ak) = true ∧ out = true) := by
        rcases hcls with ⟨h1, h2⟩ | ⟨h1, h2, h3⟩ | h | h | h | h
        · by_cases h4 : s = 4
          · exact .inl ⟨h1, h2, h4⟩
          · exact .inr (.inl ⟨h1, h2, by simpa using h4⟩)
        · exact .inr (.inr (.inl ⟨h1, by simpa using h2, by simpa using h3⟩))
        · exact .inr (.inr (.inr (.inl h)))
        · exact .inr (.inr (.inr (.inr (.inl h))))
        · exact .inr (.inr (.inr (.inr (.inr (.inl h)))))
        · exact .inr (.inr (.inr (.inr (.inr (.inr h)))))
      clear hcls
      rcases hgo with ⟨rfl, rfl, rfl⟩ | ⟨rfl, rfl, hs4⟩ | ⟨rfl, hs4, hx1⟩ | ⟨rfl, rfl, rfl⟩ | ⟨rfl, rfl, rfl, rfl, rfl⟩ | ⟨rfl, rfl, rfl⟩ | ⟨rfl, rfl, rfl, hsy, rfl⟩
      all_goals
        try rw [hsy] at e23
        go_wp2_with (go_at_call 8; refine (hN.out _).mono ?_; rintro e w' ⟨rfl, rfl⟩)
        go_quiet (fail)
        go_wp2
        go_roundw
        case rel => exact ⟨k + 1, _, by go_num, rfl, rfl, by omega, hxb, below_drewN (bel.alloc bel.size _) nq⟩
        case measure => simp [intOf]; omega
    · have hcond : decide (k < n) = false ∨ (decide (k < n) = true ∧ decide ((k : Int) < 100) = false) := by
        rcases Nat.lt_or_ge k n with h | h
        · exact .inr ⟨by simpa using h, by simp; omega⟩
        · exact .inl (by simp; omega)
      rcases hcond with hd | ⟨hd, hd2⟩
      all_goals
        go_wp2_with (go_at_call 7; refine (opens_any _).mono ?_; rintro e w' ⟨rfl, rfl⟩)
        go_ret
        exact ⟨rfl, bel⟩
theorem TrackRows_args (W : World) (args : Array Value) (hs : args.size = Try.f4.params.size) (hA : ∀ (j : Nat) t v, Try.f4.params[j]? = some t → args[j]? = some v → Arg Try.prog W t v) :
    Calls Try.prog 4 args W fun e W' => e = .returned (.bool true) ∧ Below W.heap.size W W' := by
  obtain ⟨v0, rfl⟩ := args1 hs
  obtain ⟨A, len, cap, rfl, h1, h2, h3⟩ := arg_segs (hA 0 27 v0 rfl rfl)
  unfold maxLen at h2
  exact TrackRows_walk A len cap W h3 (by omega)

set_option maxRecDepth 100000 in
theorem TrackRows_lifted (os : Os) (started : os.Started) (H : Type) (enc : TypeId × Value → H) :
    ReturnsInHanded {} Try.checked os 4 .any (Rows.trackRowsSpec.pre6 enc Try.prog Try.f4 Rows.trackRowsRow.domain false) (Rows.trackRowsSpec.post enc Try.prog Try.f4 false true false false) :=
  law_lifted os started H enc (by kernel_rfl) Try.func4 rfl rfl (fun H ds h => by match ds, h with | [_], _ => exact ⟨rfl, rfl, rfl⟩) (by kernel_rfl)
    (ChangeSpec.witness6 (enc := enc) (C := Try.checked) false ⟨#[], #[.slice none 0 0], []⟩ 8 (by kernel_rfl) (by kernel_rfl) (by kernel_rfl) (by kernel_rfl))
    TrackRows_args

/-- the statement -/
theorem trackRows_holds : Rows.TrackRowsSaid :=
  OpenClaim.holds_of_wide 4 Try.f4 rfl rfl rfl rfl rfl rfl rfl ⟨rfl, rfl, rfl, rfl, rfl⟩ rfl rfl rfl rfl rfl (by kernel_rfl) Try.func4 (by kernel_rfl)
    (of_decide_eq_true (by kernel_rfl)) (by unfold Func.isWrapper; first | (rw [if_pos (by decide +kernel)]; kernel_rfl) | (rw [if_neg (by decide +kernel)]; exact ⟨rfl, rfl⟩))
    (fun os started H enc _ => TrackRows_lifted os started H enc)

end Go.Proofs.Ytjhiiencakcajaa
