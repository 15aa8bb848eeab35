/- The walks of Copy, and of the laws' helper. -/
import Derived.Test.YtpkcajnlcpmmcaaCells
namespace Go.Proofs.Ytpkcajnlcpmmcaa
set_option linter.unusedVariables false
set_option linter.unusedSimpArgs false
open Go.RowKit
theorem info_u64 : (Try.prog.info? 23).map (fun i => (i.zero, i.size, i.bytes)) = some (some (.int .u64 0), 1, 8) := by kernel_rfl
set_option maxHeartbeats 400000 in
theorem Copy_any (g h : Nat) (l : List Int) (w : World) (hc : Cel w g h l) (hm : l.length ≤ 65536) :
    Calls Try.prog 29 #[.pointer (some ⟨g, 0, none⟩)] w fun e w' => ∃ v, e = .returned v ∧ Own .u64 23 w' w.heap.size v l ∧ Below w.heap.size w w' := by
  obtain ⟨i0, hi, hz0, hz1, hz2⟩ := info_parts info_u64
  obtain ⟨n, hn⟩ : ∃ n, n = l.length := ⟨_, rfl⟩
  have hn2 : n ≤ 65536 := by omega
  replace hn := Lib.hid hn
  go_enter Try.func29, Try.ntmps29
  go_wp2_with (go_at_call 35; refine (Size_any _ _ _ _ hc).mono ?_; rw [← hn.out]; rintro e w' ⟨rfl, rfl⟩)
  go_loopw [3, 7] (fun v ix wr => ∃ k : Nat, k ≤ n ∧ ix = .int .i64 k ∧ Own .u64 23 wr w.heap.size v (l.take k) ∧ Below w.heap.size w wr) (fun _ ix _ => n - (intOf ix).toNat)
  case atStart => exact ⟨0, Nat.zero_le _, rfl, Own.nil _ _ _ _, Below.refl _ _⟩
  case round =>
    obtain ⟨k, hk, rfl, own, bel⟩ := hrel
    by_cases hlt : k < n
    · have hl : (l.take k).length = k := by rw [List.length_take]; have := hn.out; omega
      have ht : l.take (k + 1) = l.take k ++ [l.getD k 0] := by
        rw [List.take_succ_eq_append_getElem (by have := hn.out; omega), List.getD_eq_getElem?_getD, List.getElem?_eq_getElem (by have := hn.out; omega)]; rfl
      have hv : celAt l k = l.getD k 0 := by unfold celAt; rw [if_pos (by have := hn.out; omega)]; rfl
      have hr := (hc.at_ (k := k) (by have := hn.out; omega)).2.2
      obtain ⟨x, hx⟩ : ∃ x, x = l.getD k 0 := ⟨_, rfl⟩
      rw [← hx] at ht hv hr
      replace ht := Lib.hid ht
      replace hl := Lib.hid hl
      replace hv := Lib.hid hv
      clear hx
      have hc2 := hc.bel bel
      have hrd := Rd.new .u64 wr 23 [x] (by intro y hy; simp at hy; subst hy; exact u64_inr hr) #[.int .u64 x] rfl 1 rfl
      go_wp2_with (first
        | (go_at_call 27; refine (Load_any _ _ _ _ _ hc2 hm).mono ?_; rw [hv.out]; rintro e w' ⟨rfl, rfl⟩)
        | (at_builtin; refine wpList_app _ rfl (.tmp 10) (.tmp 14) 30 rfl .u64 w.heap.size 23 i0 (.int .u64 0) 8 Try.underlying30 hi hz0 hz1 hz2 rfl u3 rfl (l.take k) (own.alloc _) (wr.heap.size + 1) _ 1 1 rfl [x] hrd (by rw [hl.out]; have := hn.out; omega) (by decide) (by have := bel.size; simp; omega) ?_; intro v1 w1 own1 hg1 _; have bel1 : Below w.heap.size w w1 := (bel.alloc bel.size _).grown hg1 (by have := bel.size; simp; omega) (fun g h => (own.lt g h).1); clear hg1))
      go_roundw
      case rel => exact ⟨k + 1, by omega, by go_num, by rw [ht.out]; exact own1, bel1⟩
      case measure => simp [intOf]; omega
    · have ht : l.take k = l := List.take_of_length_le (by have := hn.out; omega)
      rw [ht] at own
      go_wp2
      go_ret
      exact ⟨_, rfl, own, bel⟩
end Go.Proofs.Ytpkcajnlcpmmcaa
