/- The walks of package sum. -/
import Derived.Test.YtlhfbmoodehoiaaRows
import Derived.Test.YtlhfbmoodehoiaaMem
import Derived.Test.YtlhfbmoodehoiaaSumPlain
namespace Go.Proofs.Ytlhfbmoodehoiaa
set_option linter.unusedVariables false
set_option linter.unusedSimpArgs false
open Go.RowKit
set_option maxHeartbeats 400000 in
theorem fold_any (n : Int) (w : World) (h0 : 0 ≤ n) (h1 : n ≤ 4611686018427387904) :
    Calls Try.prog 47 #[.int .u64 n] w fun e w' => e = .returned (.int .u32 (fo n)) ∧ w = w' := by
  go_enter Try.func47, Try.ntmps47
  go_wp2
  go_loop [0] (fun i => ∃ k : Int, 0 ≤ k ∧ k ≤ 4611686018427387904 ∧ fo k = fo n ∧ i = .int .u64 k) (fun i => (intOf i).toNat)
  case atStart => exact ⟨n, h0, h1, rfl, rfl⟩
  case round =>
    obtain ⟨k, hk0, hk1, hk2, rfl⟩ := hrel
    have H := Lib.hid hk2; clear hk2
    go_wp2
    · have hk : 65535 < k := by assumption
      exact ⟨⟨_, by omega, by omega, by rw [fo_step hk]; exact H.out, rfl⟩, by simp [intOf]; omega⟩
    · have hk : k ≤ 65535 := by assumption
      go_ret
      exact ⟨by rw [← H.out, fo_small hk0 hk]; rfl, rfl⟩
set_option maxHeartbeats 400000 in
theorem More_any (n : Int) (l : List Int) (A : Option Addr) (len c B : Nat) (w : World) (h0 : 0 ≤ n) (h1 : n ≤ 4294967295) (hl : len ≤ 100000) (hr : Rd .u8 w B A len l) :
    Calls Try.prog 42 #[.int .u32 n, .slice A len c] w fun e w' => e = .returned (.int .u32 (fo (n + sb true l))) ∧ w = w' := by
  have hb := sb_bd l (fun x hx => inr_u8 (hr.rng x hx)) true
  have hlen := Lib.hid hr.len
  rw [hr.len] at hb
  go_enter Try.func42, Try.ntmps42
  go_wp2
  go_loop [5, 6, 7, 8, 13] (fun s i c' sh ix => ∃ k : Nat, k ≤ len ∧ ix = .int .i64 k ∧ s = .int .u64 (n + sb true (l.take k))) (fun _ _ _ _ ix => len - (intOf ix).toNat)
  case atStart => exact ⟨0, by omega, rfl, by simp [sb]⟩
  case round =>
    obtain ⟨k, hk, rfl, rfl⟩ := hrel
    by_cases hlt : k < len
    · obtain ⟨b, o, rfl, hbl, hc, hx⟩ := hr.at_ hlt
      have hx := inr_u8 hx
      have HS := Lib.hid (sb_take l k (by rw [hlen.out]; exact hlt))
      have hb1 := (sb_bd (l.take k) (fun x hx => inr_u8 (hr.rng x (List.mem_of_mem_take hx))) true)
      rw [List.length_take_of_le (by rw [hlen.out]; omega)] at hb1
      rw [List.getD_eq_getElem?_getD] at hx
      clear hlen
      rcases Nat.mod_two_eq_zero_or_one k with e | e
      all_goals
        have e' : (k : Int) % 2 = (k % 2 : Nat) := by omega
        rw [e] at e'
        go_wp2
        exact ⟨⟨k + 1, by omega, by go_num, by rw [HS.out, e, List.getD_eq_getElem?_getD]; go_num⟩, by simp [intOf]; omega⟩
    · have hke : Hid (k = len) := Nat.le_antisymm hk (by omega)
      have hk2 : 0 ≤ sb true (l.take k) ∧ sb true (l.take k) ≤ len * 65280 := by rw [List.take_of_length_le (by rw [hlen.out, hke.out]; omega)]; exact hb
      go_wp2_with (go_at_call 47; refine (fold_any _ _ (by omega) (by omega)).mono ?_; rintro e w' ⟨rfl, rfl⟩)
      go_ret
      exact ⟨by rw [List.take_of_length_le (by rw [hlen.out, hke.out]; omega)]; rfl, rfl⟩
theorem Done_any (n : Int) (w : World) (h0 : 0 ≤ n) (h1 : n ≤ 4294967295) :
    Calls Try.prog 41 #[.int .u32 n] w fun e w' => e = .returned (.int .u16 (65535 - fo n)) ∧ w = w' := by
  have hb := fo_bd h0
  have hx := cpl_u16 (fo n) hb
  go_enter Try.func41, Try.ntmps41
  go_wp2_with (go_at_call 47; refine (fold_any _ _ (by omega) (by omega)).mono ?_; rintro e w' ⟨rfl, rfl⟩)
  go_ret
  exact ⟨rfl, rfl⟩
theorem Of_any (l : List Int) (A : Option Addr) (len c B : Nat) (w : World) (hl : len ≤ 100000) (hr : Rd .u8 w B A len l) :
    Calls Try.prog 30 #[.slice A len c] w fun e w' => e = .returned (.int .u16 (sumOf l)) ∧ w = w' := by
  have hs := (sb_bd l (fun x hx => inr_u8 (hr.rng x hx)) true).1
  have hb := fo_bd hs
  have H := Lib.hid (show fo (0 + sb true l) = fo (sb true l) by rw [Int.zero_add])
  have H2 := fo_fo _ hs
  go_enter Try.func30, Try.ntmps30
  go_wp2_with (first | (go_at_call 42; refine (More_any 0 l A len c B _ (by omega) (by omega) hl hr).mono ?_; rw [H.out]; rintro e w' ⟨rfl, rfl⟩) | (go_at_call 41; refine (Done_any _ _ (by omega) (by omega)).mono ?_; rintro e w' ⟨rfl, rfl⟩))
  go_ret
  exact ⟨rfl, rfl⟩
end Go.Proofs.Ytlhfbmoodehoiaa
