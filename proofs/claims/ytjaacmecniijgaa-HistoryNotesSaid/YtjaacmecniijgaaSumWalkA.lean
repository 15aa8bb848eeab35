/- The walks of package sum. -/
import Derived.Test.YtjaacmecniijgaaRows
import Derived.Test.YtjaacmecniijgaaMem
import Derived.Test.YtjaacmecniijgaaHnAll2
namespace Go.Proofs.Ytjaacmecniijgaa
set_option linter.unusedVariables false
set_option linter.unusedSimpArgs false
open Go.RowKit
set_option maxHeartbeats 400000 in
theorem fold_any (n : Int) (w : World) (h0 : 0 ≤ n) (h1 : n ≤ 4611686018427387904) :
    Calls Try.prog 67 #[.int .u64 n] w fun e w' => e = .returned (.int .u32 (fo n)) ∧ w = w' := by
  go_enter Try.func67, Try.ntmps67
  go_wp2
  go_loop [0] (fun i => ∃ k : Int, 0 ≤ k ∧ k ≤ 4611686018427387904 ∧ fo k = fo n ∧ i = .int .u64 k) (fun i => (intOf i).toNat)
  case atStart => exact ⟨n, h0, h1, rfl, rfl⟩
  case round =>
    obtain ⟨k, hk0, hk1, hk2, rfl⟩ := hrel
    have H := Lib.hid hk2; clear hk2
    go_wp2
    · have hk : 65535 < k := by assumption
      exact ⟨⟨_, by omega, by omega, by rw [fo_step hk]; exact H.out, rfl⟩, by simp [intOf]; omega⟩
    · have hk : k ≤ 65535 := by assumption
      go_ret
      exact ⟨by rw [← H.out, fo_small hk0 hk]; rfl, rfl⟩
set_option maxHeartbeats 400000 in
theorem More_any (n : Int) (l : List Int) (A : Option Addr) (len c B : Nat) (w : World) (h0 : 0 ≤ n) (h1 : n ≤ 4294967295) (hl : len ≤ 100000) (hr : Rd .u8 w B A len l) :
    Calls Try.prog 59 #[.int .u32 n, .slice A len c] w fun e w' => e = .returned (.int .u32 (fo (n + sb true l))) ∧ w = w' := by
  have hb := sb_bd l (fun x hx => inr_u8 (hr.rng x hx)) true
  have hlen := Lib.hid hr.len
  rw [hr.len] at hb
  go_enter Try.func59, Try.ntmps59
  go_wp2
  go_loop [5, 6, 7, 8, 13] (fun s i c' sh ix => ∃ k : Nat, k ≤ len ∧ ix = .int .i64 k ∧ s = .int .u64 (n + sb true (l.take k))) (fun _ _ _ _ ix => len - (intOf ix).toNat)
  case atStart => exact ⟨0, by omega, rfl, by simp [sb]⟩
  case round =>
    obtain ⟨k, hk, rfl, rfl⟩ := hrel
    by_cases hlt : k < len
    · obtain ⟨b, o, rfl, hbl, hc, hx⟩ := hr.at_ hlt
      have hx := inr_u8 hx
      have HS := Lib.hid (sb_take l k (by rw [hlen.out]; exact hlt))
      have hb1 := (sb_bd (l.take k) (fun x hx => inr_u8 (hr.rng x (List.mem_of_mem_take hx))) true)
      rw [List.length_take_of_le (by rw [hlen.out]; omega)] at hb1
      rw [List.getD_eq_getElem?_getD] at hx
      clear hlen
      rcases Nat.mod_two_eq_zero_or_one k with e | e
      all_goals
        have e' : (k : Int) % 2 = (k % 2 : Nat) := by omega
        rw [e] at e'
        go_wp2
        exact ⟨⟨k + 1, by omega, by go_num, by rw [HS.out, e, List.getD_eq_getElem?_getD]; go_num⟩, by simp [intOf]; omega⟩
    · have hke : Hid (k = len) := Nat.le_antisymm hk (by omega)
      have hk2 : 0 ≤ sb true (l.take k) ∧ sb true (l.take k) ≤ len * 65280 := by rw [List.take_of_length_le (by rw [hlen.out, hke.out]; omega)]; exact hb
      go_wp2_with (go_at_call 67; refine (fold_any _ _ (by omega) (by omega)).mono ?_; rintro e w' ⟨rfl, rfl⟩)
      go_ret
      exact ⟨by rw [List.take_of_length_le (by rw [hlen.out, hke.out]; omega)]; rfl, rfl⟩
theorem Done_any (n : Int) (w : World) (h0 : 0 ≤ n) (h1 : n ≤ 4294967295) :
    Calls Try.prog 58 #[.int .u32 n] w fun e w' => e = .returned (.int .u16 (65535 - fo n)) ∧ w = w' := by
  have hb := fo_bd h0
  have hx := cpl_u16 (fo n) hb
  go_enter Try.func58, Try.ntmps58
  go_wp2_with (go_at_call 67; refine (fold_any _ _ (by omega) (by omega)).mono ?_; rintro e w' ⟨rfl, rfl⟩)
  go_ret
  exact ⟨rfl, rfl⟩
theorem Of_any (l : List Int) (A : Option Addr) (len c B : Nat) (w : World) (hl : len ≤ 100000) (hr : Rd .u8 w B A len l) :
    Calls Try.prog 44 #[.slice A len c] w fun e w' => e = .returned (.int .u16 (sumOf l)) ∧ w = w' := by
  have hs := (sb_bd l (fun x hx => inr_u8 (hr.rng x hx)) true).1
  have hb := fo_bd hs
  have H := Lib.hid (show fo (0 + sb true l) = fo (sb true l) by rw [Int.zero_add])
  have H2 := fo_fo _ hs
  go_enter Try.func44, Try.ntmps44
  go_wp2_with (first | (go_at_call 59; refine (More_any 0 l A len c B _ (by omega) (by omega) hl hr).mono ?_; rw [H.out]; rintro e w' ⟨rfl, rfl⟩) | (go_at_call 58; refine (Done_any _ _ (by omega) (by omega)).mono ?_; rintro e w' ⟨rfl, rfl⟩))
  go_ret
  exact ⟨rfl, rfl⟩
theorem rFold_any (n : Int) (w : World) (h0 : 0 ≤ n) (h1 : n ≤ 4611686018427387904) :
    Calls Try.prog 65 #[.int .i64 n] w fun e w' => e = .returned (.int .i64 (fo n)) ∧ w = w' := by
  go_enter Try.func65, Try.ntmps65
  go_wp2
  go_loop [0] (fun i => ∃ k : Int, 0 ≤ k ∧ k ≤ 4611686018427387904 ∧ fo k = fo n ∧ i = .int .i64 k) (fun i => (intOf i).toNat)
  case atStart => exact ⟨n, h0, h1, rfl, rfl⟩
  case round =>
    obtain ⟨k, hk0, hk1, hk2, rfl⟩ := hrel
    have H := Lib.hid hk2; clear hk2
    go_wp2
    · have hk : 65535 < k := by assumption
      exact ⟨⟨_, by omega, by omega, by rw [fo_step hk]; exact H.out, rfl⟩, by simp [intOf]; omega⟩
    · have hk : k ≤ 65535 := by assumption
      go_ret
      exact ⟨by rw [← H.out, fo_small hk0 hk]; rfl, rfl⟩
theorem rSum_any (n : Int) (l : List Int) (A : Option Addr) (len c B : Nat) (w : World) (h0 : 0 ≤ n) (h1 : n ≤ 4294967295) (hl : len ≤ 100000) (hr : Rd .u8 w B A len l) :
    Calls Try.prog 53 #[.int .i64 n, .slice A len c] w fun e w' => e = .returned (.int .i64 (fo (n + sb true l))) ∧ w = w' := by
  have hlen := Lib.hid hr.len
  have hf := fo_bd h0
  have hff := Lib.hid (fo_fo n h0)
  go_enter Try.func53, Try.ntmps53
  go_wp2_with (go_at_call 65; refine (rFold_any _ _ (by omega) (by omega)).mono ?_; rintro e w' ⟨rfl, rfl⟩)
  go_loop [0, 5, 6] (fun s i x => ∃ k : Nat, k ≤ len + 1 ∧ k % 2 = 0 ∧ i = .int .i64 k ∧ s = .int .i64 (fo (n + sb true (l.take k)))) (fun _ i _ => len + 1 - (intOf i).toNat)
  case atStart => exact ⟨0, by omega, rfl, rfl, by simp [sb]⟩
  case round =>
    obtain ⟨k, hk, he, rfl, rfl⟩ := hrel
    have hb0 := sb_bd (l.take k) (fun x hx => inr_u8 (hr.rng x (List.mem_of_mem_take hx))) true
    have hfb := fo_bd (n := n + sb true (l.take k)) (by omega)
    by_cases hlt : k < len
    · obtain ⟨b, o, rfl, hbl, hc, hx⟩ := hr.at_ hlt
      have hx := inr_u8 hx
      rw [List.getD_eq_getElem?_getD] at hx
      by_cases hlt2 : k + 1 < len
      · obtain ⟨b', o', ea, hbl', hc', hx'⟩ := hr.at_ hlt2
        simp only [Option.some.injEq, Addr.mk.injEq, and_true] at ea
        obtain ⟨rfl, rfl⟩ := ea
        have hx' := inr_u8 hx'
        rw [List.getD_eq_getElem?_getD] at hx'
        have HS := Lib.hid (sb_take2 l k (by rw [hlen.out]; exact hlt2) he)
        have HA := Lib.hid (fo_add (n + sb true (l.take k)) (l[k]?.getD 0 * 256 + l[k+1]?.getD 0) (by omega) (by omega))
        clear hlen hff
        have he' := Lib.hid he; clear he
        go_wp2_with (go_at_call 65; refine (rFold_any _ _ (by omega) (by omega)).mono ?_; rintro e w' ⟨rfl, rfl⟩)
        exact ⟨⟨k + 2, by omega, by have := he'.out; omega, by go_num, by rw [HA.out, HS.out, List.getD_eq_getElem?_getD, List.getD_eq_getElem?_getD, Int.add_assoc]⟩, by simp [intOf]; omega⟩
      · have HS := Lib.hid (sb_take l k (by rw [hlen.out]; exact hlt))
        have HT : Hid (l.take (k + 2) = l.take (k + 1)) := by
          have := hlen.out
          show l.take (k + 2) = l.take (k + 1)
          rw [List.take_of_length_le (by omega), List.take_of_length_le (by omega)]
        have HA := Lib.hid (fo_add (n + sb true (l.take k)) (l[k]?.getD 0 * 256) (by omega) (by omega))
        clear hlen hff
        have he' := Lib.hid he; clear he
        go_wp2_with (go_at_call 65; refine (rFold_any _ _ (by omega) (by omega)).mono ?_; rintro e w' ⟨rfl, rfl⟩)
        exact ⟨⟨k + 2, by omega, by have := he'.out; omega, by go_num, by rw [HA.out, HT.out, HS.out, List.getD_eq_getElem?_getD, if_pos he'.out, Int.add_assoc]⟩, by simp [intOf]; omega⟩
    · have HT : Hid (l.take k = l) := by
        have := hlen.out
        show l.take k = l
        rw [List.take_of_length_le (by omega)]
      have he' := Lib.hid he; clear he
      go_wp2
      go_ret
      exact ⟨ret_int (by rw [HT.out]), rfl⟩
theorem rOf_any (l : List Int) (A : Option Addr) (len c B : Nat) (w : World) (hl : len ≤ 100000) (hr : Rd .u8 w B A len l) :
    Calls Try.prog 40 #[.slice A len c] w fun e w' => e = .returned (.int .u16 (sumOf l)) ∧ w = w' := by
  have hs := (sb_bd l (fun x hx => inr_u8 (hr.rng x hx)) true).1
  have hb := fo_bd hs
  have H := Lib.hid (show fo (0 + sb true l) = fo (sb true l) by rw [Int.zero_add])
  go_enter Try.func40, Try.ntmps40
  go_wp2_with (go_at_call 53; refine (rSum_any 0 l A len c B _ (by omega) (by omega) hl hr).mono ?_; rw [H.out]; rintro e w' ⟨rfl, rfl⟩)
  go_ret
  exact ⟨rfl, rfl⟩
end Go.Proofs.Ytjaacmecniijgaa
