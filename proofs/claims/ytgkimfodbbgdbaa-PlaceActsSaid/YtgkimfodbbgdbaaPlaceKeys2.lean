/- The walks of SetKey and Count. -/
import Derived.Test.YtgkimfodbbgdbaaPlaceKeys
namespace Go.Proofs.Ytgkimfodbbgdbaa
set_option linter.unusedVariables false
set_option linter.unusedSimpArgs false
open Go.RowKit
theorem PlSetKey_no1 (i a b c : Int) (p g h n : Nat) (l : List Int) (w : World) (hp : Pl w p g h n l) (hn : n ≤ 3072) (hi : ¬ (0 ≤ i ∧ i < n)) :
    Calls Try.prog 24 #[.pointer (some ⟨p, 0, none⟩), .int .i64 i, .agg #[.int .i64 a, .int .u32 b, .int .u16 c]] w fun e w' => e = .returned (.int .i64 1) ∧ Below w.heap.size w w' := by
  have hd : decide (0 ≤ i ∧ i < n) = false := by simpa using hi
  have hT := fun W (hW : Pl W p g h n l) => there_any i p g h n l W hW hn
  rw [hd] at hT
  replace hT := Lib.hid hT
  have hp1 := hp.alloc (.cells #[.int .i64 a, .int .u32 b, .int .u16 c] 56)
  go_enter Try.func24, Try.ntmps24
  go_wp2_with fail
  refine (hT.out _ hp1).mono ?_
  rintro e w' ⟨rfl, rfl⟩
  go_wp2
  go_ret
  exact ⟨rfl, bel_alloc _ _⟩
theorem PlSetKey_no2 (i a b c : Int) (p g h n : Nat) (l : List Int) (w : World) (hp : Pl w p g h n l) (hn : n ≤ 3072) (hi : 0 ≤ i ∧ i < n) (ha : ¬ (0 ≤ a ∧ a ≤ 255)) :
    Calls Try.prog 24 #[.pointer (some ⟨p, 0, none⟩), .int .i64 i, .agg #[.int .i64 a, .int .u32 b, .int .u16 c]] w fun e w' => e = .returned (.int .i64 1) ∧ Below w.heap.size w w' := by
  have hd : decide (0 ≤ i ∧ i < n) = true := by simpa using hi
  have hT := fun W (hW : Pl W p g h n l) => there_any i p g h n l W hW hn
  rw [hd] at hT
  replace hT := Lib.hid hT
  have hR := fun W => within_any a 255 W
  rw [decide_eq_false ha] at hR
  replace hR := Lib.hid hR
  have hp1 := hp.alloc (.cells #[.int .i64 a, .int .u32 b, .int .u16 c] 56)
  go_enter Try.func24, Try.ntmps24
  go_wp2_with fail
  refine (hT.out _ hp1).mono ?_
  rintro e w' ⟨rfl, rfl⟩
  go_wp2_with fail
  refine (hR.out _).mono ?_
  rintro e w' ⟨rfl, rfl⟩
  go_wp2
  go_ret
  exact ⟨rfl, bel_alloc _ _⟩
set_option maxHeartbeats 400000 in
theorem PlSetKey_yes (i a b c : Int) (p g h n : Nat) (l : List Int) (w : World) (hp : Pl w p g h n l) (hn : n ≤ 3072) (hi : 0 ≤ i ∧ i < n) (hk : (Ky.mk a b c).ok) :
    Calls Try.prog 24 #[.pointer (some ⟨p, 0, none⟩), .int .i64 i, .agg #[.int .i64 a, .int .u32 b, .int .u16 c]] w fun e w' => e = .returned (.int .i64 0) ∧ Pl w' p g h n (celSet l (2 * i + 1) (Ky.mk a b c).num) ∧ Upd (· = h) w w' := by
  have ho := or_knum hk
  have hb := knum_bd hk
  simp only at ho
  have hC : ∀ W W' : World, Pl W p g h n l → Below W.heap.size W W' → Calls Try.prog 38 #[.pointer (some ⟨g, 0, none⟩), .int .i64 (2 * i + 1), .int .u64 (Ky.mk a b c).num] W' fun r w' => r = .returned (.tuple #[]) ∧ (Pl w' p g h n (celSet l (2 * i + 1) (Ky.mk a b c).num) ∧ Upd (· = h) W w') := fun W W' hW hb2 => by
    have hW' := hW.bel hb2
    refine (Store_any (2 * i + 1) (Ky.mk a b c).num g h l W' hW'.cel (by rw [hW.len]; omega) (u64_inr hb)).mono fun r w' ⟨h1, h2, h3⟩ => ?_
    exact ⟨h1, ⟨hW'.obj.upd h3 (hW'.ph), h2, by rw [celSet_length]; exact hW.len⟩, ⟨h3.os.trans hb2.os, h3.tape.trans hb2.tape, h3.output.trans hb2.output, Nat.le_trans hb2.size h3.size, fun k hk hne => (h3.block k (Nat.lt_of_lt_of_le hk hb2.size) hne).trans (hb2.block k hk)⟩⟩
  replace hC := Lib.hid hC
  generalize (Ky.mk a b c).num = N at *
  obtain ⟨⟨k1, k2⟩, ⟨k3, k4⟩, k5, k6⟩ := hk
  simp only at k1 k2 k3 k4 k5 k6
  have hd : decide (0 ≤ i ∧ i < n) = true := by simpa using hi
  have hT := fun W (hW : Pl W p g h n l) => there_any i p g h n l W hW hn
  rw [hd] at hT
  replace hT := Lib.hid hT
  have hR := fun W => within_any a 255 W
  rw [decide_eq_true ⟨k1, k2⟩] at hR
  replace hR := Lib.hid hR
  have hw : IntKind.i64.wrap (2 * i) = 2 * i := by rw [IntKind.wrap_i64]; omega
  have hw2 : IntKind.i64.wrap (2 * i + 1) = 2 * i + 1 := by rw [IntKind.wrap_i64]; omega
  have w1 : IntKind.u64.wrap a = a := by rw [IntKind.wrap_u64]; omega
  have w2 : IntKind.u64.wrap b = b := by rw [IntKind.wrap_u64]; omega
  have w3 : IntKind.u64.wrap c = c := by rw [IntKind.wrap_u64]; omega
  have w4 : IntKind.u64.wrap (a * 281474976710656) = a * 281474976710656 := by rw [IntKind.wrap_u64]; omega
  have w5 : IntKind.u64.wrap (b * 65536) = b * 65536 := by rw [IntKind.wrap_u64]; omega
  have hp1 := hp.alloc (.cells #[.int .i64 a, .int .u32 b, .int .u16 c] 56)
  have bk := Blk.new w 56 #[.int .i64 a, .int .u32 b, .int .u16 c]
  have bw := bel_alloc w (.cells #[.int .i64 a, .int .u32 b, .int .u16 c] 56)
  clear hp
  go_enter Try.func24, Try.ntmps24
  go_wp2_with fail
  generalize w.alloc (.cells #[.int .i64 a, .int .u32 b, .int .u16 c] 56) = W at *
  refine (hT.out _ hp1).mono ?_
  rintro e w' ⟨rfl, rfl⟩
  have q0 := bk.cell 0
  go_wp2_with fail
  refine (hR.out _).mono ?_
  rintro e w' ⟨rfl, rfl⟩
  go_wp2_with fail
  clear q0
  have hph := hp1.obj.lt
  have e0 : ∀ t : Tw (fun w' => Below W.heap.size W w'), t.w.cell? ⟨p, 0, none⟩ = some (.pointer (some ⟨g, 0, none⟩)) := fun t => hp1.obj.tw hph t 0
  have x0 : ∀ t : Tw (fun w' => Below W.heap.size W w'), t.w.cell? ⟨w.heap.size, 0, none⟩ = some (.int .i64 a) := fun t => bk.tw bk.lt t 0
  have x1 : ∀ t : Tw (fun w' => Below W.heap.size W w'), t.w.cell? ⟨w.heap.size, 1, none⟩ = some (.int .u32 b) := fun t => bk.tw bk.lt t 1
  have x2 : ∀ t : Tw (fun w' => Below W.heap.size W w'), t.w.cell? ⟨w.heap.size, 2, none⟩ = some (.int .u16 c) := fun t => bk.tw bk.lt t 2
  have : Nonempty (Tw (fun w' => Below W.heap.size W w')) := ⟨⟨W, Below.refl _ _⟩⟩
  refine wp_region_mid 20 _ (fun w' => Below W.heap.size W w') (fun w' => Pl w' p g h n (celSet l (2 * i + 1) N) ∧ Upd (· = h) W w') (by rfl) (by kernel_rfl) (by kernel_rfl) (by kernel_rfl) (by kernel_rfl) (Below.refl _ _).drew ?_
  unfold clsS
  simp only [List.take_succ_cons, List.take_zero, List.drop_succ_cons, List.drop_zero]
  repeat (first
    | go_big_quiet_skip
    | (go_big_quiet_want; go_big_quiet_op; go_big_quiet_on))
  refine wpQuiet_nil ?_
  refine ⟨by kernel_rfl, _, fun t => ⟨_, _, by go_simp, hC.out W _ hp1 t.h⟩, fun hne => ?_⟩
  simp only [List.getElem_toArray, List.getElem_cons_zero, List.getElem_cons_succ, Act.put, List.setIfInBounds_toArray, List.set_cons_zero, List.set_cons_succ]
  refine wpQuiet_nil ?_
  intro tq
  go_wp2
  go_ret
  have := tq.h.2
  exact ⟨rfl, tq.h.1, this.os.trans bw.os, this.tape.trans bw.tape, this.output.trans bw.output, Nat.le_trans bw.size this.size, fun k hk hne => (this.block k (Nat.lt_of_lt_of_le hk bw.size) hne).trans (bw.block k hk)⟩
theorem PlSetKey_all (i a b c : Int) (p g h n : Nat) (l : List Int) (w : World) (hp : Pl w p g h n l) (hn : n ≤ 3072) (hb : 0 ≤ b ∧ b ≤ 4294967295) (hc : 0 ≤ c ∧ c ≤ 65535) (F : Bool) (hF : F = decide ((0 ≤ i ∧ i < n) ∧ 0 ≤ a ∧ a ≤ 255)) :
    Calls Try.prog 24 #[.pointer (some ⟨p, 0, none⟩), .int .i64 i, .agg #[.int .i64 a, .int .u32 b, .int .u16 c]] w fun e w' => e = .returned (.int .i64 (if F then 0 else 1)) ∧ Pl w' p g h n (if F then celSet l (2 * i + 1) (Ky.mk a b c).num else l) ∧ Upd (· = h) w w' := by
  by_cases hi : 0 ≤ i ∧ i < n
  · by_cases ha : 0 ≤ a ∧ a ≤ 255
    · obtain rfl : F = true := by rw [hF]; exact decide_eq_true ⟨hi, ha⟩
      exact PlSetKey_yes i a b c p g h n l w hp hn hi ⟨ha, hb, hc⟩
    · obtain rfl : F = false := by rw [hF]; exact decide_eq_false fun hh => ha hh.2
      exact (PlSetKey_no2 i a b c p g h n l w hp hn hi ha).mono fun r w' ⟨h1, h2⟩ => ⟨h1, hp.bel h2, Upd.of_below h2 _⟩
  · obtain rfl : F = false := by rw [hF]; exact decide_eq_false fun hh => hi hh.1
    exact (PlSetKey_no1 i a b c p g h n l w hp hn hi).mono fun r w' ⟨h1, h2⟩ => ⟨h1, hp.bel h2, Upd.of_below h2 _⟩
/-- how many of the first k places are in a state -/
def cntL (l : List Int) (s : Int) : Nat → Nat
  | 0 => 0
  | k + 1 => cntL l s k + (if (unW (celAt l (2 * (k : Int)))).st = s then 1 else 0)
theorem cntL_le (l : List Int) (s : Int) : ∀ k, cntL l s k ≤ k
  | 0 => Nat.le_refl _
  | k + 1 => by have := cntL_le l s k; unfold cntL; split <;> omega
theorem fld0 (a b c d : Int) (w : World) : (Instr.field 28 (.agg #[.int .i64 a, .int .i64 b, .int .i64 c, .int .i64 d]) 0).run Try.prog w = .ok (.int .i64 a) w := by kernel_rfl
set_option maxHeartbeats 400000 in
theorem PlCount_any (s : Int) (p g h n : Nat) (l : List Int) (w : World) (hp : Pl w p g h n l) (hn : n ≤ 3072) :
    Calls Try.prog 26 #[.pointer (some ⟨p, 0, none⟩), .int .i64 s] w fun e w' => e = .returned (.int .i64 (cntL l s n : Nat)) ∧ Below w.heap.size w w' := by
  go_enter Try.func26, Try.ntmps26
  go_wp2_with fail
  refine (PlSize_any _ _ _ _ _ _ hp hn).mono ?_
  rintro e w' ⟨rfl, rfl⟩
  go_wp2_with fail
  go_loopw [5, 9] (fun c i wr => ∃ k : Nat, k ≤ n ∧ c = .int .i64 (cntL l s k : Nat) ∧ i = .int .i64 k ∧ Below w.heap.size w wr) (fun _ i _ => n - (intOf i).toNat)
  case atStart => exact ⟨0, Nat.zero_le _, rfl, rfl, Below.refl _ _⟩
  case round =>
    obtain ⟨k, hk, rfl, rfl, bel⟩ := hrel
    have hle := cntL_le l s k
    by_cases hlt : k < n
    · have hcc : cntL l s (k + 1) = cntL l s k + (if (unW (celAt l (2 * (k : Int)))).st = s then 1 else 0) := rfl
      have hL := PlLoad_any k p g h n l wr (hp.bel bel) hn
      unfold Wd.val at hL
      obtain ⟨c1, hc1⟩ : ∃ c, c = cntL l s (k + 1) := ⟨_, rfl⟩
      rw [← hc1] at hcc
      replace hc1 := Lib.hid hc1
      generalize cntL l s k = c0 at *
      generalize unW (celAt l (2 * (k : Int))) = N at *
      obtain ⟨s0, s1, s2, s3⟩ := N
      simp only at hcc hL
      have hfd := fld0 s0 s1 s2 s3
      replace hL := Lib.hid hL
      by_cases hs : s0 = s
      · rw [if_pos hs] at hcc
        subst hs
        have hcc2 : (c0 : Int) + 1 = (c1 : Int) := by omega
        replace hcc := Lib.hid hcc
        go_wp2_with fail
        refine hL.out.mono ?_
        rintro e w1 ⟨rfl, b1⟩
        go_wp2_with fail
        go_roundw
        case rel => exact ⟨k + 1, by omega, by rw [← hc1.out], by go_num, bel_after bel b1⟩
        case measure => simp [intOf]; omega
      · rw [if_neg hs, Nat.add_zero] at hcc
        subst hcc
        have hsb : (s0 == s) = false := by simpa using hs
        go_wp2_with fail
        refine hL.out.mono ?_
        rintro e w1 ⟨rfl, b1⟩
        go_wp2_with fail
        go_roundw
        case rel => exact ⟨k + 1, by omega, by rw [← hc1.out], by go_num, bel_after bel b1⟩
        case measure => simp [intOf]; omega
    · obtain rfl : k = n := by omega
      go_wp2
      go_ret
      exact ⟨rfl, bel⟩
end Go.Proofs.Ytgkimfodbbgdbaa
