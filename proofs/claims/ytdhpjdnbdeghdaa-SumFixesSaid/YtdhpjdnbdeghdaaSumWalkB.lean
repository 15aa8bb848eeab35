/- The walks of the laws on sums: the helper, SumBytes. -/
import Derived.Test.YtdhpjdnbdeghdaaSumWalkA
import Derived.Test.YtdhpjdnbdeghdaaQuiet
namespace Go.Proofs.Ytdhpjdnbdeghdaa
set_option linter.unusedVariables false
open Go.RowKit
theorem sums_any (w : World) :
    Calls Try.prog 10 #[] w fun e w' => e = .returned (.bool true) ∧ Below w.heap.size w w' := by
  go_enter Try.func10, Try.ntmps10
  go_wp2_with fail
  refine (Of_any [0, 1, 242, 3, 244, 245, 246, 247] _ _ _ (w.heap.size + 1) _ (by simp) (Rd.new _ _ _ _ (by simp [inr]; decide) _ rfl _ rfl)).mono ?_
  rintro e w' ⟨rfl, rfl⟩
  go_wp2
  go_ret
  exact ⟨ret_bool (by decide), (Below.refl _ _).alloc (Nat.le_refl _) _⟩
theorem info_u8 : (Try.prog.info? 5).map (fun i => (i.zero, i.size, i.bytes)) = some (some (.int .u8 0), 1, 1) := by kernel_rfl
set_option maxHeartbeats 400000 in
theorem SumBytes_walk (A : Option Addr) (len cap : Nat) (l : List Int) (at_ n : Int) (w : World) (hr : Rd .u8 w w.heap.size A len l) (hlc : len ≤ cap) (hm : cap ≤ maxLen) (ha : inr .i64 at_) (hn : inr .u32 n) :
    Calls Try.prog 3 #[.slice A len cap, .int .i64 at_, .int .u32 n] w fun e w' => e = .returned (.bool true) ∧ Below w.heap.size w w' := by
  obtain ⟨i0, hi, hz0, hz1, hz2⟩ := info_parts info_u8
  have ha := inr_i64 ha
  have hn := inr_u32 hn
  unfold maxLen at hm
  obtain ⟨m, hmn, hm1, hm2⟩ : ∃ m : Nat, (if (200 : Int) < (len : Int) then (200 : Int) else (len : Int)) = (m : Int) ∧ m ≤ len ∧ m ≤ 200 := ⟨min len 200, by split <;> omega, by omega, by omega⟩
  have hr2 := ((hr.take hm1).alloc (Nat.le_refl _) (.cells #[] 5)).more (Nat.le_succ _)
  have hlm : (l.take m).length = m := by rw [List.length_take, hr.len]; omega
  obtain ⟨L, hL⟩ : ∃ L, L = l.take m := ⟨_, rfl⟩
  rw [← hL] at hr2 hlm
  clear hL hr
  have hown := Own.new .u8 w 5 w.heap.size (Nat.le_refl _) [] (by simp) #[] rfl 0 rfl (by simp)
  have hlmH := Lib.hid hlm; clear hlm; have hlm := hlmH; clear hlmH
  obtain ⟨q, hq, hq1⟩ := modn at_ (m + 1) (by omega)
  obtain ⟨kk, hkk, hkm, hke⟩ : ∃ kk : Nat, (q : Int) / 2 * 2 = (kk : Int) ∧ kk ≤ m ∧ kk % 2 = 0 := ⟨q / 2 * 2, by omega, by omega, by omega⟩
  have hke := Lib.hid hke
  go_enter Try.func3, Try.ntmps3
  go_wp2_with (at_builtin; refine wpList_app _ rfl (.tmp 9) (.tmp 14) 22 rfl .u8 w.heap.size 5 i0 (.int .u8 0) 1 Try.underlying22 hi hz0 hz1 hz2 rfl (.slice (some ⟨w.heap.size, 0, none⟩) 0 0) rfl [] hown (w.heap.size + 1) _ _ _ rfl L hr2 (by simp; omega) (by decide) (by simp) ?_; intro v1 w1 own1 hg1 _; obtain ⟨A1, c1, rfl, hc1, hc2, rd1⟩ := own1.form hlm.out; rw [List.nil_append] at rd1; have hb1 : Below w.heap.size w w1 := ((Below.refl _ _).alloc (Nat.le_refl _) _).grown hg1 (by simp) (fun k h => by simp [Value.ownBlock] at h; omega); clear hg1; have hcv := conv_rd (P := Try.prog) rd1 22 5 9 (cap := c1) Try.underlying22 Try.underlying5 Try.underlying9)
  have hfn := fo_bd hn.1
  have hr8 : ∀ x, x ∈ L → 0 ≤ x ∧ x ≤ 255 := fun x hx => inr_u8 (rd1.rng x hx)
  have hsb0 := sb_bd L hr8 true
  have hsb1 := sb_bd (L.take kk) (fun x hx => hr8 x (List.mem_of_mem_take hx)) true
  have hfo1 := fo_bd (n := n + sb true (L.take kk)) (by omega)
  have hfo2 := fo_bd (n := n + sb true L) (by omega)
  obtain ⟨A2, hA2, rd2⟩ := rd1.cut hkm hc1
  have hE := more_two n L kk hn.1 (by rw [hlm.out]; exact hkm) hke.out hr8
  clear hr8 hsb1
  refine region_below (by kernel_rfl) (by kernel_rfl) ?_
  repeat (first
    | go_big_quiet_skip
    | (go_big_quiet_want; first 
      | (refine quiet_conv _ 22 9 rfl 5 Try.underlying22 Try.underlying5 Try.underlying9 A1 m c1 w1.heap.size L rfl (fun w' hb => rd1.below hb) ?_; go_simp; go_big_quiet_on)  | (go_big_quiet_op; first | go_big_quiet_on | (refine ⟨_, fun _ _ => rfl, ?_⟩; go_big_quiet_on) | go_big_quiet_call (
      (intro hb; first 
      | (go_at_call 10; exact q_more (sums_any _) hb (Nat.le_refl _))
      | (go_at_call 11; exact q_same (Of_any _ _ _ _ _ _ (by omega) (rd1.below hb)) hb)
      | (go_at_call 12; exact q_same (rOf_any _ _ _ _ _ _ (by omega) (rd1.below hb)) hb)
      | (go_at_call_of 13 (Value.int .u32 n); exact q_same (More_any _ _ _ _ _ _ _ (by omega) (by omega) (by omega) ((rd1.below hb).take hkm)) hb)
      | (go_at_call 13; exact q_same (More_any _ _ _ _ _ _ _ (by omega) (by omega) (by omega) (rd2.below hb)) hb)
      | (go_at_call 14; exact q_same (rSum_any _ _ _ _ _ _ _ (by omega) (by omega) (by omega) (rd1.below hb)) hb)
      | (go_at_call 15; exact q_same (Done_any _ _ (by omega) (by omega)) hb)
      | (go_at_call 16; exact q_same (rFold_any _ _ (by omega) (by omega)) hb)
  )))))
  refine wpQuiet_nil ?_
  intro wq hbq
  go_wp2
  go_ret
  exact ⟨rfl, hb1.trans (hbq.mono hb1.size)⟩
end Go.Proofs.Ytdhpjdnbdeghdaa
