/- Every input of HeadBits answers true, and reads behind the call as it read before. No condition. -/
import Derived.Test.YtcpndmcidbidbaaHeadCuts
namespace Go.Proofs.Ytcpndmcidbidbaa
set_option linter.unusedVariables false
set_option linter.unusedSimpArgs false
open Go.RowKit
set_option maxRecDepth 100000 in
set_option maxHeartbeats 4000000 in
theorem HeadBits_no (a b c d e f bit : Int) (A : Option Addr) (len cap : Nat) (l : List Int) (w : World) (hlc : len ≤ cap) (hm : cap ≤ 9223372036854775807) (m : Nat) (hmn : (if (100 : Int) < (len : Int) then (100 : Int) else (len : Int)) = (m : Int)) (hm1 : m ≤ len) (hm2 : (m : Int) ≤ 100) (hn : ¬ canPut c d m) :
    Calls Try.prog 5 #[.agg #[.int .i64 a, .int .i64 b, .int .i64 c, .int .i64 d, .int .u32 e, .int .u32 f], .slice A len cap, .int .i64 bit] w fun e w' => e = .returned (.bool true) ∧ Below w.heap.size w w' := by
  have hi0 : (0 : Int) ≤ (m : Int) := by omega
  have hi1 : (m : Int) ≤ (cap : Int) := by omega
  have hi2 : m ≤ cap := by omega
  go_enter Try.func5, Try.ntmps5
  go_wp2_with fail
  refine wp_region_pivot 6 _ (by rfl) (by kernel_rfl) (by kernel_rfl) rfl ?_
  simp only [List.take_succ_cons, List.take_zero, List.drop_succ_cons, List.drop_zero]
  repeat still_step
  refine wpStill_nil ?_
  intro K hK
  go_simp
  (refine (rPut_no _ _ _ _ _ _ _ _ _ _ hn).mono ?_; rintro e w1 ⟨rfl, b1⟩)
  refine hK _ _ ?_
  clear hK K
  repeat (first
    | go_big_quiet_skip
    | (go_big_quiet_want; go_big_quiet_op; go_big_quiet_on))
  refine wpQuiet_nil ?_
  rintro w' ⟨nq, rfl⟩
  go_wp2_with fail
  refine (heads_any _).mono ?_
  rintro e w2 ⟨rfl, b2⟩
  go_wp2_with fail
  refine (heads_any _).mono ?_
  rintro e w3 ⟨rfl, b3⟩
  go_wp2
  go_ret
  exact ⟨rfl, bel_after (bel_after (below_drewN (bel_after (bel_alloc _ _).drew b1) nq) b2) b3⟩
set_option maxRecDepth 100000 in
set_option maxHeartbeats 4000000 in
theorem HeadBits_yes (a b c d e f bit : Int) (A : Option Addr) (len cap : Nat) (l : List Int) (w : World) (hr : Rd .u8 w w.heap.size A len l) (hlc : len ≤ cap) (hm : cap ≤ 9223372036854775807) (m : Nat) (hmn : (if (100 : Int) < (len : Int) then (100 : Int) else (len : Int)) = (m : Int)) (hm1 : m ≤ len) (hm2 : (m : Int) ≤ 100)
    (hc : 0 ≤ c ∧ c ≤ 255) (hd : 0 ≤ d ∧ d ≤ 255) (he : 0 ≤ e ∧ e ≤ 4294967295) (hf : 0 ≤ f ∧ f ≤ 4294967295) :
    Calls Try.prog 5 #[.agg #[.int .i64 a, .int .i64 b, .int .i64 c, .int .i64 d, .int .u32 e, .int .u32 f], .slice A len cap, .int .i64 bit] w fun e w' => e = .returned (.bool true) ∧ Below w.heap.size w w' := by
  have hr2 := hr.take hm1
  obtain ⟨L, hL⟩ : ∃ L, L = l.take m := ⟨_, rfl⟩
  rw [← hL] at hr2
  have hLl := hr2.len
  clear hL hr
  obtain ⟨n, hn⟩ : ∃ n, n = 20 + m := ⟨_, rfl⟩
  have hX : (putL c d e f L).length = n := by rw [put_len, hLl, hn]
  obtain ⟨kk, hkk, hkk1⟩ := modn bit 152 (by omega)
  obtain ⟨j, hj, hj0, hj1⟩ : ∃ j : Nat, (8 + (kk : Int)) / 8 = (j : Int) ∧ 1 ≤ j ∧ j < 20 := ⟨(8 + kk) / 8, by omega, by omega, by omega⟩
  obtain ⟨mm, hmm, hmm1⟩ : ∃ mm : Nat, (8 + (kk : Int)) % 8 = (mm : Int) ∧ mm < 8 := ⟨(8 + kk) % 8, by omega, by omega⟩
  have hfl := put_flip (t := c) (p := d) (s := e) (d := f) (l := L) hc hd he hf (by omega) j mm hj0 hj1 hmm1
  obtain ⟨X, hXe⟩ : ∃ X, X = putL c d e f L := ⟨_, rfl⟩
  rw [← hXe] at hX hfl
  have hput : ∀ W, Below w.heap.size w W → Calls Try.prog 11 #[.agg #[.int .i64 a, .int .i64 b, .int .i64 c, .int .i64 d, .int .u32 e, .int .u32 f], .slice A m cap] W fun r w' => ∃ v', r = .returned (.tuple #[v', .bool true]) ∧ Own .u8 5 w' W.heap.size v' X ∧ Below W.heap.size W w' := fun W hW => (rPut_any a b c d e f L A m cap w.heap.size W (hr2.below hW) hW.size hc hd he hf (by omega)).mono fun r w' ⟨v', h1, h2, h3⟩ => ⟨v', h1, hXe ▸ h2, h3⟩
  replace hput := Lib.hid hput
  replace hLl := Lib.hid hLl
  replace hn := Lib.hid hn
  replace hX := Lib.hid hX
  replace hfl := Lib.hid hfl
  clear hXe
  have hi0 : (0 : Int) ≤ (m : Int) := by omega
  have hi1 : (m : Int) ≤ (cap : Int) := by omega
  have hi2 : m ≤ cap := by omega
  go_enter Try.func5, Try.ntmps5
  go_wp2_with fail
  refine wp_region_pivot 6 _ (by rfl) (by kernel_rfl) (by kernel_rfl) rfl ?_
  simp only [List.take_succ_cons, List.take_zero, List.drop_succ_cons, List.drop_zero]
  repeat still_step
  refine wpStill_nil ?_
  intro K hK
  go_simp
  (refine (hput.out _ (bel_alloc _ _).drew).mono ?_; rintro e w1 ⟨v1, rfl, own1, b1⟩; obtain ⟨g, c1, rfl, hc1, hc2, hg1, hg2⟩ := own1.formG hX.out (by have := hn.out; omega))
  refine hK _ _ ?_
  clear hK K
  repeat (first
    | go_big_quiet_skip
    | (go_big_quiet_want; go_big_quiet_op; go_big_quiet_on))
  refine wpQuiet_nil ?_
  rintro w' ⟨nq, rfl⟩
  have bw1 : Below w.heap.size w w1 := bel_after (bel_alloc _ _).drew b1
  unfold maxLen at hc2
  go_wp2_with (go_at_call 12; refine (heads_any _).mono ?_; rintro e w2 ⟨rfl, b2⟩)
  have own2 := (own1.drewN nq).below b2
  have bw2 : Below w.heap.size w w2 := bel_after (below_drewN bw1 nq) b2
  clear b2 own1 bw1 b1
  have hn' : n = 20 + m := hn.out
  obtain ⟨cj, fj, xj⟩ := own2.at_ hX.out (j := j) (by omega)
  replace xj := inr_u8 xj
  obtain ⟨x, hxe⟩ : ∃ x, x = X.getD j 0 := ⟨_, rfl⟩
  rw [← hxe] at cj xj
  have hxr := xor_u8 x mm xj hmm1
  have hfb := flip_bd ⟨x.toNat, by omega⟩ ⟨mm, hmm1⟩
  simp only at hfb
  obtain ⟨fx, hfx⟩ : ∃ fx, fx = flip x.toNat mm := ⟨_, rfl⟩
  rw [← hfx] at hxr hfb
  have own3 := own2.set hX.out j (x := (fx : Int)) (u8_inr (by omega))
  have hgw : w.heap.size ≤ g := by have := (bel_alloc w (.cells #[] 0)).size; simp at hg1; omega
  have bw3 : Below w.heap.size w (w2.setCell ⟨g, j, none⟩ (.int .u8 fx)) := bw2.setCell hgw _
  have rd3 := own3.rd (by rw [List.length_set]; exact hX.out)
  have hE : Hid (getE (X.set j (fx : Int)) ≠ 0) := by show _; rw [hfx, hxe]; exact hfl.out
  clear hfx hxe
  have hnb : (j : Int) < (n : Int) := by omega
  have hj0' : (0 : Int) ≤ (j : Int) := by omega
  have hjn : j < n := by omega
  clear hn'
  go_region
  go_wp2_with fail
  refine (Get_any _ _ n c1 _ _ rd3.drew (Nat.le_refl _) hc1 (by omega) (by have := hn.out; omega)).mono ?_
  rintro e w4 ⟨rfl, b4⟩
  have hv : (hdIf (X.set j (fx : Int)) (getE (X.set j (fx : Int)))).val = Hd.z.val := by unfold hdIf; rw [if_neg hE.out]
  rw [hv]
  have hE2 : (getE (X.set j (fx : Int)) != 0) = true := by simpa using hE.out
  obtain ⟨E, hEe⟩ : ∃ E, E = getE (X.set j (fx : Int)) := ⟨_, rfl⟩
  rw [← hEe] at hE2 ⊢
  clear hEe hv hE
  unfold Hd.val Hd.z
  simp only
  go_wp2
  go_ret
  exact ⟨rfl, by have := bel_after bw3.drew b4; (repeat (first | (with_reducible exact this) | (with_reducible refine Below.setCell ?_ ?_ _; rotate_left; · (first | omega | (simp; done) | (simp; omega) | (have hsz := Below.size this; omega) | (have hsz := Below.size this; simp; omega))) | (with_reducible refine Below.alloc ?_ ?_ _; rotate_left; · (first | omega | (simp; done) | (simp; omega) | (have hsz := Below.size this; omega) | (have hsz := Below.size this; simp; omega))) | (with_reducible refine below_drewN ?_ _) | (with_reducible refine Below.drew ?_)))⟩
theorem HeadBits_args (W : World) (args : Array Value) (hs : args.size = Try.f5.params.size) (hA : ∀ (j : Nat) t v, Try.f5.params[j]? = some t → args[j]? = some v → Arg Try.prog W t v) :
    Calls Try.prog 5 args W fun e W' => e = .returned (.bool true) ∧ Below W.heap.size W W' := by
  obtain ⟨v0, v1, v2, rfl⟩ := args3 hs
  obtain ⟨a, b, c, d, e, f, rfl, he, hf⟩ := arg_head (hA 0 24 v0 rfl rfl)
  obtain ⟨A, len, cap, l, rfl, h1, h2, h3⟩ := arg_ints Try.underlying25 Try.underlying5 (by kernel_rfl) (hA 1 25 v1 rfl rfl)
  obtain ⟨at_, rfl, _⟩ := arg_int Try.underlying3 (hA 2 3 v2 rfl rfl)
  unfold maxLen at h2
  obtain ⟨m, hmn, hm1, hm2⟩ := minc 100 (by omega) len
  by_cases hp : canPut c d m
  · exact HeadBits_yes a b c d e f at_ A len cap l W h3 h1 (by omega) m hmn hm1 hm2 hp.1 hp.2.1 (inr_u32 he) (inr_u32 hf)
  · exact HeadBits_no a b c d e f at_ A len cap l W h1 (by omega) m hmn hm1 hm2 hp

set_option maxRecDepth 100000 in
theorem HeadBits_lifted (os : Os) (started : os.Started) (H : Type) (enc : TypeId × Value → H) :
    ReturnsInHanded {} Try.checked os 5 .any (Rows.headBitsSpec.pre6 enc Try.prog Try.f5 Rows.headBitsRow.domain false) (Rows.headBitsSpec.post enc Try.prog Try.f5 false true false false) :=
  law_lifted os started H enc (by kernel_rfl) Try.func5 rfl rfl (fun H ds h => by match ds, h with | [_, _, _], _ => exact ⟨rfl, rfl, rfl⟩) (by kernel_rfl)
    (ChangeSpec.witness6 (enc := enc) (C := Try.checked) false ⟨#[], #[.agg #[.int .i64 0, .int .i64 0, .int .i64 0, .int .i64 0, .int .u32 0, .int .u32 0], .slice none 0 0, .int .i64 0], []⟩ 8 (by kernel_rfl) (by kernel_rfl) (by kernel_rfl) (by kernel_rfl))
    HeadBits_args

/-- the statement -/
theorem headBits_holds : Rows.HeadBitsSaid :=
  OpenClaim.holds_of_wide 5 Try.f5 rfl rfl rfl rfl rfl rfl rfl ⟨rfl, rfl, rfl, rfl, rfl⟩ rfl rfl rfl rfl rfl (by kernel_rfl) Try.func5 (by kernel_rfl)
    (of_decide_eq_true (by kernel_rfl)) (by unfold Func.isWrapper; first | (rw [if_pos (by decide +kernel)]; kernel_rfl) | (rw [if_neg (by decide +kernel)]; exact ⟨rfl, rfl⟩))
    (fun os started H enc _ => HeadBits_lifted os started H enc)

end Go.Proofs.Ytcpndmcidbidbaa
