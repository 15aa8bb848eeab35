/- Every input of HeadCuts answers true, and reads behind the call as it read before. No condition. -/
import Derived.Test.YtcpndmcidbidbaaHeadLaw
import Derived.Test.YtcpndmcidbidbaaHeadPlain2
import Derived.Test.YtcpndmcidbidbaaFrame
namespace Go.Proofs.Ytcpndmcidbidbaa
set_option linter.unusedVariables false
set_option linter.unusedSimpArgs false
open Go.RowKit
theorem arr6 {cs : Array Value} (h : cs.size = 6) {a b c d e f : Value} (h0 : cs.toList[0]? = some a) (h1 : cs.toList[1]? = some b) (h2 : cs.toList[2]? = some c) (h3 : cs.toList[3]? = some d) (h4 : cs.toList[4]? = some e) (h5 : cs.toList[5]? = some f) : cs = #[a, b, c, d, e, f] := by
  obtain ⟨l⟩ := cs
  match l, h with
  | [x0, x1, x2, x3, x4, x5], _ =>
    simp only [List.getElem?_cons_zero, List.getElem?_cons_succ, Option.some.injEq] at h0 h1 h2 h3 h4 h5
    rw [h0, h1, h2, h3, h4, h5]
theorem arg_head {W : World} {v : Value} (h : Arg Try.prog W 24 v) : ∃ a b c d e f : Int, v = .agg #[.int .i64 a, .int .i64 b, .int .i64 c, .int .i64 d, .int .u32 e, .int .u32 f] ∧ inr .u32 e ∧ inr .u32 f := by
  obtain ⟨cs, m, rfl, hs, hf⟩ := arg_struct Try.underlying24 h
  have hC : Try.prog.cellsOf 24 = 6 := by kernel_rfl
  have hCi : Try.prog.cellsOf 3 = 1 := by kernel_rfl
  have hCu : Try.prog.cellsOf 22 = 1 := by kernel_rfl
  obtain ⟨x0, e0, _⟩ := fld_int (i := 0) hf rfl Try.underlying3 hCi
  obtain ⟨x1, e1, _⟩ := fld_int (i := 1) hf rfl Try.underlying3 hCi
  obtain ⟨x2, e2, _⟩ := fld_int (i := 2) hf rfl Try.underlying3 hCi
  obtain ⟨x3, e3, _⟩ := fld_int (i := 3) hf rfl Try.underlying3 hCi
  obtain ⟨x4, e4, r4⟩ := fld_int (i := 4) hf rfl Try.underlying22 hCu
  obtain ⟨x5, e5, r5⟩ := fld_int (i := 5) hf rfl Try.underlying22 hCu
  exact ⟨x0, x1, x2, x3, x4, x5, by rw [arr6 (hs.trans hC) e0 e1 e2 e3 e4 e5], r4, r5⟩
set_option maxRecDepth 100000 in
set_option maxHeartbeats 4000000 in
theorem HeadCuts_no (a b c d e f at_ : Int) (A : Option Addr) (len cap : Nat) (l : List Int) (w : World) (hlc : len ≤ cap) (hm : cap ≤ 9223372036854775807) (m : Nat) (hmn : (if (100 : Int) < (len : Int) then (100 : Int) else (len : Int)) = (m : Int)) (hm1 : m ≤ len) (hm2 : (m : Int) ≤ 100) (hn : ¬ canPut c d m) :
    Calls Try.prog 4 #[.agg #[.int .i64 a, .int .i64 b, .int .i64 c, .int .i64 d, .int .u32 e, .int .u32 f], .slice A len cap, .int .i64 at_] w fun e w' => e = .returned (.bool true) ∧ Below w.heap.size w w' := by
  have hi0 : (0 : Int) ≤ (m : Int) := by omega
  have hi1 : (m : Int) ≤ (cap : Int) := by omega
  have hi2 : m ≤ cap := by omega
  go_enter Try.func4, Try.ntmps4
  go_wp2_with fail
  refine wp_region_pivot 6 _ (by rfl) (by kernel_rfl) (by kernel_rfl) rfl ?_
  simp only [List.take_succ_cons, List.take_zero, List.drop_succ_cons, List.drop_zero]
  repeat still_step
  refine wpStill_nil ?_
  intro K hK
  go_simp
  (refine (rPut_no _ _ _ _ _ _ _ _ _ _ hn).mono ?_; rintro e w1 ⟨rfl, b1⟩)
  refine hK _ _ ?_
  clear hK K
  repeat (first
    | go_big_quiet_skip
    | (go_big_quiet_want; go_big_quiet_op; go_big_quiet_on))
  refine wpQuiet_nil ?_
  rintro w' ⟨nq, rfl⟩
  go_wp2_with fail
  refine (heads_any _).mono ?_
  rintro e w2 ⟨rfl, b2⟩
  go_wp2_with fail
  refine (heads_any _).mono ?_
  rintro e w3 ⟨rfl, b3⟩
  go_wp2
  go_ret
  exact ⟨rfl, bel_after (bel_after (below_drewN (bel_after (bel_alloc _ _).drew b1) nq) b2) b3⟩
set_option maxRecDepth 100000 in
set_option maxHeartbeats 4000000 in
theorem HeadCuts_yes (a b c d e f at_ : Int) (A : Option Addr) (len cap : Nat) (l : List Int) (w : World) (hr : Rd .u8 w w.heap.size A len l) (hlc : len ≤ cap) (hm : cap ≤ 9223372036854775807) (m : Nat) (hmn : (if (100 : Int) < (len : Int) then (100 : Int) else (len : Int)) = (m : Int)) (hm1 : m ≤ len) (hm2 : (m : Int) ≤ 100)
    (hc : 0 ≤ c ∧ c ≤ 255) (hd : 0 ≤ d ∧ d ≤ 255) (he : 0 ≤ e ∧ e ≤ 4294967295) (hf : 0 ≤ f ∧ f ≤ 4294967295) :
    Calls Try.prog 4 #[.agg #[.int .i64 a, .int .i64 b, .int .i64 c, .int .i64 d, .int .u32 e, .int .u32 f], .slice A len cap, .int .i64 at_] w fun e w' => e = .returned (.bool true) ∧ Below w.heap.size w w' := by
  have hr2 := hr.take hm1
  obtain ⟨L, hL⟩ : ∃ L, L = l.take m := ⟨_, rfl⟩
  rw [← hL] at hr2
  have hLl := hr2.len
  clear hL hr
  obtain ⟨n, hn⟩ : ∃ n, n = 20 + m := ⟨_, rfl⟩
  have hX : (putL c d e f L).length = n := by rw [put_len, hLl, hn]
  have hn0 : (0 : Int) < (n : Int) := by omega
  obtain ⟨q, hq, hq1⟩ := modn at_ n hn0
  have hE : getE ((putL c d e f L).take q) = 2 := put_cut q (by omega) (by omega)
  obtain ⟨X, hXe⟩ : ∃ X, X = putL c d e f L := ⟨_, rfl⟩
  replace hLl := Lib.hid hLl
  replace hn := Lib.hid hn
  rw [← hXe] at hE hX
  have hput := fun W (hW : Below w.heap.size w W) => rPut_any a b c d e f L A m cap w.heap.size W (hr2.below hW) hW.size hc hd he hf (by omega)
  replace hput : ∀ W, Below w.heap.size w W → Calls Try.prog 11 #[.agg #[.int .i64 a, .int .i64 b, .int .i64 c, .int .i64 d, .int .u32 e, .int .u32 f], .slice A m cap] W fun r w' => ∃ v', r = .returned (.tuple #[v', .bool true]) ∧ Own .u8 5 w' W.heap.size v' X ∧ Below W.heap.size W w' := fun W hW => (hput W hW).mono fun r w' ⟨v', h1, h2, h3⟩ => ⟨v', h1, hXe ▸ h2, h3⟩
  replace hput := Lib.hid hput
  replace hX := Lib.hid hX
  clear hXe
  have hi0 : (0 : Int) ≤ (m : Int) := by omega
  have hi1 : (m : Int) ≤ (cap : Int) := by omega
  have hi2 : m ≤ cap := by omega
  go_enter Try.func4, Try.ntmps4
  go_wp2_with fail
  refine wp_region_pivot 6 _ (by rfl) (by kernel_rfl) (by kernel_rfl) rfl ?_
  simp only [List.take_succ_cons, List.take_zero, List.drop_succ_cons, List.drop_zero]
  repeat still_step
  refine wpStill_nil ?_
  intro K hK
  go_simp
  (refine (hput.out _ (bel_alloc _ _).drew).mono ?_; rintro e w1 ⟨v1, rfl, own1, b1⟩; obtain ⟨g, c1, rfl, hc1, hc2, hg1, hg2⟩ := own1.formG hX.out (by omega))
  refine hK _ _ ?_
  clear hK K
  repeat (first
    | go_big_quiet_skip
    | (go_big_quiet_want; go_big_quiet_op; go_big_quiet_on))
  refine wpQuiet_nil ?_
  rintro w' ⟨nq, rfl⟩
  have bw1 : Below w.heap.size w w1 := bel_after (bel_alloc _ _).drew b1
  have rd1 := (own1.rd hX.out).drewN nq
  unfold maxLen at hc2
  go_wp2_with (go_at_call 12; refine (heads_any _).mono ?_; rintro e w2 ⟨rfl, b2⟩)
  have own2 := (own1.drewN nq).below b2
  have bw2 : Below w.heap.size w w2 := bel_after (below_drewN bw1 nq) b2
  refine (get_at _ _ q c1 _ w2 ((own2.rd hX.out).take (by omega)) (Nat.le_refl _) (by omega) (by omega) (by have := hn.out; omega) 0 0 0 0 0 0 2 hE rfl).mono ?_
  rintro e w3 ⟨rfl, b3⟩
  go_wp2
  go_ret
  exact ⟨rfl, by have := bel_after bw2 b3; (repeat (first | (with_reducible exact this) | (with_reducible refine Below.setCell ?_ ?_ _; rotate_left; · (first | omega | (simp; done) | (simp; omega) | (have hsz := Below.size this; omega) | (have hsz := Below.size this; simp; omega))) | (with_reducible refine Below.alloc ?_ ?_ _; rotate_left; · (first | omega | (simp; done) | (simp; omega) | (have hsz := Below.size this; omega) | (have hsz := Below.size this; simp; omega))) | (with_reducible refine below_drewN ?_ _) | (with_reducible refine Below.drew ?_)))⟩
theorem HeadCuts_args (W : World) (args : Array Value) (hs : args.size = Try.f4.params.size) (hA : ∀ (j : Nat) t v, Try.f4.params[j]? = some t → args[j]? = some v → Arg Try.prog W t v) :
    Calls Try.prog 4 args W fun e W' => e = .returned (.bool true) ∧ Below W.heap.size W W' := by
  obtain ⟨v0, v1, v2, rfl⟩ := args3 hs
  obtain ⟨a, b, c, d, e, f, rfl, he, hf⟩ := arg_head (hA 0 24 v0 rfl rfl)
  obtain ⟨A, len, cap, l, rfl, h1, h2, h3⟩ := arg_ints Try.underlying25 Try.underlying5 (by kernel_rfl) (hA 1 25 v1 rfl rfl)
  obtain ⟨at_, rfl, _⟩ := arg_int Try.underlying3 (hA 2 3 v2 rfl rfl)
  unfold maxLen at h2
  obtain ⟨m, hmn, hm1, hm2⟩ := minc 100 (by omega) len
  by_cases hp : canPut c d m
  · exact HeadCuts_yes a b c d e f at_ A len cap l W h3 h1 (by omega) m hmn hm1 hm2 hp.1 hp.2.1 (inr_u32 he) (inr_u32 hf)
  · exact HeadCuts_no a b c d e f at_ A len cap l W h1 (by omega) m hmn hm1 hm2 hp

set_option maxRecDepth 100000 in
theorem HeadCuts_lifted (os : Os) (started : os.Started) (H : Type) (enc : TypeId × Value → H) :
    ReturnsInHanded {} Try.checked os 4 .any (Rows.headCutsSpec.pre6 enc Try.prog Try.f4 Rows.headCutsRow.domain false) (Rows.headCutsSpec.post enc Try.prog Try.f4 false true false false) :=
  law_lifted os started H enc (by kernel_rfl) Try.func4 rfl rfl (fun H ds h => by match ds, h with | [_, _, _], _ => exact ⟨rfl, rfl, rfl⟩) (by kernel_rfl)
    (ChangeSpec.witness6 (enc := enc) (C := Try.checked) false ⟨#[], #[.agg #[.int .i64 0, .int .i64 0, .int .i64 0, .int .i64 0, .int .u32 0, .int .u32 0], .slice none 0 0, .int .i64 0], []⟩ 8 (by kernel_rfl) (by kernel_rfl) (by kernel_rfl) (by kernel_rfl))
    HeadCuts_args

/-- the statement -/
theorem headCuts_holds : Rows.HeadCutsSaid :=
  OpenClaim.holds_of_wide 4 Try.f4 rfl rfl rfl rfl rfl rfl rfl ⟨rfl, rfl, rfl, rfl, rfl⟩ rfl rfl rfl rfl rfl (by kernel_rfl) Try.func4 (by kernel_rfl)
    (of_decide_eq_true (by kernel_rfl)) (by unfold Func.isWrapper; first | (rw [if_pos (by decide +kernel)]; kernel_rfl) | (rw [if_neg (by decide +kernel)]; exact ⟨rfl, rfl⟩))
    (fun os started H enc _ => HeadCuts_lifted os started H enc)

end Go.Proofs.Ytcpndmcidbidbaa
