/- Every input of HeadPieces answers true, and reads behind the call as it read before. No condition. -/
import Derived.Test.YtcpndmcidbidbaaHeadFix
import Derived.Test.YtcpndmcidbidbaaHeadCuts
namespace Go.Proofs.Ytcpndmcidbidbaa
set_option linter.unusedVariables false
set_option linter.unusedSimpArgs false
open Go.RowKit
/-- a head of a piece -/
def hdp (t p s d n S q : Int) : List Int :=
  [69, 0, n / 256, n % 256, 0, 0, q / 256, q % 256, t, p, S / 256, S % 256, s / 16777216, s / 65536 % 256, s / 256 % 256, s % 256, d / 16777216, d / 65536 % 256, d / 256 % 256, d % 256]
section
variable (t p s d n S q : Int) (r : List Int)
theorem hdp_len : (hdp t p s d n S q ++ r).length = 20 + r.length := by simp [hdp]; omega
theorem hdp_n2 : n2 (hdp t p s d n S q ++ r) 2 = n := by
  rw [n2_eq _ _ (by rw [hdp_len]; omega)]
  show n / 256 * 256 + n % 256 = n
  omega
theorem hdp_n6 : n2 (hdp t p s d n S q ++ r) 6 = q := by
  rw [n2_eq _ _ (by rw [hdp_len]; omega)]
  show q / 256 * 256 + q % 256 = q
  omega
theorem hdp_take20 : (hdp t p s d n S q ++ r).take 20 = hdp t p s d n S q := by
  rw [List.take_append_of_le_length (by show 20 ≤ 20; omega), List.take_of_length_le (by show 20 ≤ 20; omega)]
theorem hdp_shape (most : Int) (h : 20 ≤ n) (hm : n ≤ most) : shapeE (hdp t p s d n S q ++ r) most = 0 := by
  unfold shapeE
  rw [hdp_len, hdp_n2, show (hdp t p s d n S q ++ r).getD 0 0 = 69 from rfl]
  rw [if_neg (by omega), if_neg (by omega), if_neg (by omega), if_neg (by omega)]
theorem hdp_whole : wholeE (hdp t p s d n S q ++ r) = if q % 16384 ≠ 0 then 5 else 0 := by
  unfold wholeE; rw [hdp_n6]
theorem hdp_sb : sb true (hdp t p s d n S q) = sb true (hdp t p s d n 0 q) + S := by
  simp only [hdp, sb]; omega
theorem hdp_bd (ht : 0 ≤ t ∧ t ≤ 255) (hp : 0 ≤ p ∧ p ≤ 255) (hs : 0 ≤ s ∧ s ≤ 4294967295) (hd : 0 ≤ d ∧ d ≤ 4294967295) (hn : 0 ≤ n ∧ n ≤ 65535) (hss : 0 ≤ S ∧ S ≤ 65535) (hq : 0 ≤ q ∧ q ≤ 65535) : ∀ x, x ∈ hdp t p s d n S q → 0 ≤ x ∧ x ≤ 255 := by
  intro x hx
  simp only [hdp, List.mem_cons, List.not_mem_nil, or_false] at hx
  omega
theorem hdp_closed (h0 : 0 ≤ sb true (hdp t p s d n 0 q)) : ∃ k : Int, 0 < k ∧ sb true (hdp t p s d n (sumOf (hdp t p s d n 0 q)) q) = 65535 * k := by
  rw [hdp_sb]
  unfold sumOf
  generalize sb true (hdp t p s d n 0 q) = A at *
  by_cases h : A = 0
  · subst h; exact ⟨1, by omega, by decide⟩
  · have : fo A = (A - 1) % 65535 + 1 := by unfold fo; rw [if_neg h]
    rw [this]; exact ⟨(A - 1) / 65535 + 1, by omega, by omega⟩
theorem fix_hdp : fixL (hdp t p s d n S q ++ r) = hdp t p s d n (sumOf (hdp t p s d n 0 q)) q ++ r := by
  have h1 : fixN (hdp t p s d n S q ++ r) = 20 := by
    unfold fixN
    rw [show (hdp t p s d n S q ++ r).getD 0 0 = 69 from rfl, if_neg (by rw [hdp_len]; omega)]; rfl
  have h2 : fixZ (hdp t p s d n S q ++ r) = hdp t p s d n 0 q ++ r := rfl
  unfold fixL
  rw [h1, h2, hdp_take20]
  rfl
theorem put_piece (l : List Int) : ((putL t p s d l).set 6 (q / 256)).set 7 (q % 256) = hdp t p s d (20 + l.length) (sumOf (hd20 t p s d (20 + l.length) 0)) q ++ l := rfl
end
theorem piece_get {t p s d q : Int} {l : List Int} (ht : 0 ≤ t ∧ t ≤ 255) (hp : 0 ≤ p ∧ p ≤ 255) (hs : 0 ≤ s ∧ s ≤ 4294967295) (hd : 0 ≤ d ∧ d ≤ 4294967295) (hq : 0 ≤ q ∧ q ≤ 65535) (hl : l.length ≤ 1480) :
    getE (fixL (((putL t p s d l).set 6 (q / 256)).set 7 (q % 256))) = (if q % 16384 ≠ 0 then 5 else 0) ∧ partE (fixL (((putL t p s d l).set 6 (q / 256)).set 7 (q % 256))) = (if q % 16384 ≠ 0 then 5 else 0) := by
  rw [put_piece, fix_hdp]
  have hb := hdp_bd t p s d (20 + l.length) 0 q ht hp hs hd (by omega) (by omega) hq
  obtain ⟨k, hk, hc⟩ := hdp_closed t p s d (20 + l.length) q (sb_bd _ hb true).1
  constructor
  · unfold getE
    rw [hdp_shape _ _ _ _ _ _ _ _ 1500 (by omega) (by omega), if_neg (by decide), hdp_len, hdp_n2, if_neg (by omega)]
    rw [show (hdp t p s d (20 + ↑l.length) (sumOf (hdp t p s d (20 + ↑l.length) 0 q)) q ++ l).getD 0 0 = 69 from rfl, show ((69 : Int) % 16 * 4).toNat = 20 from rfl, hdp_take20, sumOf_null _ k hk hc, if_neg (by decide), hdp_whole]
  · unfold partE
    rw [hdp_shape _ _ _ _ _ _ _ _ 65535 (by omega) (by omega), if_neg (by decide), hdp_whole]
theorem u16_and3FFF (a : Int) : bits .and .u16 a 16383 = a % 16384 := and_mask (k := .u16) rfl 14 (by decide) a
attribute [go_sem] u16_and3FFF
set_option maxRecDepth 100000 in
set_option maxHeartbeats 4000000 in
theorem HeadPieces_no (a b c d e f q : Int) (A : Option Addr) (len cap : Nat) (l : List Int) (w : World) (hlc : len ≤ cap) (hm : cap ≤ 9223372036854775807) (m : Nat) (hmn : (if (100 : Int) < (len : Int) then (100 : Int) else (len : Int)) = (m : Int)) (hm1 : m ≤ len) (hm2 : (m : Int) ≤ 100) (hn : ¬ canPut c d m) :
    Calls Try.prog 8 #[.agg #[.int .i64 a, .int .i64 b, .int .i64 c, .int .i64 d, .int .u32 e, .int .u32 f], .slice A len cap, .int .u16 q] w fun e w' => e = .returned (.bool true) ∧ Below w.heap.size w w' := by
  have hi0 : (0 : Int) ≤ (m : Int) := by omega
  have hi1 : (m : Int) ≤ (cap : Int) := by omega
  have hi2 : m ≤ cap := by omega
  go_enter Try.func8, Try.ntmps8
  go_wp2_with fail
  refine wp_region_pivot 6 _ (by rfl) (by kernel_rfl) (by kernel_rfl) rfl ?_
  simp only [List.take_succ_cons, List.take_zero, List.drop_succ_cons, List.drop_zero]
  repeat still_step
  refine wpStill_nil ?_
  intro K hK
  go_simp
  (refine (rPut_no _ _ _ _ _ _ _ _ _ _ hn).mono ?_; rintro e w1 ⟨rfl, b1⟩)
  refine hK _ _ ?_
  clear hK K
  repeat (first
    | go_big_quiet_skip
    | (go_big_quiet_want; go_big_quiet_op; go_big_quiet_on))
  refine wpQuiet_nil ?_
  rintro w' ⟨nq, rfl⟩
  go_wp2_with fail
  refine (heads_any _).mono ?_
  rintro e w2 ⟨rfl, b2⟩
  go_wp2_with fail
  refine (heads_any _).mono ?_
  rintro e w3 ⟨rfl, b3⟩
  go_wp2
  go_ret
  exact ⟨rfl, bel_after (bel_after (below_drewN (bel_after (bel_alloc _ _).drew b1) nq) b2) b3⟩
set_option maxRecDepth 100000 in
set_option maxHeartbeats 4000000 in
theorem HeadPieces_yes (a b c d e f q : Int) (A : Option Addr) (len cap : Nat) (l : List Int) (w : World) (hr : Rd .u8 w w.heap.size A len l) (hlc : len ≤ cap) (hm : cap ≤ 9223372036854775807) (m : Nat) (hmn : (if (100 : Int) < (len : Int) then (100 : Int) else (len : Int)) = (m : Int)) (hm1 : m ≤ len) (hm2 : (m : Int) ≤ 100)
    (hc : 0 ≤ c ∧ c ≤ 255) (hd : 0 ≤ d ∧ d ≤ 255) (he : 0 ≤ e ∧ e ≤ 4294967295) (hf : 0 ≤ f ∧ f ≤ 4294967295) (hq : 0 ≤ q ∧ q ≤ 65535) :
    Calls Try.prog 8 #[.agg #[.int .i64 a, .int .i64 b, .int .i64 c, .int .i64 d, .int .u32 e, .int .u32 f], .slice A len cap, .int .u16 q] w fun e w' => e = .returned (.bool true) ∧ Below w.heap.size w w' := by
  have hr2 := hr.take hm1
  obtain ⟨L, hL⟩ : ∃ L, L = l.take m := ⟨_, rfl⟩
  rw [← hL] at hr2
  have hLl := hr2.len
  clear hL hr
  obtain ⟨n, hn⟩ : ∃ n, n = 20 + m := ⟨_, rfl⟩
  have hX : (putL c d e f L).length = n := by rw [put_len, hLl, hn]
  have hP := piece_get (t := c) (p := d) (s := e) (d := f) (l := L) hc hd he hf hq (by omega)
  obtain ⟨X, hXe⟩ : ∃ X, X = putL c d e f L := ⟨_, rfl⟩
  rw [← hXe] at hX hP
  have hput : ∀ W, Below w.heap.size w W → Calls Try.prog 11 #[.agg #[.int .i64 a, .int .i64 b, .int .i64 c, .int .i64 d, .int .u32 e, .int .u32 f], .slice A m cap] W fun r w' => ∃ v', r = .returned (.tuple #[v', .bool true]) ∧ Own .u8 5 w' W.heap.size v' X ∧ Below W.heap.size W w' := fun W hW => (rPut_any a b c d e f L A m cap w.heap.size W (hr2.below hW) hW.size hc hd he hf (by omega)).mono fun r w' ⟨v', h1, h2, h3⟩ => ⟨v', h1, hXe ▸ h2, h3⟩
  obtain ⟨Y, hY⟩ : ∃ Y, Y = (X.set 6 (q / 256)).set 7 (q % 256) := ⟨_, rfl⟩
  have hFl : (fixL Y).length = n := by rw [fixL_len, hY]; simp [hX]
  have hYl : Y.length = n := by rw [hY]; simp [hX]
  rw [← hY] at hP
  have hw1 : IntKind.u8.wrap q = q % 256 := IntKind.wrap_u8' q
  obtain ⟨E, hEq⟩ : ∃ E : Int, (if q % 16384 ≠ 0 then (5 : Int) else 0) = E := ⟨_, rfl⟩
  rw [hEq] at hP
  have hE : (E = 5 ∧ (q % 16384 != 0) = true) ∨ (E = 0 ∧ (q % 16384 != 0) = false) := by
    by_cases h : q % 16384 = 0
    · right; rw [← hEq]; simp [h]
    · left; rw [← hEq]; simp [h]
  clear hEq
  have hn' : Hid (n = 20 + m) := hn
  have hn20 : 20 ≤ n ∧ n ≤ 1000 := by omega
  replace hput := Lib.hid hput
  replace hLl := Lib.hid hLl
  replace hX := Lib.hid hX
  replace hP := Lib.hid hP
  replace hY := Lib.hid hY
  replace hFl := Lib.hid hFl
  replace hYl := Lib.hid hYl
  clear hXe hn
  have hi0 : (0 : Int) ≤ (m : Int) := by omega
  have hi1 : (m : Int) ≤ (cap : Int) := by omega
  have hi2 : m ≤ cap := by omega
  have hn6 : 6 < n := by omega
  have hn7 : 7 < n := by omega
  obtain ⟨y0, y1, y2, y3, y4, y5, hy⟩ : ∃ y0 y1 y2 y3 y4 y5 : Int, hdIf (fixL Y) E = ⟨y0, y1, y2, y3, y4, y5⟩ := ⟨_, _, _, _, _, _, rfl⟩
  replace hy := Lib.hid hy
  replace hE := Lib.hid hE
  go_enter Try.func8, Try.ntmps8
  go_wp2_with fail
  refine wp_region_pivot 6 _ (by rfl) (by kernel_rfl) (by kernel_rfl) rfl ?_
  simp only [List.take_succ_cons, List.take_zero, List.drop_succ_cons, List.drop_zero]
  repeat still_step
  refine wpStill_nil ?_
  intro K hK
  go_simp
  (refine (hput.out _ (bel_alloc _ _).drew).mono ?_; rintro e w1 ⟨v1, rfl, own1, b1⟩; obtain ⟨g, c1, rfl, hc1, hc2, hg1, hg2⟩ := own1.formG hX.out (by omega))
  refine hK _ _ ?_
  clear hK K
  repeat (first
    | go_big_quiet_skip
    | (go_big_quiet_want; go_big_quiet_op; go_big_quiet_on))
  refine wpQuiet_nil ?_
  rintro w' ⟨nq, rfl⟩
  have bw1 : Below w.heap.size w w1 := bel_after (bel_alloc _ _).drew b1
  unfold maxLen at hc2
  go_wp2_with (go_at_call 12; refine (heads_any _).mono ?_; rintro e w2 ⟨rfl, b2⟩; have own2 := (own1.drewN nq).below b2; have bw2 : Below w.heap.size w w2 := bel_after (below_drewN bw1 nq) b2; clear b2 own1 bw1 b1; obtain ⟨c6, f6, _⟩ := own2.at_ hX.out (j := 6) (by omega); obtain ⟨c7, f7, _⟩ := own2.at_ hX.out (j := 7) (by omega))
  have own3 := (own2.set hX.out 6 (x := q / 256) (u8_inr (by omega))).set (by rw [List.length_set]; exact hX.out) 7 (x := q % 256) (u8_inr (by omega))
  rw [← hY.out] at own3
  have hgw : w.heap.size ≤ g := by simp at hg1; omega
  have bw3 : Below w.heap.size w ((w2.setCell ⟨g, 6, none⟩ (.int .u8 (q / 256))).setCell ⟨g, 7, none⟩ (.int .u8 (q % 256))) := (bw2.setCell (p := ⟨g, 6, none⟩) hgw _).setCell (p := ⟨g, 7, none⟩) hgw _
  refine (rFix_any Y _ n c1 _ _ (own3.rd hYl.out) (Nat.le_refl _) (by omega) (by omega)).mono ?_
  rintro e w4 ⟨v4, rfl, own4, b4⟩
  obtain ⟨g4, c4, rfl, hc41, hc42, hg41, hg42⟩ := own4.formG hFl.out (by omega)
  unfold maxLen at hc42
  have bw4 : Below w.heap.size w w4 := bel_after bw3 b4
  have rd4 := own4.rd hFl.out
  go_wp2_with fail
  refine (get_at _ _ n c4 _ _ rd4 (Nat.le_refl _) hc41 (by omega) (by omega) y0 y1 y2 y3 y4 y5 E hP.out.1 hy.out).mono ?_
  rintro e w5 ⟨rfl, b5⟩
  have bw5 := bel_after bw4 b5
  go_wp2_with fail
  refine (part_at _ _ n c4 w4.heap.size _ (rd4.below (b5.alloc b5.size _)) (by have := b5.size; simp; omega) hc41 (by omega) y0 y1 y2 y3 y4 y5 E hP.out.2 hy.out).mono ?_
  rintro e w6 ⟨rfl, b6⟩
  have bw6 := bel_after (bw5.alloc bw5.size _) b6
  rcases hE.out with ⟨rfl, hE'⟩ | ⟨rfl, hE'⟩
  all_goals
    go_wp2
    go_ret
    exact ⟨rfl, by (repeat (first | (with_reducible exact bw6) | (with_reducible refine Below.setCell ?_ ?_ _; rotate_left; · (first | omega | (simp; done) | (simp; omega) | (have hsz := Below.size bw6; omega) | (have hsz := Below.size bw6; simp; omega))) | (with_reducible refine Below.alloc ?_ ?_ _; rotate_left; · (first | omega | (simp; done) | (simp; omega) | (have hsz := Below.size bw6; omega) | (have hsz := Below.size bw6; simp; omega))) | (with_reducible refine below_drewN ?_ _) | (with_reducible refine Below.drew ?_)))⟩
theorem HeadPieces_args (W : World) (args : Array Value) (hs : args.size = Try.f8.params.size) (hA : ∀ (j : Nat) t v, Try.f8.params[j]? = some t → args[j]? = some v → Arg Try.prog W t v) :
    Calls Try.prog 8 args W fun e W' => e = .returned (.bool true) ∧ Below W.heap.size W W' := by
  obtain ⟨v0, v1, v2, rfl⟩ := args3 hs
  obtain ⟨a, b, c, d, e, f, rfl, he, hf⟩ := arg_head (hA 0 24 v0 rfl rfl)
  obtain ⟨A, len, cap, l, rfl, h1, h2, h3⟩ := arg_ints Try.underlying25 Try.underlying5 (by kernel_rfl) (hA 1 25 v1 rfl rfl)
  obtain ⟨q, rfl, hq⟩ := arg_int Try.underlying46 (hA 2 46 v2 rfl rfl)
  unfold maxLen at h2
  obtain ⟨m, hmn, hm1, hm2⟩ := minc 100 (by omega) len
  by_cases hp : canPut c d m
  · exact HeadPieces_yes a b c d e f q A len cap l W h3 h1 (by omega) m hmn hm1 hm2 hp.1 hp.2.1 (inr_u32 he) (inr_u32 hf) (inr_u16 hq)
  · exact HeadPieces_no a b c d e f q A len cap l W h1 (by omega) m hmn hm1 hm2 hp

set_option maxRecDepth 100000 in
theorem HeadPieces_lifted (os : Os) (started : os.Started) (H : Type) (enc : TypeId × Value → H) :
    ReturnsInHanded {} Try.checked os 8 .any (Rows.headPiecesSpec.pre6 enc Try.prog Try.f8 Rows.headPiecesRow.domain false) (Rows.headPiecesSpec.post enc Try.prog Try.f8 false true false false) :=
  law_lifted os started H enc (by kernel_rfl) Try.func8 rfl rfl (fun H ds h => by match ds, h with | [_, _, _], _ => exact ⟨rfl, rfl, rfl⟩) (by kernel_rfl)
    (ChangeSpec.witness6 (enc := enc) (C := Try.checked) false ⟨#[], #[.agg #[.int .i64 0, .int .i64 0, .int .i64 0, .int .i64 0, .int .u32 0, .int .u32 0], .slice none 0 0, .int .u16 0], []⟩ 8 (by kernel_rfl) (by kernel_rfl) (by kernel_rfl) (by kernel_rfl))
    HeadPieces_args

/-- the statement -/
theorem headPieces_holds : Rows.HeadPiecesSaid :=
  OpenClaim.holds_of_wide 8 Try.f8 rfl rfl rfl rfl rfl rfl rfl ⟨rfl, rfl, rfl, rfl, rfl⟩ rfl rfl rfl rfl rfl (by kernel_rfl) Try.func8 (by kernel_rfl)
    (of_decide_eq_true (by kernel_rfl)) (by unfold Func.isWrapper; first | (rw [if_pos (by decide +kernel)]; kernel_rfl) | (rw [if_neg (by decide +kernel)]; exact ⟨rfl, rfl⟩))
    (fun os started H enc _ => HeadPieces_lifted os started H enc)

end Go.Proofs.Ytcpndmcidbidbaa
