/- The document's ring: All, Copy. -/
import Derived.Test.YtpkcajnlcpmmcaaRingT4
namespace Go.Proofs.Ytpkcajnlcpmmcaa
set_option linter.unusedVariables false
set_option linter.unusedSimpArgs false
open Go.RowKit
set_option maxHeartbeats 1000000 in
theorem rAll_any (rb lb : Nat) (D0 D1 : Option Addr) (r : Rg) (M : List Int) (nx d e : Nat) (w : World) (rf : RfAt w rb lb D0 D1 r M) (n1 : 1 ≤ r.n) (n2 : r.n ≤ 256) (hg : r.got = (nx : Nat)) (hh : r.had = (e : Nat)) (he : nx + d = e) (hb : e ≤ 1000) :
    Calls Try.prog 23 #[.pointer (some ⟨rb, 0, none⟩)] w fun e w' => ∃ v, e = .returned v ∧ Own .u64 23 w' w.heap.size v (allAt r.L r.n nx d) ∧ Below w.heap.size w w' := by
  obtain ⟨i0, hi, hz0, hz1, hz2⟩ := info_parts info_u64r
  have q1 := rf.obj.cell 1
  have q2 := rf.obj.cell 2
  rw [hg] at q1
  rw [hh] at q2
  simp only [List.getElem?_toArray, List.getElem?_cons_zero, List.getElem?_cons_succ] at q1 q2
  clear hg hh
  have hnz : ((r.n : Int) == 0) = false := by simp; omega
  have hnz2 : (r.n : Int) ≠ 0 := by omega
  have hun : IntKind.u64.wrap (r.n : Int) = r.n := by rw [IntKind.wrap_u64]; omega
  have hmod : ∀ c : Nat, ∃ j : Nat, (c : Int).tmod r.n = (j : Int) ∧ j < r.n ∧ 2 + (c : Int) % r.n = 2 + (j : Int) := fun c => by
    have h1 := Int.emod_nonneg (c : Int) hnz2
    have h2 := Int.emod_lt_of_pos (c : Int) (show (0 : Int) < r.n by omega)
    exact ⟨((c : Int) % r.n).toNat, by rw [Int.tmod_eq_emod_of_nonneg (by omega)]; omega, by omega, by omega⟩
  have hcel : ∀ j : Nat, j < r.n → celAt r.L (2 + (j : Int)) = M.getD j 0 ∧ w.cell? ⟨lb, j, none⟩ = some (.int .u64 (M.getD j 0)) ∧ inr .u64 (M.getD j 0) := fun j hj => by
    have hjm : j < M.length := by rw [rf.len]; exact hj
    have hgd : M.getD j 0 = M[j] := by rw [List.getD_eq_getElem?_getD, List.getElem?_eq_getElem hjm]; rfl
    refine ⟨by rw [rf.eqL]; exact cel2 _ _ _ _ hjm, ?_, hgd ▸ rf.rng _ (List.getElem_mem _)⟩
    rw [rf.row.cell, hgd]; simp [List.getElem?_eq_getElem hjm]
  have r0 : ∀ t : Tw (fun W => Below w.heap.size w W), t.w.cell? ⟨rb, 0, none⟩ = some (.int .i64 r.n) := fun t => rf.obj.tw rf.obj.lt t 0
  have r3 : ∀ t : Tw (fun W => Below w.heap.size w W), t.w.cell? ⟨rb, 3, none⟩ = some (.slice (some ⟨lb, 0, none⟩) r.n r.n) := fun t => rf.obj.tw rf.obj.lt t 3
  have hlb : lb < w.heap.size := rf.row.lt
  have hrb : rb < w.heap.size := rf.obj.lt
  have : Nonempty (Tw (fun W => Below w.heap.size w W)) := ⟨⟨w, Below.refl _ _⟩⟩
  replace n1 := Lib.hid n1
  replace n2 := Lib.hid n2
  replace he := Lib.hid he
  replace hmod := Lib.hid hmod
  replace hcel := Lib.hid hcel
  clear rf
  go_enter Try.func23, Try.ntmps23
  go_wp2_with fail
  go_loopw [3, 4] (fun v ix wr => ∃ k c : Nat, k ≤ d ∧ nx + k = c ∧ ix = .int .u64 (c : Int) ∧ Own .u64 23 wr w.heap.size v (allAt r.L r.n nx k) ∧ Below w.heap.size w wr) (fun _ ix _ => e - (intOf ix).toNat)
  case atStart => exact ⟨0, nx, Nat.zero_le _, rfl, rfl, Own.nil _ _ _ _, Below.refl _ _⟩
  case round =>
    obtain ⟨k, c, hk, hc, rfl, own, bel⟩ := hrel
    have he2 := he.out
    have q2r : wr.cell? ⟨rb, 2, none⟩ = some (.int .u64 (e : Int)) := (bel.cell (p := ⟨rb, 2, none⟩) hrb).trans q2
    by_cases hlt : k < d
    · have hdl : decide (c < e) = true := by simp; omega
      have hwk : IntKind.u64.wrap ((c : Int) + 1) = (c : Int) + 1 := by rw [IntKind.wrap_u64]; omega
      have hc5 : c < 2000 := by omega
      have hk5 : k < 2000 := by omega
      replace hc := Lib.hid hc
      clear he2
      obtain ⟨j, hjt, hjn, hj2⟩ := hmod.out c
      obtain ⟨hx1, hx2, hxr⟩ := hcel.out j hjn
      obtain ⟨x, hx⟩ : ∃ x, x = M.getD j 0 := ⟨_, rfl⟩
      rw [← hx] at hx1 hx2 hxr
      replace hx := Lib.hid hx
      replace hj2 := Lib.hid hj2
      replace hx1 := Lib.hid hx1
      have z0 : ∀ t : Tw (fun W => Below w.heap.size w W), t.w.cell? ⟨lb, j, none⟩ = some (.int .u64 x) := fun t => (t.h.cell (p := ⟨lb, j, none⟩) hlb).trans hx2
      have hj0 : (0 : Int) ≤ j := by omega
      have hji : (j : Int) < r.n := by omega
      clear hx2
      go_upto_region 5 with fail
      refine wp_region_plan (fun W => Below w.heap.size w W) [(0, true), (1, true), (2, true), (3, true), (4, true), (5, true), (6, true), (7, true), (8, true), (9, true), (10, true), (11, true), (12, true), (13, true), (14, false), (15, false), (16, true)] (by kernel_rfl) (by kernel_rfl) (by kernel_rfl) (by kernel_rfl) bel.drew ?_
      replace bel := bel.drew
      replace own := own.drew
      clear q2r
      generalize wr.drew = w2 at *
      refine wpPl_qs 14 _ _ _ (by kernel_rfl) (by kernel_rfl) (by simp) ?_
      unfold clsS
      simp only [List.take_succ_cons, List.take_zero, List.drop_succ_cons, List.drop_zero, List.filterMap_cons, List.filterMap_nil, List.getElem?_toArray, List.getElem?_cons_zero, List.getElem?_cons_succ]
      repeat (first
        | go_big_quiet_skip
        | (go_big_quiet_want; go_big_quiet_op; go_big_quiet_on)
        | (refine id (?_ : wpQuiet _ _ _ _ (_ :: _) _); first | go_big_quiet_skip | (go_big_quiet_want; go_big_quiet_op; go_big_quiet_on)))
      refine wpQuiet_nil ?_
      have hrd := Rd.new .u64 w2 23 [x] (by intro y hy; simp at hy; subst hy; exact hxr) #[.int .u64 x] rfl 1 rfl
      have bel2 := bel.alloc bel.size (.cells #[.int .u64 x] 23)
      have own2 := own.alloc (.cells #[.int .u64 x] 23)
      refine wpPl_e _ (by rfl) (by kernel_rfl) (fun K hK => ?_)
      go_simp
      refine hK _ _ bel2 ?_
      clear hK K
      refine wpPl_e _ (by rfl) (by kernel_rfl) (fun K hK => ?_)
      refine wp_appI _ (.tmp 17) (.tmp 31) 30 (by rfl) .u64 w.heap.size 23 i0 (.int .u64 0) 8 Try.underlying30 hi hz0 hz1 hz2 rfl _ (by rfl) (allAt r.L r.n nx k) own2 _ _ 1 1 (by rfl) [x] hrd (by rw [allAt_len]; omega) (by decide) bel2.size ?_
      intro v1 w3 own3 hg3 _
      have bel3 : Below w.heap.size w w3 := bel2.grown hg3 bel2.size (fun g h => (own2.lt g h).1)
      rw [← hx1.out, ← hj2.out, ← hc.out, ← allAt_succ] at own3
      go_simp
      refine hK _ _ bel3 ?_
      clear hK K
      refine wpPl_qs 1 _ _ _ (by kernel_rfl) (by kernel_rfl) (by simp) ?_
      unfold clsS
      simp only [List.take_succ_cons, List.take_zero, List.drop_succ_cons, List.drop_zero, List.filterMap_cons, List.filterMap_nil, List.getElem?_toArray, List.getElem?_cons_zero, List.getElem?_cons_succ]
      repeat (first
        | go_big_quiet_skip
        | (go_big_quiet_want; go_big_quiet_op; go_big_quiet_on)
        | (refine id (?_ : wpQuiet _ _ _ _ (_ :: _) _); first | go_big_quiet_skip | (go_big_quiet_want; go_big_quiet_op; go_big_quiet_on)))
      refine wpQuiet_nil ?_
      unfold wpPl
      refine NoPanic.normal ?_
      clear z0 hrd own2 bel2 hg3
      go_wp2_with fail
      go_roundw
      case rel => exact ⟨k + 1, c + 1, by omega, by have := hc.out; omega, by go_num, own3, bel3⟩
      case measure => have := hc.out; have := he.out; simp [intOf]; omega
    · obtain rfl : k = d := by omega
      obtain rfl : c = e := by omega
      have hdl : decide (c < c) = false := by simp
      replace hc := Lib.hid hc
      clear he2
      go_wp2_with fail
      go_ret
      exact ⟨_, rfl, own, bel⟩
set_option maxHeartbeats 1000000 in
theorem rCopy_any (rb lb : Nat) (D0 D1 : Option Addr) (r : Rg) (M : List Int) (w : World) (rf : RfAt w rb lb D0 D1 r M) (n2 : r.n ≤ 256) (hg : inr .u64 r.got) (hh : inr .u64 r.had) :
    Calls Try.prog 22 #[.pointer (some ⟨rb, 0, none⟩)] w fun e w' => ∃ v, e = .returned v ∧ Own .u64 23 w' w.heap.size v r.L ∧ Below w.heap.size w w' := by
  obtain ⟨i0, hi, hz0, hz1, hz2⟩ := info_parts info_u64r
  have r1 : ∀ t : Tw (fun W => Below w.heap.size w W), t.w.cell? ⟨rb, 1, none⟩ = some (.int .u64 r.got) := fun t => rf.obj.tw rf.obj.lt t 1
  have r2 : ∀ t : Tw (fun W => Below w.heap.size w W), t.w.cell? ⟨rb, 2, none⟩ = some (.int .u64 r.had) := fun t => rf.obj.tw rf.obj.lt t 2
  have r3 : ∀ t : Tw (fun W => Below w.heap.size w W), t.w.cell? ⟨rb, 3, none⟩ = some (.slice (some ⟨lb, 0, none⟩) r.n r.n) := fun t => rf.obj.tw rf.obj.lt t 3
  have : Nonempty (Tw (fun W => Below w.heap.size w W)) := ⟨⟨w, Below.refl _ _⟩⟩
  have hrM := rf.rdr
  have hML := rf.len
  rw [rf.eqL]
  replace hML := Lib.hid hML
  clear rf
  go_enter Try.func22, Try.ntmps22
  go_upto_region 1 with fail
  refine wp_region_plan (fun W => Below w.heap.size w W) [(0, true), (1, true), (2, true), (3, true), (4, true), (5, true), (6, true), (7, true), (9, true), (10, true), (11, true), (12, true), (8, false), (13, false), (14, true)] (by kernel_rfl) (by kernel_rfl) (by kernel_rfl) (by kernel_rfl) (Below.refl _ _).drew ?_
  refine wpPl_qs 12 _ _ _ (by kernel_rfl) (by kernel_rfl) (by simp) ?_
  unfold clsS
  simp only [List.take_succ_cons, List.take_zero, List.drop_succ_cons, List.drop_zero, List.filterMap_cons, List.filterMap_nil, List.getElem?_toArray, List.getElem?_cons_zero, List.getElem?_cons_succ]
  repeat (first
    | go_big_quiet_skip
    | (go_big_quiet_want; go_big_quiet_op; go_big_quiet_on)
    | (refine id (?_ : wpQuiet _ _ _ _ (_ :: _) _); first | go_big_quiet_skip | (go_big_quiet_want; go_big_quiet_op; go_big_quiet_on)))
  refine wpQuiet_nil ?_
  have bel : Below w.heap.size w w.drew := (Below.refl _ _).drew
  have hrM1 := hrM.below bel
  have own1 := Own.new .u64 w.drew 23 w.heap.size bel.size [r.got, r.had] (by intro y hy; simp at hy; rcases hy with rfl | rfl; exact hg; exact hh) #[.int .u64 r.got, .int .u64 r.had] rfl 2 rfl (by simp [maxLen])
  have bel2 := bel.alloc bel.size (.cells #[.int .u64 r.got, .int .u64 r.had] 23)
  have hrM2 := hrM.below bel2
  refine wpPl_e _ (by rfl) (by kernel_rfl) (fun K hK => ?_)
  go_simp
  refine hK _ _ bel2 ?_
  clear hK K
  refine wpPl_e _ (by rfl) (by kernel_rfl) (fun K hK => ?_)
  refine wp_appI _ (.tmp 11) (.tmp 15) 30 (by rfl) .u64 w.heap.size 23 i0 (.int .u64 0) 8 Try.underlying30 hi hz0 hz1 hz2 rfl _ (by rfl) [r.got, r.had] own1 _ _ _ _ (by rfl) M hrM2 (by simp; omega) (by decide) bel2.size ?_
  intro v1 w3 own3 hg3 _
  have bel3 : Below w.heap.size w w3 := bel2.grown hg3 bel2.size (fun g h => (own1.lt g h).1)
  go_simp
  refine hK _ _ bel3 ?_
  clear hK K
  refine wpPl_qs 1 _ _ _ (by kernel_rfl) (by kernel_rfl) (by simp) ?_
  unfold clsS
  simp only [List.take_succ_cons, List.take_zero, List.drop_succ_cons, List.drop_zero, List.filterMap_cons, List.filterMap_nil, List.getElem?_toArray, List.getElem?_cons_zero, List.getElem?_cons_succ]
  repeat (first
    | go_big_quiet_skip
    | (go_big_quiet_want; go_big_quiet_op; go_big_quiet_on)
    | (refine id (?_ : wpQuiet _ _ _ _ (_ :: _) _); first | go_big_quiet_skip | (go_big_quiet_want; go_big_quiet_op; go_big_quiet_on)))
  refine wpQuiet_nil ?_
  unfold wpPl
  refine NoPanic.normal ?_
  go_wp2_with fail
  go_ret
  exact ⟨_, rfl, own3, bel3⟩
end Go.Proofs.Ytpkcajnlcpmmcaa
