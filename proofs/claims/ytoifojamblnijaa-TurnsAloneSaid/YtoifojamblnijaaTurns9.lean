/- The walks of the laws' helpers: few, to, from, Same. -/
import Derived.Test.YtoifojamblnijaaTurns6
import Derived.Test.YtoifojamblnijaaRowT2
namespace Go.Proofs.Ytoifojamblnijaa
set_option linter.unusedVariables false
set_option linter.unusedSimpArgs false
open Go.RowKit
theorem info_rops : (Try.prog.info? 39).map (fun i => (i.zero, i.size, i.bytes)) = some (some (.slice none 0 0), 1, 24) := by kernel_rfl
theorem info_rdone : (Try.prog.info? 49).map (fun i => (i.zero, i.size, i.bytes)) = some (some (.agg #[.int .i64 0, .int .i64 0, .int .u64 0]), 3, 24) := by kernel_rfl
def fewH (x : Hdr) : Hdr := ⟨x.A, min x.n 20, x.cap⟩
set_option maxRecDepth 100000 in
set_option maxHeartbeats 1000000 in
theorem few_any (A : Option Addr) (n cap : Nat) (hs : List Hdr) (w : World) (rd : RdT Hdr.cs 1 w w.heap.size A n hs) (hn : n ≤ 66) (hok : ∀ x ∈ hs, x.n ≤ x.cap ∧ x.cap ≤ maxLen) :
    Calls Try.prog 12 #[.slice A n cap] w fun e w' => ∃ v, e = .returned v ∧ Below w.heap.size w w' ∧ OwnT Hdr.cs 1 39 w' w.heap.size v (hs.map fewH) := by
  obtain ⟨i0, hi, hz0, hz1, hz2⟩ := info_parts info_rops
  go_enter Try.func12, Try.ntmps12
  go_wp2_with fail
  go_loopg [3, 4] n (fun gk s3 s4 wr => ∃ i : Nat, gk = n - i ∧ i ≤ n ∧ s4 = .int .i64 i ∧ OwnT Hdr.cs 1 39 wr w.heap.size s3 ((hs.take i).map fewH) ∧ Below w.heap.size w wr)
  case atStart => exact ⟨0, rfl, Nat.zero_le _, rfl, OwnT.nil _ _ _ _ _, Below.refl _ _⟩
  case round =>
    obtain ⟨i, hgk, hin, rfl, own, bel⟩ := hrel
    by_cases hlt : i < n
    · have hd : decide (i < n) = true := by simpa using hlt
      have hd2 : decide ((i : Int) < 66) = true := by simp; omega
      replace hgk := Lib.hid hgk
      obtain ⟨b, o, rfl, hb, hcl⟩ := rd.cel (by omega)
      obtain ⟨x, hxi⟩ : ∃ x, hs[i]? = some x := ⟨_, List.getElem?_eq_getElem (by have := rd.len; omega)⟩
      obtain ⟨hx1, hx2⟩ := hok x (List.mem_of_getElem? hxi)
      have htk : (hs.take (i + 1)).map fewH = (hs.take i).map fewH ++ [fewH x] := by rw [List.take_add_one, hxi]; simp
      replace htk := Lib.hid htk
      obtain ⟨xA, xn, xc⟩ := x
      have y0 : w.cell? ⟨b, o + i, none⟩ = some (.slice xA xn xc) := by have := hcl i _ hxi 0 _ rfl; simpa using this
      have hlen : ((hs.take i).map fewH).length = i := by rw [List.length_map, List.length_take, rd.len]; omega
      replace hlen := Lib.hid hlen
      simp only at hx1 hx2
      obtain ⟨m, hm, hm1, hm2⟩ := minc 20 (by omega) xn
      have hmm : m = min xn 20 := by split at hm <;> omega
      have hm5 : (m : Int) ≤ xc := by omega
      have hm6 : m ≤ xc := by omega
      have hm7 : (0 : Int) ≤ m := by omega
      have hfx : fewH ⟨xA, xn, xc⟩ = ⟨xA, m, xc⟩ := by simp only [fewH]; rw [hmm]
      rw [hfx] at htk
      replace hmm := Lib.hid hmm
      clear hcl hxi hfx
      have z0 : ∀ t : Tw (fun w' => Below w.heap.size w w'), t.w.cell? ⟨b, o + i, none⟩ = some (.slice xA xn xc) := fun t => (t.h.cell (p := ⟨b, o + i, none⟩) hb).trans y0
      have : Nonempty (Tw (fun w' => Below w.heap.size w w')) := ⟨⟨w, Below.refl _ _⟩⟩
      go_wp2_with fail
      refine wp_region_plan (fun w' => Below w.heap.size w w') [(0, true), (1, true), (2, true), (3, true), (4, true), (5, true), (6, true), (7, true), (8, true), (9, true), (10, true), (11, true), (12, false), (13, false), (14, true)] (by kernel_rfl) (by kernel_rfl) (by kernel_rfl) (by kernel_rfl) bel.drew ?_
      refine wpPl_qs 12 _ _ _ (by kernel_rfl) (by kernel_rfl) (by simp) ?_
      unfold clsS
      simp only [List.take_succ_cons, List.take_zero, List.drop_succ_cons, List.drop_zero, List.filterMap_cons, List.filterMap_nil, List.getElem?_toArray, List.getElem?_cons_zero, List.getElem?_cons_succ]
      repeat (first
        | go_big_quiet_skip
        | (go_big_quiet_want; go_big_quiet_op; go_big_quiet_on)
        | (refine id (?_ : wpQuiet _ _ _ _ (_ :: _) _); first | go_big_quiet_skip | (go_big_quiet_want; go_big_quiet_op; go_big_quiet_on)))
      refine wpQuiet_nil ?_
      have hx := RdT.new (cs := Hdr.cs) (sz := 1) Hdr.cs_len wr 39 [⟨xA, m, xc⟩] #[.slice xA m xc] rfl 1 rfl
      have hx : RdT Hdr.cs 1 (wr.alloc (.cells #[.slice xA m xc] 39)).drew (wr.heap.size + 1) (some ⟨wr.heap.size, 0, none⟩) 1 [⟨xA, m, xc⟩] := hx.keep (fun p hp => rfl)
      have bel2 : Below w.heap.size w (wr.alloc (.cells #[.slice xA m xc] 39)).drew := (bel.alloc bel.size _).drew
      have own2 : OwnT Hdr.cs 1 39 (wr.alloc (.cells #[.slice xA m xc] 39)).drew w.heap.size u3 ((hs.take i).map fewH) := (own.alloc _).drew
      refine wpPl_e _ (by rfl) (by kernel_rfl) (fun K hK => ?_)
      go_simp
      refine hK _ _ bel2 ?_
      clear hK K
      refine wpPl_e _ (by rfl) (by kernel_rfl) (fun K hK => ?_)
      refine wp_appT Hdr.cs_len Hdr.cs_one (by decide) _ (.tmp 15) (.tmp 27) 40 rfl w.heap.size 39 i0 (.slice none 0 0) 24 Try.underlying40 hi hz0 hz1 hz2 rfl u3 rfl _ own2 _ _ 1 1 rfl [⟨xA, m, xc⟩] hx (by rw [hlen.out]; omega) (by decide) bel2.size ?_
      intro v1 w1 own1 hg1 hb1
      have bel3 : Below w.heap.size w w1 := bel2.grown hg1 bel2.size (fun g h => (own2.lt g h).1)
      go_simp
      refine hK _ _ bel3 ?_
      clear hK K
      refine wpPl_qs 1 _ _ _ (by kernel_rfl) (by kernel_rfl) (by simp) ?_
      unfold clsS
      simp only [List.take_succ_cons, List.take_zero, List.drop_succ_cons, List.drop_zero, List.filterMap_cons, List.filterMap_nil, List.getElem?_toArray, List.getElem?_cons_zero, List.getElem?_cons_succ]
      repeat (first
        | go_big_quiet_skip
        | (go_big_quiet_want; go_big_quiet_op; go_big_quiet_on)
        | (refine id (?_ : wpQuiet _ _ _ _ (_ :: _) _); first | go_big_quiet_skip | (go_big_quiet_want; go_big_quiet_op; go_big_quiet_on)))
      refine wpQuiet_nil ?_
      unfold wpPl
      refine NoPanic.normal ?_
      rw [← htk.out] at own1
      clear z0 this hx bel2 own2 hg1 hb1 bel own y0
      go_wp2_with fail
      go_roundg (n - (i + 1))
      case measure => have := hgk.out; omega
      case rel => exact ⟨i + 1, rfl, by omega, by go_num, own1, bel3⟩
    · obtain rfl : i = n := by omega
      rw [List.take_of_length_le (by rw [rd.len]; exact Nat.le_refl _)] at own
      go_wp2
      go_ret
      exact ⟨_, rfl, bel, own⟩
set_option maxRecDepth 100000 in
set_option maxHeartbeats 1000000 in
theorem from_any (A : Option Addr) (n cap : Nat) (l2 : List Dn) (w : World) (rd2 : RdT Dn.cs 3 w w.heap.size A n l2) (hn : n ≤ 100000) :
    Calls Try.prog 15 #[.slice A n cap] w fun e w' => ∃ v, e = .returned v ∧ Below w.heap.size w w' ∧ OwnT Dn.cs 3 49 w' w.heap.size v l2 := by
  obtain ⟨i0, hi, hz0, hz1, hz2⟩ := info_parts info_rdone
  go_enter Try.func15, Try.ntmps15
  go_wp2_with fail
  go_loopg [3, 4] n (fun gk s3 s4 wr => ∃ i : Nat, gk = n - i ∧ i ≤ n ∧ s4 = .int .i64 i ∧ OwnT Dn.cs 3 49 wr w.heap.size s3 (l2.take i) ∧ Below w.heap.size w wr)
  case atStart => exact ⟨0, rfl, Nat.zero_le _, rfl, OwnT.nil _ _ _ _ _, Below.refl _ _⟩
  case round =>
    obtain ⟨i, hgk, hin, rfl, own, bel⟩ := hrel
    by_cases hlt : i < n
    · have hd : decide (i < n) = true := by simpa using hlt
      replace hgk := Lib.hid hgk
      obtain ⟨b, o, rfl, hb, hcl⟩ := rd2.cel (by omega)
      obtain ⟨d, hdi⟩ : ∃ d, l2[i]? = some d := ⟨_, List.getElem?_eq_getElem (by have := rd2.len; omega)⟩
      have htk : l2.take (i + 1) = l2.take i ++ [d] := by rw [List.take_add_one, hdi]; rfl
      replace htk := Lib.hid htk
      obtain ⟨who, idx, gv⟩ := d
      have y0 : w.cell? ⟨b, o + i * 3, none⟩ = some (.int .i64 who) := hcl i _ hdi 0 _ rfl
      have y1 : w.cell? ⟨b, o + i * 3 + 1, none⟩ = some (.int .i64 idx) := hcl i _ hdi 1 _ rfl
      have y2 : w.cell? ⟨b, o + i * 3 + 2, none⟩ = some (.int .u64 gv) := hcl i _ hdi 2 _ rfl
      have hlen : (l2.take i).length = i := by rw [List.length_take, rd2.len]; omega
      replace hlen := Lib.hid hlen
      clear hcl hdi
      go_wp2_with fail
      have z0 : ∀ t : Tw (fun w' => Below w.heap.size w w'), t.w.cell? ⟨b, o + i * 3, none⟩ = some (.int .i64 who) := fun t => (t.h.cell (p := ⟨b, o + i * 3, none⟩) hb).trans y0
      have z1 : ∀ t : Tw (fun w' => Below w.heap.size w w'), t.w.cell? ⟨b, o + i * 3 + 1, none⟩ = some (.int .i64 idx) := fun t => (t.h.cell (p := ⟨b, o + i * 3 + 1, none⟩) hb).trans y1
      have z2 : ∀ t : Tw (fun w' => Below w.heap.size w w'), t.w.cell? ⟨b, o + i * 3 + 2, none⟩ = some (.int .u64 gv) := fun t => (t.h.cell (p := ⟨b, o + i * 3 + 2, none⟩) hb).trans y2
      have : Nonempty (Tw (fun w' => Below w.heap.size w w')) := ⟨⟨w, Below.refl _ _⟩⟩
      refine wp_region_plan (fun w' => Below w.heap.size w w') [(0, true), (1, true), (2, true), (3, true), (4, true), (5, true), (6, true), (7, true), (8, true), (9, true), (10, true), (11, true), (12, true), (13, true), (14, true), (15, true), (16, true), (17, false), (18, false), (19, true)] (by kernel_rfl) (by kernel_rfl) (by kernel_rfl) (by kernel_rfl) bel.drew ?_
      refine wpPl_qs 17 _ _ _ (by kernel_rfl) (by kernel_rfl) (by simp) ?_
      unfold clsS
      simp only [List.take_succ_cons, List.take_zero, List.drop_succ_cons, List.drop_zero, List.filterMap_cons, List.filterMap_nil, List.getElem?_toArray, List.getElem?_cons_zero, List.getElem?_cons_succ]
      repeat (first
        | go_big_quiet_skip
        | (go_big_quiet_want; go_big_quiet_op; go_big_quiet_on)
        | (refine id (?_ : wpQuiet _ _ _ _ (_ :: _) _); first | go_big_quiet_skip | (go_big_quiet_want; go_big_quiet_op; go_big_quiet_on)))
      refine wpQuiet_nil ?_
      have hx := RdT.new (cs := Dn.cs) (sz := 3) Dn.cs_len wr 49 [⟨who, idx, gv⟩] #[.int .i64 who, .int .i64 idx, .int .u64 gv] rfl 1 rfl
      have hx : RdT Dn.cs 3 (wr.alloc (.cells #[.int .i64 who, .int .i64 idx, .int .u64 gv] 49)).drew (wr.heap.size + 1) (some ⟨wr.heap.size, 0, none⟩) 1 [⟨who, idx, gv⟩] := hx.keep (fun p hp => rfl)
      have bel2 : Below w.heap.size w (wr.alloc (.cells #[.int .i64 who, .int .i64 idx, .int .u64 gv] 49)).drew := (bel.alloc bel.size _).drew
      have own2 : OwnT Dn.cs 3 49 (wr.alloc (.cells #[.int .i64 who, .int .i64 idx, .int .u64 gv] 49)).drew w.heap.size u3 (l2.take i) := (own.alloc _).drew
      refine wpPl_e _ (by rfl) (by kernel_rfl) (fun K hK => ?_)
      go_simp
      refine hK _ _ bel2 ?_
      clear hK K
      refine wpPl_e _ (by rfl) (by kernel_rfl) (fun K hK => ?_)
      refine wp_appT Dn.cs_len Dn.cs_one (by decide) _ (.tmp 11) (.tmp 28) 44 rfl w.heap.size 49 i0 (.agg #[.int .i64 0, .int .i64 0, .int .u64 0]) 24 Try.underlying44 hi hz0 hz1 hz2 rfl u3 rfl (l2.take i) own2 _ _ 1 1 rfl [⟨who, idx, gv⟩] hx (by rw [hlen.out]; omega) (by decide) bel2.size ?_
      intro v1 w1 own1 hg1 hb1
      have bel3 : Below w.heap.size w w1 := bel2.grown hg1 bel2.size (fun g h => (own2.lt g h).1)
      go_simp
      refine hK _ _ bel3 ?_
      clear hK K
      refine wpPl_qs 1 _ _ _ (by kernel_rfl) (by kernel_rfl) (by simp) ?_
      unfold clsS
      simp only [List.take_succ_cons, List.take_zero, List.drop_succ_cons, List.drop_zero, List.filterMap_cons, List.filterMap_nil, List.getElem?_toArray, List.getElem?_cons_zero, List.getElem?_cons_succ]
      repeat (first
        | go_big_quiet_skip
        | (go_big_quiet_want; go_big_quiet_op; go_big_quiet_on)
        | (refine id (?_ : wpQuiet _ _ _ _ (_ :: _) _); first | go_big_quiet_skip | (go_big_quiet_want; go_big_quiet_op; go_big_quiet_on)))
      refine wpQuiet_nil ?_
      unfold wpPl
      refine NoPanic.normal ?_
      rw [← htk.out] at own1
      clear z0 z1 z2 this hx bel2 own2 hg1 hb1 bel own y0 y1 y2
      go_wp2_with fail
      go_roundg (n - (i + 1))
      case measure => have := hgk.out; omega
      case rel => exact ⟨i + 1, rfl, by omega, by go_num, own1, bel3⟩
    · obtain rfl : i = n := by omega
      rw [List.take_of_length_le (by rw [rd2.len]; exact Nat.le_refl _)] at own
      go_wp2
      go_ret
      exact ⟨_, rfl, bel, own⟩
set_option maxRecDepth 100000 in
set_option maxHeartbeats 1000000 in
theorem Same_any (A1 A2 : Option Addr) (n c1 c2 : Nat) (l : List Dn) (w : World) (r1 : RdT Dn.cs 3 w w.heap.size A1 n l) (r2 : RdT Dn.cs 3 w w.heap.size A2 n l) (hn : n ≤ 100000) :
    Calls Try.prog 14 #[.slice A1 n c1, .slice A2 n c2] w fun e w' => e = .returned (.bool true) ∧ Below w.heap.size w w' := by
  go_enter Try.func14, Try.ntmps14
  go_wp2_with fail
  go_loopg [5] n (fun gk s5 wr => ∃ i : Nat, gk = n - i ∧ i ≤ n ∧ s5 = .int .i64 i ∧ Below w.heap.size w wr)
  case atStart => exact ⟨0, rfl, Nat.zero_le _, rfl, Below.refl _ _⟩
  case round =>
    obtain ⟨i, hgk, hin, rfl, bel⟩ := hrel
    by_cases hlt : i < n
    · have hd : decide (i < n) = true := by simpa using hlt
      replace hgk := Lib.hid hgk
      obtain ⟨b1, o1, rfl, hb1, hcl1⟩ := r1.cel (by omega)
      obtain ⟨b2, o2, rfl, hb2, hcl2⟩ := r2.cel (by omega)
      obtain ⟨d, hdi⟩ : ∃ d, l[i]? = some d := ⟨_, List.getElem?_eq_getElem (by have := r1.len; omega)⟩
      obtain ⟨who, idx, gv⟩ := d
      have x0 : ∀ t : Tw (fun w' => Below w.heap.size w w'), t.w.cell? ⟨b1, o1 + i * 3, none⟩ = some (.int .i64 who) := fun t => (t.h.cell (p := ⟨b1, o1 + i * 3, none⟩) hb1).trans (hcl1 i _ hdi 0 _ rfl)
      have x1 : ∀ t : Tw (fun w' => Below w.heap.size w w'), t.w.cell? ⟨b1, o1 + i * 3 + 1, none⟩ = some (.int .i64 idx) := fun t => (t.h.cell (p := ⟨b1, o1 + i * 3 + 1, none⟩) hb1).trans (hcl1 i _ hdi 1 _ rfl)
      have x2 : ∀ t : Tw (fun w' => Below w.heap.size w w'), t.w.cell? ⟨b1, o1 + i * 3 + 2, none⟩ = some (.int .u64 gv) := fun t => (t.h.cell (p := ⟨b1, o1 + i * 3 + 2, none⟩) hb1).trans (hcl1 i _ hdi 2 _ rfl)
      have z0 : ∀ t : Tw (fun w' => Below w.heap.size w w'), t.w.cell? ⟨b2, o2 + i * 3, none⟩ = some (.int .i64 who) := fun t => (t.h.cell (p := ⟨b2, o2 + i * 3, none⟩) hb2).trans (hcl2 i _ hdi 0 _ rfl)
      have z1 : ∀ t : Tw (fun w' => Below w.heap.size w w'), t.w.cell? ⟨b2, o2 + i * 3 + 1, none⟩ = some (.int .i64 idx) := fun t => (t.h.cell (p := ⟨b2, o2 + i * 3 + 1, none⟩) hb2).trans (hcl2 i _ hdi 1 _ rfl)
      have z2 : ∀ t : Tw (fun w' => Below w.heap.size w w'), t.w.cell? ⟨b2, o2 + i * 3 + 2, none⟩ = some (.int .u64 gv) := fun t => (t.h.cell (p := ⟨b2, o2 + i * 3 + 2, none⟩) hb2).trans (hcl2 i _ hdi 2 _ rfl)
      have : Nonempty (Tw (fun w' => Below w.heap.size w w')) := ⟨⟨w, Below.refl _ _⟩⟩
      clear hcl1 hcl2 hdi
      go_wp2_with fail
      refine region_tw (fun w' => Below w.heap.size w w') (by kernel_rfl) (by kernel_rfl) bel.drew ?_
      unfold clsS
      repeat (first
        | go_big_quiet_skip
        | (go_big_quiet_want; go_big_quiet_op; go_big_quiet_on))
      refine wpQuiet_nil ?_
      intro tq
      go_wp2_with fail
      go_roundg (n - (i + 1))
      case measure => have := hgk.out; omega
      case rel => exact ⟨i + 1, rfl, by omega, by go_num, tq.h⟩
    · obtain rfl : i = n := by omega
      go_wp2
      go_ret
      exact ⟨rfl, bel⟩
end Go.Proofs.Ytoifojamblnijaa
