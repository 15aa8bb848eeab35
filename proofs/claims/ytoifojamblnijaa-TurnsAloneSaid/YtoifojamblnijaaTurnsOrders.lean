/- Every input of TurnsOrders answers true, and reads behind the call as it read before. No condition. -/
import Derived.Test.YtoifojamblnijaaTurns8
import Derived.Test.YtoifojamblnijaaRowT2
namespace Go.Proofs.Ytoifojamblnijaa
set_option linter.unusedVariables false
set_option linter.unusedSimpArgs false
open Go.RowKit
theorem list_of {α : Type} {P : Nat → α → Prop} : ∀ n : Nat, (∀ i, i < n → ∃ x, P i x) → ∃ l : List α, l.length = n ∧ ∀ i x, l[i]? = some x → P i x
  | 0, _ => ⟨[], rfl, by simp⟩
  | n + 1, h => by
      obtain ⟨l, hl, hP⟩ := list_of n (fun i hi => h i (by omega))
      obtain ⟨x, hx⟩ := h n (by omega)
      refine ⟨l ++ [x], by simp [hl], fun i y hy => ?_⟩
      rcases Nat.lt_or_ge i n with hi | hi
      · rw [List.getElem?_append_left (by omega)] at hy; exact hP i y hy
      · rw [List.getElem?_append_right (by omega)] at hy
        cases hj : i - l.length with
        | zero => rw [hj] at hy; simp at hy; subst hy; rw [show i = n by omega]; exact hx
        | succ j => rw [hj] at hy; simp at hy
set_option maxRecDepth 100000 in
set_option maxHeartbeats 1000000 in
theorem TurnsOrders_any (A : Option Addr) (m cap : Nat) (l : List Dn) (W : Int) (w : World) (rd : RdT Dn.cs 3 w w.heap.size A m l) (hmc : m ≤ cap) (hcap : cap ≤ maxLen) :
    Calls Try.prog 6 #[.slice A m cap, .int .i64 W] w fun e w' => e = .returned (.bool true) ∧ Below w.heap.size w w' := by
  obtain ⟨i0, hi, hz0, hz1, hz2⟩ := info_parts info_done
  obtain ⟨n, hn, hn1, hn2⟩ := minc 60 (by omega) m
  have hm5 : (n : Int) ≤ cap := by omega
  have hm6 : n ≤ cap := by omega
  have hm7 : (0 : Int) ≤ n := by omega
  have hn60 : n ≤ 60 := by omega
  have rd2 := rd.take hn1
  go_enter Try.func6, Try.ntmps6
  go_wp2_with fail
  generalize hl2 : l.take n = l2 at *
  clear hl2 rd hn hm5
  go_loopg [5, 6] n (fun gk s5 s6 wr => ∃ i : Nat, gk = n - i ∧ i ≤ n ∧ s6 = .int .i64 i ∧ OwnT Dn.cs 3 35 wr w.heap.size s5 (l2.take i) ∧ Below w.heap.size w wr)
  case atStart => exact ⟨0, rfl, Nat.zero_le _, rfl, OwnT.nil _ _ _ _ _, Below.refl _ _⟩
  case round =>
    obtain ⟨i, hgk, hin, rfl, own, bel⟩ := hrel
    by_cases hlt : i < n
    · have hd : decide (i < n) = true := by simpa using hlt
      replace hgk := Lib.hid hgk
      obtain ⟨b, o, rfl, hb, hcl⟩ := rd2.cel (by omega)
      obtain ⟨d, hdi⟩ : ∃ d, l2[i]? = some d := ⟨_, List.getElem?_eq_getElem (by have := rd2.len; omega)⟩
      have cc : ∀ f u, d.cs[f]? = some u → wr.cell? ⟨b, o + i * 3 + f, none⟩ = some u := fun f u hu => (bel.cell (p := ⟨b, o + i * 3 + f, none⟩) hb).trans (hcl i d hdi f u hu)
      have htk : l2.take (i + 1) = l2.take i ++ [d] := by rw [List.take_add_one, hdi]; rfl
      replace htk := Lib.hid htk
      obtain ⟨who, idx, gv⟩ := d
      have y0 : w.cell? ⟨b, o + i * 3, none⟩ = some (.int .i64 who) := hcl i _ hdi 0 _ rfl
      have y1 : w.cell? ⟨b, o + i * 3 + 1, none⟩ = some (.int .i64 idx) := hcl i _ hdi 1 _ rfl
      have y2 : w.cell? ⟨b, o + i * 3 + 2, none⟩ = some (.int .u64 gv) := hcl i _ hdi 2 _ rfl
      have c0 : wr.cell? ⟨b, o + i * 3, none⟩ = some (.int .i64 who) := cc 0 _ rfl
      have c1 : wr.cell? ⟨b, o + i * 3 + 1, none⟩ = some (.int .i64 idx) := cc 1 _ rfl
      have c2 : wr.cell? ⟨b, o + i * 3 + 2, none⟩ = some (.int .u64 gv) := cc 2 _ rfl
      have hlen : (l2.take i).length = i := by rw [List.length_take, rd2.len]; omega
      replace hlen := Lib.hid hlen
      clear cc hcl hdi
      go_wp2_with fail
      have z0 : ∀ t : Tw (fun w' => Below w.heap.size w w'), t.w.cell? ⟨b, o + i * 3, none⟩ = some (.int .i64 who) := fun t => (t.h.cell (p := ⟨b, o + i * 3, none⟩) hb).trans y0
      have z1 : ∀ t : Tw (fun w' => Below w.heap.size w w'), t.w.cell? ⟨b, o + i * 3 + 1, none⟩ = some (.int .i64 idx) := fun t => (t.h.cell (p := ⟨b, o + i * 3 + 1, none⟩) hb).trans y1
      have z2 : ∀ t : Tw (fun w' => Below w.heap.size w w'), t.w.cell? ⟨b, o + i * 3 + 2, none⟩ = some (.int .u64 gv) := fun t => (t.h.cell (p := ⟨b, o + i * 3 + 2, none⟩) hb).trans y2
      have : Nonempty (Tw (fun w' => Below w.heap.size w w')) := ⟨⟨w, Below.refl _ _⟩⟩
      refine wp_region_plan (fun w' => Below w.heap.size w w') [(0, true), (1, true), (2, true), (3, true), (4, true), (5, true), (6, true), (7, true), (8, true), (9, true), (10, true), (11, true), (12, true), (13, true), (14, true), (15, true), (16, true), (17, false), (18, false), (19, true)] (by kernel_rfl) (by kernel_rfl) (by kernel_rfl) (by kernel_rfl) bel.drew ?_
      refine wpPl_qs 17 _ _ _ (by kernel_rfl) (by kernel_rfl) (by simp) ?_
      unfold clsS
      simp only [List.take_succ_cons, List.take_zero, List.drop_succ_cons, List.drop_zero, List.filterMap_cons, List.filterMap_nil, List.getElem?_toArray, List.getElem?_cons_zero, List.getElem?_cons_succ]
      repeat (first
        | go_big_quiet_skip
        | (go_big_quiet_want; go_big_quiet_op; go_big_quiet_on)
        | (refine id (?_ : wpQuiet _ _ _ _ (_ :: _) _); first | go_big_quiet_skip | (go_big_quiet_want; go_big_quiet_op; go_big_quiet_on)))
      refine wpQuiet_nil ?_
      have hx := RdT.new (cs := Dn.cs) (sz := 3) Dn.cs_len wr 35 [⟨who, idx, gv⟩] #[.int .i64 who, .int .i64 idx, .int .u64 gv] rfl 1 rfl
      have hx : RdT Dn.cs 3 (wr.alloc (.cells #[.int .i64 who, .int .i64 idx, .int .u64 gv] 35)).drew (wr.heap.size + 1) (some ⟨wr.heap.size, 0, none⟩) 1 [⟨who, idx, gv⟩] := hx.keep (fun p hp => rfl)
      have bel2 : Below w.heap.size w (wr.alloc (.cells #[.int .i64 who, .int .i64 idx, .int .u64 gv] 35)).drew := (bel.alloc bel.size _).drew
      have own2 : OwnT Dn.cs 3 35 (wr.alloc (.cells #[.int .i64 who, .int .i64 idx, .int .u64 gv] 35)).drew w.heap.size u5 (l2.take i) := (own.alloc _).drew
      refine wpPl_e _ (by rfl) (by kernel_rfl) (fun K hK => ?_)
      go_simp
      refine hK _ _ bel2 ?_
      clear hK K
      refine wpPl_e _ (by rfl) (by kernel_rfl) (fun K hK => ?_)
      refine wp_appT Dn.cs_len Dn.cs_one (by decide) _ (.tmp 21) (.tmp 38) 32 rfl w.heap.size 35 i0 (.agg #[.int .i64 0, .int .i64 0, .int .u64 0]) 24 Try.underlying32 hi hz0 hz1 hz2 rfl u5 rfl (l2.take i) own2 _ _ 1 1 rfl [⟨who, idx, gv⟩] hx (by rw [hlen.out]; omega) (by decide) bel2.size ?_
      intro v1 w1 own1 hg1 hb1
      have bel3 : Below w.heap.size w w1 := bel2.grown hg1 bel2.size (fun g h => (own2.lt g h).1)
      go_simp
      refine hK _ _ bel3 ?_
      clear hK K
      refine wpPl_qs 1 _ _ _ (by kernel_rfl) (by kernel_rfl) (by simp) ?_
      unfold clsS
      simp only [List.take_succ_cons, List.take_zero, List.drop_succ_cons, List.drop_zero, List.filterMap_cons, List.filterMap_nil, List.getElem?_toArray, List.getElem?_cons_zero, List.getElem?_cons_succ]
      repeat (first
        | go_big_quiet_skip
        | (go_big_quiet_want; go_big_quiet_op; go_big_quiet_on)
        | (refine id (?_ : wpQuiet _ _ _ _ (_ :: _) _); first | go_big_quiet_skip | (go_big_quiet_want; go_big_quiet_op; go_big_quiet_on)))
      refine wpQuiet_nil ?_
      unfold wpPl
      refine NoPanic.normal ?_
      rw [← htk.out] at own1
      clear z0 z1 z2 this hx bel2 own2 hg1 hb1 bel own c0 c1 c2 y0 y1 y2
      go_wp2_with fail
      go_roundg (n - (i + 1))
      case measure => have := hgk.out; omega
      case rel => exact ⟨i + 1, rfl, by omega, by go_num, own1, bel3⟩
    · obtain rfl : i = n := by omega
      rw [List.take_of_length_le (by rw [rd2.len]; exact Nat.le_refl _)] at own
      obtain ⟨A1, c1, rfl, hc1, hc2⟩ := own.form rd2.len
      have rdd := own.rd Dn.cs_len rfl rd2.len
      go_wp2_with fail
      refine (Orders_any A1 i c1 l2 W _ rdd (by omega)).mono ?_
      rintro e w1 ⟨v1, rfl, bel1, own1⟩
      go_wp2_with fail
      have bel2 := bel_after bel bel1
      refine (refOrders_any A i _ l2 W _ ((rd2.below bel2).more bel2.size) (by omega)).mono ?_
      rintro e w2 ⟨v2, rfl, bel3, own2⟩
      have own1b := own1.below bel3
      have bel4 := bel_after bel2 bel3
      obtain ⟨M, hM⟩ : ∃ M, M = (ordL W l2).length := ⟨_, rfl⟩
      obtain ⟨B1, d1, rfl, hd1, hd2, r1⟩ := own1b.form hM.symm
      obtain ⟨B2, d2, rfl, hd3, hd4, r2⟩ := own2.form hM.symm
      clear own1 own1b own2 bel1 bel2 bel3 own rdd bel rd2
      have hM64 : M ≤ 64 := by rw [hM]; unfold ordL; rw [List.length_map, List.length_range]; unfold ordM; omega
      replace hM := Lib.hid hM
      go_wp2_with fail
      refine (goes_any _).mono ?_
      rintro e w3 ⟨rfl, bel5⟩
      replace r1 := (r1.below bel5).more bel5.size
      replace r2 := (r2.below bel5).more bel5.size
      replace bel4 := bel_after bel4 bel5
      clear bel5
      go_wp2_with fail
      go_loopg [9] M (fun gk s9 wr => ∃ j : Nat, gk = M - j ∧ j ≤ M ∧ s9 = .int .i64 j ∧ Below w3.heap.size w3 wr)
      case atStart => exact ⟨0, rfl, Nat.zero_le _, rfl, Below.refl _ _⟩
      case round =>
        obtain ⟨j, hgk, hj, rfl, bel6⟩ := hrel
        by_cases hlt2 : j < M
        · have hd : decide (j < M) = true := by simpa using hlt2
          replace hgk := Lib.hid hgk
          obtain ⟨b1, o1, rfl, hb1, e1, _⟩ := r1.at_ hlt2
          obtain ⟨b2, o2, rfl, hb2, e2, _⟩ := r2.at_ hlt2
          generalize (ordL W l2).getD j 0 = x at *
          have z1 : ∀ t : Tw (fun w' => Below w3.heap.size w3 w'), t.w.cell? ⟨b1, o1 + j, none⟩ = some (.int .i64 x) := fun t => (t.h.cell (p := ⟨b1, o1 + j, none⟩) hb1).trans e1
          have z2 : ∀ t : Tw (fun w' => Below w3.heap.size w3 w'), t.w.cell? ⟨b2, o2 + j, none⟩ = some (.int .i64 x) := fun t => (t.h.cell (p := ⟨b2, o2 + j, none⟩) hb2).trans e2
          have : Nonempty (Tw (fun w' => Below w3.heap.size w3 w')) := ⟨⟨w3, Below.refl _ _⟩⟩
          go_wp2_with fail
          refine region_tw (fun w' => Below w3.heap.size w3 w') (by kernel_rfl) (by kernel_rfl) bel6.drew ?_
          unfold clsS
          repeat (first
            | go_big_quiet_skip
            | (go_big_quiet_want; go_big_quiet_op; go_big_quiet_on))
          refine wpQuiet_nil ?_
          intro tq
          go_wp2_with fail
          go_roundg (M - (j + 1))
          case measure => have := hgk.out; omega
          case rel => exact ⟨j + 1, rfl, by omega, by go_num, tq.h⟩
        · obtain rfl : j = M := by omega
          go_wp2
          go_ret
          exact ⟨rfl, bel_after bel4 bel6⟩
theorem TurnsOrders_args (W : World) (args : Array Value) (hs : args.size = Try.f6.params.size) (hA : ∀ (j : Nat) t v, Try.f6.params[j]? = some t → args[j]? = some v → Arg Try.prog W t v) :
    Calls Try.prog 6 args W fun e W' => e = .returned (.bool true) ∧ Below W.heap.size W W' := by
  obtain ⟨v0, v1, rfl⟩ := args2 hs
  obtain ⟨A, len, cap, m, rfl, h1, h2, h3⟩ := arg_slice Try.underlying44 (hA 0 44 v0 rfl rfl)
  obtain ⟨x0, rfl, _⟩ := arg_int Try.underlying3 (hA 1 3 v1 rfl rfl)
  have hC : Try.prog.cellsOf 49 = 3 := by kernel_rfl
  have hCi : Try.prog.cellsOf 3 = 1 := by kernel_rfl
  have hCu : Try.prog.cellsOf 23 = 1 := by kernel_rfl
  rw [hC] at h3
  have h4 := slice_rows (by omega) h3
  have key : ∃ l : List Dn, RdT Dn.cs 3 W W.heap.size A len l := by
    rcases Nat.eq_zero_or_pos len with h0 | h0
    · subst h0; exact ⟨[], RdT.nil _ _ _ _ _⟩
    · obtain ⟨b, o, rfl, hb, hi⟩ := h4 h0
      obtain ⟨l, hl, hP⟩ := list_of (P := fun i (d : Dn) => ∀ f u, d.cs[f]? = some u → W.cell? ⟨b, o + i * 3 + f, none⟩ = some u) len (fun i hil => by
        obtain ⟨ys, hc, hyl, hr⟩ := hi i hil
        obtain ⟨m', _, hf⟩ := rdg_struct Try.underlying49 hr
        obtain ⟨x0, e0, r0⟩ := fld_int (i := 0) hf rfl Try.underlying3 hCi
        obtain ⟨x1, e1, r1⟩ := fld_int (i := 1) hf rfl Try.underlying3 hCi
        obtain ⟨x2, e2, r2⟩ := fld_int (i := 2) hf rfl Try.underlying23 hCu
        refine ⟨⟨x0, x1, x2⟩, fun f u hu => ?_⟩
        have hf3 : f < 3 := (List.getElem?_eq_some_iff.1 hu).1
        refine (hc f (by omega)).trans ?_
        rw [← hu]
        match f, hf3 with
        | 0, _ => exact e0
        | 1, _ => exact e1
        | 2, _ => exact e2)
      exact ⟨l, hl, fun _ => ⟨b, o, rfl, hb, fun j x hj f u hu => hP j x hj f u hu⟩⟩
  obtain ⟨l, rd⟩ := key
  exact TurnsOrders_any A len cap l x0 W rd h1 h2

set_option maxRecDepth 100000 in
theorem TurnsOrders_lifted (os : Os) (started : os.Started) (H : Type) (enc : TypeId × Value → H) :
    ReturnsInHanded {} Try.checked os 6 .any (Rows.turnsOrdersSpec.pre6 enc Try.prog Try.f6 Rows.turnsOrdersRow.domain false) (Rows.turnsOrdersSpec.post enc Try.prog Try.f6 false true false false) :=
  law_lifted os started H enc (by kernel_rfl) Try.func6 rfl rfl (fun H ds h => by match ds, h with | [_, _], _ => exact ⟨rfl, rfl, rfl⟩) (by kernel_rfl)
    (ChangeSpec.witness6 (enc := enc) (C := Try.checked) false ⟨#[], #[.slice none 0 0, .int .i64 0], []⟩ 8 (by kernel_rfl) (by kernel_rfl) (by kernel_rfl) (by kernel_rfl))
    TurnsOrders_args

/-- the statement -/
theorem turnsOrders_holds : Rows.TurnsOrdersSaid :=
  OpenClaim.holds_of_wide 6 Try.f6 rfl rfl rfl rfl rfl rfl rfl ⟨rfl, rfl, rfl, rfl, rfl⟩ rfl rfl rfl rfl rfl (by kernel_rfl) Try.func6 (by kernel_rfl)
    (of_decide_eq_true (by kernel_rfl)) (by unfold Func.isWrapper; first | (rw [if_pos (by decide +kernel)]; kernel_rfl) | (rw [if_neg (by decide +kernel)]; exact ⟨rfl, rfl⟩))
    (fun os started H enc _ => TurnsOrders_lifted os started H enc)

end Go.Proofs.Ytoifojamblnijaa
