/- The walks of package history: Width; the document's Right. -/
import Derived.Test.YtjaacmecniijgaaHist3
namespace Go.Proofs.Ytjaacmecniijgaa
set_option linter.unusedVariables false
set_option linter.unusedSimpArgs false
open Go.RowKit
def onN (l : List En) (k : Nat) (at_ : Int) : Nat := ((l.take k).filter fun x => onB x at_).length
theorem onN_le (l : List En) (k : Nat) (at_ : Int) : onN l k at_ ≤ k := by
  unfold onN
  have h1 := List.length_filter_le (fun x => onB x at_) (l.take k)
  rw [List.length_take] at h1; omega
theorem widL_le (l : List En) : ∀ k, widL l k ≤ l.length := by
  intro k
  unfold widL
  have : ∀ (r : List En) (m : Nat), m ≤ l.length → r.foldl (fun m x => max m (cntL l x.b)) m ≤ l.length := by
    intro r
    induction r with
    | nil => intro m h; exact h
    | cons x r ih =>
      intro m h
      refine ih _ ?_
      have := List.length_filter_le (fun y => onB y x.b) l
      show max m (cntL l x.b) ≤ _
      unfold cntL; omega
  exact this _ 0 (by omega)
set_option maxRecDepth 100000 in
set_option maxHeartbeats 4000000 in
theorem hWidth_any (l : List En) (B : Nat) (A : Option Addr) (n c : Nat) (w : World) (h : RdT En.cs 11 w B A n l) (hB : B ≤ w.heap.size) (hl : n ≤ 1000) (hnc : n ≤ c) (hcm : c ≤ maxLen) :
    Calls Try.prog 10 #[.slice A n c] w fun e w' => e = .returned (.int .i64 (widthL l)) ∧ Below w.heap.size w w' := by
  have hn := h.len
  have hrt := hRight_any l B A n c w h hB hl hnc hcm
  unfold maxLen at hcm
  unfold widthL
  replace hn := Lib.hid hn
  replace hrt := Lib.hid hrt
  cases hR : rightB l with
  | false =>
    rw [hR] at hrt
    go_enter Try.func10, Try.ntmps10
    go_wp2_with fail
    refine hrt.out.mono ?_
    rintro e w1 ⟨rfl, hb1⟩
    go_wp2
    go_ret
    exact ⟨rfl, hb1⟩
  | true =>
    rw [hR] at hrt
    replace hR := Lib.hid hR
    go_enter Try.func10, Try.ntmps10
    go_wp2_with fail
    refine hrt.out.mono ?_
    rintro e w1 ⟨rfl, hb1⟩
    go_wp2
    go_loopw [3, 14] (fun m i wr => ∃ k : Nat, k ≤ n ∧ i = .int .i64 k ∧ m = .int .i64 (widL l k : Nat) ∧ Below w.heap.size w wr) (fun _ i _ => n - (intOf i).toNat)
    case atStart => exact ⟨0, by omega, rfl, rfl, hb1⟩
    case round =>
      obtain ⟨k, hk, rfl, rfl, bel⟩ := hrel
      rcases Nat.lt_or_ge k n with hkn | hkn
      · have d1 : decide ((k : Int) < (n : Int)) = true := by simpa using hkn
        have d2 : decide (k < n) = true := by simpa using hkn
        obtain ⟨g, o, rfl, hg, hcel⟩ := h.cel (by omega)
        obtain ⟨x, hx⟩ : ∃ x, l[k]? = some x := ⟨_, List.getElem?_eq_getElem (by rw [hn.out]; omega)⟩
        have hc : ∀ j u, ([.int .i64 x.b, .int .i64 x.e, .bool x.ends, .bool x.out, .slice x.f.A x.f.n x.f.c, .int .i64 x.tick, .int .i64 x.port, .slice x.g.A x.g.n x.g.c, .int .i64 x.err, .int .i64 x.proto, .int .i64 x.pt] : List Value)[j]? = some u → wr.cell? ⟨g, o + k * 11 + j, none⟩ = some u := fun j u hu => (bel.cell (p := ⟨g, o + k * 11 + j, none⟩) (by show g < _; omega)).trans (hcel k x hx j u hu)
        have hws := widL_succ l k x hx
        have hwle := widL_le l k
        rw [hn.out] at hwle
        replace hx := Lib.hid hx
        have k0 : (0 : Int) ≤ (k : Int) := by omega
        have k1 : (k : Int) < (n : Int) := by omega
        have bx := (Blk.new wr 31 #[.int .i64 0, .int .i64 0, .bool false, .bool false, .slice none 0 0, .int .i64 0, .int .i64 0, .slice none 0 0, .int .i64 0, .int .i64 0, .int .i64 0]).setRow #[.int .i64 x.b, .int .i64 x.e, .bool x.ends, .bool x.out, .slice x.f.A x.f.n x.f.c, .int .i64 x.tick, .int .i64 x.port, .slice x.g.A x.g.n x.g.c, .int .i64 x.err, .int .i64 x.proto, .int .i64 x.pt]
        have belr := below_setRow (bel.alloc bel.size (.cells #[.int .i64 0, .int .i64 0, .bool false, .bool false, .slice none 0 0, .int .i64 0, .int .i64 0, .slice none 0 0, .int .i64 0, .int .i64 0, .int .i64 0] 31)) bel.size #[.int .i64 x.b, .int .i64 x.e, .bool x.ends, .bool x.out, .slice x.f.A x.f.n x.f.c, .int .i64 x.tick, .int .i64 x.port, .slice x.g.A x.g.n x.g.c, .int .i64 x.err, .int .i64 x.proto, .int .i64 x.pt]
        generalize hwk : widL l k = wk at *
        replace hws := Lib.hid hws
        clear hwk
        go_upto_region 7 with (first
          | (refine wpList_ldAt rfl rfl rfl hc Try.underlying31 en_size ?_)
          | (refine wpList_stRow rfl rfl rfl rfl rfl (Blk.new wr _ _) en_size rfl (by simp [Value.oneCell']) ?_; generalize (wr.alloc (.cells #[.int .i64 0, .int .i64 0, .bool false, .bool false, .slice none 0 0, .int .i64 0, .int .i64 0, .slice none 0 0, .int .i64 0, .int .i64 0, .int .i64 0] 31)).setRow wr.heap.size #[.int .i64 x.b, .int .i64 x.e, .bool x.ends, .bool x.out, .slice x.f.A x.f.n x.f.c, .int .i64 x.tick, .int .i64 x.port, .slice x.g.A x.g.n x.g.c, .int .i64 x.err, .int .i64 x.proto, .int .i64 x.pt] = W1 at *; generalize wr.heap.size = g1 at *))
        clear hc bel d1 d2 k0 k1
        have hg1 : g1 < W1.heap.size := bx.lt
        go_wp2_with fail
        go_loopw [6, 20] (fun m i wr => ∃ j : Nat, j ≤ n ∧ i = .int .i64 j ∧ m = .int .i64 (onN l j x.b : Nat) ∧ Below W1.heap.size W1 wr) (fun _ i _ => n - (intOf i).toNat)
        case atStart => exact ⟨0, by omega, rfl, rfl, Below.refl _ _⟩
        case round =>
          obtain ⟨j, hj, rfl, rfl, bel2⟩ := hrel
          rcases Nat.lt_or_ge j n with hjn | hjn
          · have d1 : decide ((j : Int) < (n : Int)) = true := by simpa using hjn
            have d2 : decide (j < n) = true := by simpa using hjn
            obtain ⟨y, hy⟩ : ∃ y, l[j]? = some y := ⟨_, List.getElem?_eq_getElem (by rw [hn.out]; omega)⟩
            have hc : ∀ i u, ([.int .i64 y.b, .int .i64 y.e, .bool y.ends, .bool y.out, .slice y.f.A y.f.n y.f.c, .int .i64 y.tick, .int .i64 y.port, .slice y.g.A y.g.n y.g.c, .int .i64 y.err, .int .i64 y.proto, .int .i64 y.pt] : List Value)[i]? = some u → wr.cell? ⟨g, o + j * 11 + i, none⟩ = some u := fun i u hu =>
              (bel2.cell (p := ⟨g, o + j * 11 + i, none⟩) (by show g < _; have := belr.size; omega)).trans ((belr.cell (p := ⟨g, o + j * 11 + i, none⟩) (by show g < _; omega)).trans (hcel j y hy i u hu))
            have hcnt := cntT_succ l j y x.b hy
            have hcle := onN_le l j x.b
            have eN : ((l.take (j + 1)).filter fun z => onB z x.b).length = onN l (j + 1) x.b := rfl
            have eN2 : ((l.take j).filter fun z => onB z x.b).length = onN l j x.b := rfl
            rw [eN, eN2] at hcnt
            clear eN eN2
            generalize hcj : onN l j x.b = cj at *
            have k0 : (0 : Int) ≤ (j : Int) := by omega
            have k1 : (j : Int) < (n : Int) := by omega
            have by2 := (Blk.new wr 31 #[.int .i64 0, .int .i64 0, .bool false, .bool false, .slice none 0 0, .int .i64 0, .int .i64 0, .slice none 0 0, .int .i64 0, .int .i64 0, .int .i64 0]).setRow #[.int .i64 y.b, .int .i64 y.e, .bool y.ends, .bool y.out, .slice y.f.A y.f.n y.f.c, .int .i64 y.tick, .int .i64 y.port, .slice y.g.A y.g.n y.g.c, .int .i64 y.err, .int .i64 y.proto, .int .i64 y.pt]
            have bel3 := below_setRow (bel2.alloc bel2.size (.cells #[.int .i64 0, .int .i64 0, .bool false, .bool false, .slice none 0 0, .int .i64 0, .int .i64 0, .slice none 0 0, .int .i64 0, .int .i64 0, .int .i64 0] 31)) bel2.size #[.int .i64 y.b, .int .i64 y.e, .bool y.ends, .bool y.out, .slice y.f.A y.f.n y.f.c, .int .i64 y.tick, .int .i64 y.port, .slice y.g.A y.g.n y.g.c, .int .i64 y.err, .int .i64 y.proto, .int .i64 y.pt]
            have hon := fun W => on_any y x.b W
            replace hcnt := Lib.hid hcnt
            clear hcj hy
            go_upto_region 11 with (first
              | (refine wpList_ldAt rfl rfl rfl hc Try.underlying31 en_size ?_)
              | (refine wpList_stRow rfl rfl rfl rfl rfl (Blk.new wr _ _) en_size rfl (by simp [Value.oneCell']) ?_; generalize (wr.alloc (.cells #[.int .i64 0, .int .i64 0, .bool false, .bool false, .slice none 0 0, .int .i64 0, .int .i64 0, .slice none 0 0, .int .i64 0, .int .i64 0, .int .i64 0] 31)).setRow wr.heap.size #[.int .i64 y.b, .int .i64 y.e, .bool y.ends, .bool y.out, .slice y.f.A y.f.n y.f.c, .int .i64 y.tick, .int .i64 y.port, .slice y.g.A y.g.n y.g.c, .int .i64 y.err, .int .i64 y.proto, .int .i64 y.pt] = W2 at *; generalize wr.heap.size = g2 at *))
            have q0 := (bx.bel bel3).cell 0
            clear hc bel2
            cases ho : onB y x.b with
            | true =>
              rw [ho] at hon hcnt
              replace hon := Lib.hid hon
              replace ho := Lib.hid ho
              go_wp2_with (refine wpList_ldRow rfl rfl rfl by2 Try.underlying31 en_size ?_)
              refine (hon.out _).mono ?_
              rintro e w4 ⟨rfl, hb4⟩
              go_wp2_with fail
              go_roundw
              case rel => exact ⟨j + 1, by omega, by go_num, by rw [hcnt.out]; simp, bel_after bel3 hb4⟩
              case measure => simp [intOf]; omega
            | false =>
              rw [ho] at hon hcnt
              replace hon := Lib.hid hon
              replace ho := Lib.hid ho
              go_wp2_with (refine wpList_ldRow rfl rfl rfl by2 Try.underlying31 en_size ?_)
              refine (hon.out _).mono ?_
              rintro e w4 ⟨rfl, hb4⟩
              go_wp2_with fail
              go_roundw
              case rel => exact ⟨j + 1, by omega, by go_num, by rw [hcnt.out]; simp, bel_after bel3 hb4⟩
              case measure => simp [intOf]; omega
          · obtain rfl : j = n := by omega
            have d1 : decide ((j : Int) < (j : Int)) = false := by simp
            have d2 : decide (j < j) = false := by simp
            have ec : onN l j x.b = cntL l x.b := by unfold onN cntL; rw [List.take_of_length_le (by rw [hn.out]; omega)]
            have hcle := onN_le l j x.b
            rw [← ec] at hws
            generalize onN l j x.b = cn at *
            clear ec
            go_wp2_with fail
            go_roundw
            case rel => exact ⟨k + 1, by omega, by go_num, by rw [hws.out]; simp; split <;> omega, bel_after belr bel2⟩
            case measure => simp [intOf]; omega
      · obtain rfl : k = n := by omega
        have d1 : decide ((k : Int) < (k : Int)) = false := by simp
        have d2 : decide (k < k) = false := by simp
        go_wp2
        go_ret
        refine ⟨?_, bel⟩
        rw [hn.out]
        rfl
set_option maxRecDepth 100000 in
set_option maxHeartbeats 4000000 in
theorem rRight_any (l : List En) (B : Nat) (A : Option Addr) (n c : Nat) (w : World) (h : RdT En.cs 11 w B A n l) (hB : B ≤ w.heap.size) (hl : n ≤ 1000) (hnc : n ≤ c) (hcm : c ≤ maxLen) :
    Calls Try.prog 9 #[.slice A n c] w fun e w' => e = .returned (.bool (rightB l)) ∧ Below w.heap.size w w' := by
  have hn := h.len
  unfold maxLen at hcm
  replace hn := Lib.hid hn
  go_enter Try.func9, Try.ntmps9
  go_wp2
  go_loopw [3] (fun i wr => ∃ k : Nat, k ≤ n ∧ i = .int .i64 k ∧ Below w.heap.size w wr ∧ ∀ (j : Nat) x, j < k → l[j]? = some x → badB x = false) (fun i _ => n - (intOf i).toNat)
  case atStart => exact ⟨0, by omega, rfl, Below.refl _ _, fun j x hj => by omega⟩
  case round =>
    obtain ⟨k, hk, rfl, bel, hall⟩ := hrel
    replace hall := Lib.hid hall
    rcases Nat.lt_or_ge k n with hkn | hkn
    · have d1 : decide ((k : Int) < (n : Int)) = true := by simpa using hkn
      have d2 : decide (k < n) = true := by simpa using hkn
      obtain ⟨g, o, rfl, hg, hcel⟩ := h.cel (by omega)
      obtain ⟨x, hx⟩ : ∃ x, l[k]? = some x := ⟨_, List.getElem?_eq_getElem (by rw [hn.out]; omega)⟩
      have hc : ∀ (t : Tw (fun w' => Below wr.heap.size wr w')) j u, x.cs[j]? = some u → t.w.cell? ⟨g, o + k * 11 + j, none⟩ = some u := fun t j u hu =>
        (t.h.cell (p := ⟨g, o + k * 11 + j, none⟩) (by show g < _; have := bel.size; omega)).trans ((bel.cell (p := ⟨g, o + k * 11 + j, none⟩) (by show g < _; omega)).trans (hcel k x hx j u hu))
      obtain ⟨b, e, en, ou, ⟨fA, fn, fc⟩, ti, po, ⟨gA, gn, gc⟩, er, pr, pt⟩ := x
      have z0 := fun t => hc t 0 _ rfl
      have z1 := fun t => hc t 1 _ rfl
      have z2 := fun t => hc t 2 _ rfl
      simp only [Nat.add_zero] at z0
      clear hc hcel
      have : Nonempty (Tw (fun w' => Below wr.heap.size wr w')) := ⟨⟨_, Below.refl _ _⟩⟩
      replace hx := Lib.hid hx
      have k0 : (0 : Int) ≤ (k : Int) := by omega
      have k1 : (k : Int) < (n : Int) := by omega
      go_upto_region 4 with fail
      clear d1 d2
      cases h2 : decide (b < 1) with
      | true =>
        have hbd : Hid (badB ⟨b, e, en, ou, ⟨fA, fn, fc⟩, ti, po, ⟨gA, gn, gc⟩, er, pr, pt⟩ = true) := Lib.hid (by unfold badB; simp [h2])
        refine region_tw (fun w' => Below (wr).heap.size (wr) w') (by kernel_rfl) (by kernel_rfl) (Below.refl _ _).drew ?_
        unfold clsS
        repeat (first
          | go_big_quiet_skip
          | (go_big_quiet_want; go_big_quiet_op; first | go_big_quiet_on | go_big_quiet_call (
            (first |(fail)))))
        refine wpQuiet_nil ?_
        intro tq
        go_wp2_with fail
        go_ret
        refine ⟨?_, bel_after bel tq.h⟩
        rw [rightB_not hx.out hbd.out]
        rfl
      | false =>
        cases h3 : decide (e ≤ b) with
        | false =>
          have hbd : Hid (badB ⟨b, e, en, ou, ⟨fA, fn, fc⟩, ti, po, ⟨gA, gn, gc⟩, er, pr, pt⟩ = false) := Lib.hid (by unfold badB; simp [h2, h3])
          refine region_tw (fun w' => Below (wr).heap.size (wr) w') (by kernel_rfl) (by kernel_rfl) (Below.refl _ _).drew ?_
          unfold clsS
          repeat (first
            | go_big_quiet_skip
            | (go_big_quiet_want; go_big_quiet_op; first | go_big_quiet_on | go_big_quiet_call (
              (first |(fail)))))
          refine wpQuiet_nil ?_
          intro tq
          go_wp2_with fail
          go_roundw
          case rel => exact ⟨k + 1, by omega, by go_num, bel_after bel tq.h, fun j x hj hjx => by
            rcases Nat.lt_or_ge j k with h | h
            · exact hall.out j x h hjx
            · obtain rfl : j = k := by omega
              rw [hx.out] at hjx
              injection hjx with hjx
              subst hjx
              exact hbd.out⟩
          case measure => simp [intOf]; omega
        | true =>
          cases h1 : (e == -1) with
          | false =>
            have h1' : (e != -1) = true := by simpa using h1
            have hbd : Hid (badB ⟨b, e, en, ou, ⟨fA, fn, fc⟩, ti, po, ⟨gA, gn, gc⟩, er, pr, pt⟩ = true) := Lib.hid (by unfold badB; simp [h1, h2, h3])
            refine region_tw (fun w' => Below (wr).heap.size (wr) w') (by kernel_rfl) (by kernel_rfl) (Below.refl _ _).drew ?_
            unfold clsS
            repeat (first
              | go_big_quiet_skip
              | (go_big_quiet_want; go_big_quiet_op; first | go_big_quiet_on | go_big_quiet_call (
                (first |(fail)))))
            refine wpQuiet_nil ?_
            intro tq
            go_wp2_with fail
            go_ret
            refine ⟨?_, bel_after bel tq.h⟩
            rw [rightB_not hx.out hbd.out]
            rfl
          | true =>
            have h1' : (e != -1) = false := by simpa using h1
            cases en with
            | true =>
              have hbd : Hid (badB ⟨b, e, true, ou, ⟨fA, fn, fc⟩, ti, po, ⟨gA, gn, gc⟩, er, pr, pt⟩ = true) := Lib.hid (by unfold badB; simp [h1, h2, h3])
              refine region_tw (fun w' => Below (wr).heap.size (wr) w') (by kernel_rfl) (by kernel_rfl) (Below.refl _ _).drew ?_
              unfold clsS
              repeat (first
                | go_big_quiet_skip
                | (go_big_quiet_want; go_big_quiet_op; first | go_big_quiet_on | go_big_quiet_call (
                  (first |(fail)))))
              refine wpQuiet_nil ?_
              intro tq
              go_wp2_with fail
              go_ret
              refine ⟨?_, bel_after bel tq.h⟩
              rw [rightB_not hx.out hbd.out]
              rfl
            | false =>
              have hbd : Hid (badB ⟨b, e, false, ou, ⟨fA, fn, fc⟩, ti, po, ⟨gA, gn, gc⟩, er, pr, pt⟩ = false) := Lib.hid (by unfold badB; simp [h1, h2, h3])
              refine region_tw (fun w' => Below (wr).heap.size (wr) w') (by kernel_rfl) (by kernel_rfl) (Below.refl _ _).drew ?_
              unfold clsS
              repeat (first
                | go_big_quiet_skip
                | (go_big_quiet_want; go_big_quiet_op; first | go_big_quiet_on | go_big_quiet_call (
                  (first |(fail)))))
              refine wpQuiet_nil ?_
              intro tq
              go_wp2_with fail
              go_roundw
              case rel => exact ⟨k + 1, by omega, by go_num, bel_after bel tq.h, fun j x hj hjx => by
                rcases Nat.lt_or_ge j k with h | h
                · exact hall.out j x h hjx
                · obtain rfl : j = k := by omega
                  rw [hx.out] at hjx
                  injection hjx with hjx
                  subst hjx
                  exact hbd.out⟩
              case measure => simp [intOf]; omega
    · obtain rfl : k = n := by omega
      have d1 : decide ((k : Int) < (k : Int)) = false := by simp
      have d2 : decide (k < k) = false := by simp
      go_wp2
      go_ret
      refine ⟨?_, bel⟩
      rw [rightB_of l (fun j x hj => hall.out j x (by have := (List.getElem?_eq_some_iff.1 hj).1; rw [hn.out] at this; exact this) hj)]
      rfl
set_option maxRecDepth 100000 in
set_option maxHeartbeats 4000000 in
theorem rWidth_any (l : List En) (B : Nat) (A : Option Addr) (n c : Nat) (w : World) (h : RdT En.cs 11 w B A n l) (hB : B ≤ w.heap.size) (hl : n ≤ 1000) (hnc : n ≤ c) (hcm : c ≤ maxLen) :
    Calls Try.prog 11 #[.slice A n c] w fun e w' => e = .returned (.int .i64 (widthL l)) ∧ Below w.heap.size w w' := by
  have hn := h.len
  have hrt := rRight_any l B A n c w h hB hl hnc hcm
  unfold maxLen at hcm
  unfold widthL
  replace hn := Lib.hid hn
  replace hrt := Lib.hid hrt
  cases hR : rightB l with
  | false =>
    rw [hR] at hrt
    go_enter Try.func11, Try.ntmps11
    go_wp2_with fail
    refine hrt.out.mono ?_
    rintro e w1 ⟨rfl, hb1⟩
    go_wp2
    go_ret
    exact ⟨rfl, hb1⟩
  | true =>
    rw [hR] at hrt
    replace hR := Lib.hid hR
    go_enter Try.func11, Try.ntmps11
    go_wp2_with fail
    refine hrt.out.mono ?_
    rintro e w1 ⟨rfl, hb1⟩
    go_wp2
    go_loopw [3, 4] (fun m i wr => ∃ k : Nat, k ≤ n ∧ i = .int .i64 k ∧ m = .int .i64 (widL l k : Nat) ∧ Below w.heap.size w wr) (fun _ i _ => n - (intOf i).toNat)
    case atStart => exact ⟨0, by omega, rfl, rfl, hb1⟩
    case round =>
      obtain ⟨k, hk, rfl, rfl, bel⟩ := hrel
      rcases Nat.lt_or_ge k n with hkn | hkn
      · have d1 : decide ((k : Int) < (n : Int)) = true := by simpa using hkn
        have d2 : decide (k < n) = true := by simpa using hkn
        obtain ⟨g, o, rfl, hg, hcel⟩ := h.cel (by omega)
        obtain ⟨x, hx⟩ : ∃ x, l[k]? = some x := ⟨_, List.getElem?_eq_getElem (by rw [hn.out]; omega)⟩
        have hws := widL_succ l k x hx
        have hwle := widL_le l k
        rw [hn.out] at hwle
        replace hx := Lib.hid hx
        have k0 : (0 : Int) ≤ (k : Int) := by omega
        have k1 : (k : Int) < (n : Int) := by omega
        generalize hwk : widL l k = wk at *
        replace hws := Lib.hid hws
        clear hwk
        go_wp2_with fail
        go_loopw [5, 6] (fun m i w2 => ∃ j : Nat, j ≤ n ∧ i = .int .i64 j ∧ m = .int .i64 (onN l j x.b : Nat) ∧ Below w.heap.size w w2) (fun _ i _ => n - (intOf i).toNat)
        case atStart => exact ⟨0, by omega, rfl, rfl, bel⟩
        case round =>
          clear bel
          obtain ⟨j, hj, rfl, rfl, bel2⟩ := hrel
          rcases Nat.lt_or_ge j n with hjn | hjn
          · have d3 : decide ((j : Int) < (n : Int)) = true := by simpa using hjn
            have d4 : decide (j < n) = true := by simpa using hjn
            obtain ⟨y, hy⟩ : ∃ y, l[j]? = some y := ⟨_, List.getElem?_eq_getElem (by rw [hn.out]; omega)⟩
            have hcx : ∀ (t : Tw (fun w' => Below wr.heap.size wr w')) i z u, l[i]? = some z → ∀ f, z.cs[f]? = some u → t.w.cell? ⟨g, o + i * 11 + f, none⟩ = some u := fun t i z u hz f hu =>
              (t.h.cell (p := ⟨g, o + i * 11 + f, none⟩) (by show g < _; have := bel2.size; omega)).trans ((bel2.cell (p := ⟨g, o + i * 11 + f, none⟩) (by show g < _; omega)).trans (hcel i z hz f u hu))
            have z0 := fun t => hcx t k x _ hx.out 0 rfl
            have z1 := fun t => hcx t j y _ hy 0 rfl
            have z2 := fun t => hcx t j y _ hy 1 rfl
            simp only [Nat.add_zero] at z0 z1
            have hcnt := cntT_succ l j y x.b hy
            have hcle := onN_le l j x.b
            have eN : ((l.take (j + 1)).filter fun z => onB z x.b).length = onN l (j + 1) x.b := rfl
            have eN2 : ((l.take j).filter fun z => onB z x.b).length = onN l j x.b := rfl
            rw [eN, eN2] at hcnt
            clear eN eN2 hcx
            generalize hcj : onN l j x.b = cj at *
            have j0 : (0 : Int) ≤ (j : Int) := by omega
            have j1 : (j : Int) < (n : Int) := by omega
            have : Nonempty (Tw (fun w' => Below wr.heap.size wr w')) := ⟨⟨_, Below.refl _ _⟩⟩
            clear hcj hy
            unfold onB at hcnt
            generalize y.b = yb at *
            generalize y.e = ye at *
            generalize x.b = xb at *
            go_upto_region 11 with fail
            clear d1 d2 d3 d4
            cases h1 : decide (yb ≤ xb) with
            | false =>
              rw [h1] at hcnt
              replace hcnt := Lib.hid hcnt
              refine region_tw (fun w' => Below (wr).heap.size (wr) w') (by kernel_rfl) (by kernel_rfl) (Below.refl _ _).drew ?_
              unfold clsS
              repeat (first
                | go_big_quiet_skip
                | (go_big_quiet_want; go_big_quiet_op; first | go_big_quiet_on | go_big_quiet_call (
                  (first |(fail)))))
              refine wpQuiet_nil ?_
              intro tq
              go_wp2_with fail
              go_roundw
              case rel => exact ⟨j + 1, by omega, by go_num, by rw [hcnt.out]; simp, bel_after bel2 tq.h⟩
              case measure => simp [intOf]; omega
            | true =>
              cases h2 : (ye == -1) with
              | true =>
                rw [h1, h2] at hcnt
                replace hcnt := Lib.hid hcnt
                refine region_tw (fun w' => Below (wr).heap.size (wr) w') (by kernel_rfl) (by kernel_rfl) (Below.refl _ _).drew ?_
                unfold clsS
                repeat (first
                  | go_big_quiet_skip
                  | (go_big_quiet_want; go_big_quiet_op; first | go_big_quiet_on | go_big_quiet_call (
                    (first |(fail)))))
                refine wpQuiet_nil ?_
                intro tq
                go_wp2_with fail
                go_roundw
                case rel => exact ⟨j + 1, by omega, by go_num, by rw [hcnt.out]; simp, bel_after bel2 tq.h⟩
                case measure => simp [intOf]; omega
              | false =>
                cases h3 : decide (xb < ye) with
                | true =>
                  rw [h1, h2, h3] at hcnt
                  replace hcnt := Lib.hid hcnt
                  refine region_tw (fun w' => Below (wr).heap.size (wr) w') (by kernel_rfl) (by kernel_rfl) (Below.refl _ _).drew ?_
                  unfold clsS
                  repeat (first
                    | go_big_quiet_skip
                    | (go_big_quiet_want; go_big_quiet_op; first | go_big_quiet_on | go_big_quiet_call (
                      (first |(fail)))))
                  refine wpQuiet_nil ?_
                  intro tq
                  go_wp2_with fail
                  go_roundw
                  case rel => exact ⟨j + 1, by omega, by go_num, by rw [hcnt.out]; simp, bel_after bel2 tq.h⟩
                  case measure => simp [intOf]; omega
                | false =>
                  rw [h1, h2, h3] at hcnt
                  replace hcnt := Lib.hid hcnt
                  refine region_tw (fun w' => Below (wr).heap.size (wr) w') (by kernel_rfl) (by kernel_rfl) (Below.refl _ _).drew ?_
                  unfold clsS
                  repeat (first
                    | go_big_quiet_skip
                    | (go_big_quiet_want; go_big_quiet_op; first | go_big_quiet_on | go_big_quiet_call (
                      (first |(fail)))))
                  refine wpQuiet_nil ?_
                  intro tq
                  go_wp2_with fail
                  go_roundw
                  case rel => exact ⟨j + 1, by omega, by go_num, by rw [hcnt.out]; simp, bel_after bel2 tq.h⟩
                  case measure => simp [intOf]; omega
          · obtain rfl : j = n := by omega
            have d1 : decide ((j : Int) < (j : Int)) = false := by simp
            have d2 : decide (j < j) = false := by simp
            have ec : onN l j x.b = cntL l x.b := by unfold onN cntL; rw [List.take_of_length_le (by rw [hn.out]; omega)]
            have hcle := onN_le l j x.b
            rw [← ec] at hws
            generalize onN l j x.b = cn at *
            clear ec
            go_wp2_with fail
            go_roundw
            case rel => exact ⟨k + 1, by omega, by go_num, by rw [hws.out]; simp; split <;> omega, bel2⟩
            case measure => simp [intOf]; omega
      · obtain rfl : k = n := by omega
        have d1 : decide ((k : Int) < (k : Int)) = false := by simp
        have d2 : decide (k < k) = false := by simp
        go_wp2
        go_ret
        refine ⟨?_, bel⟩
        rw [hn.out]
        rfl
end Go.Proofs.Ytjaacmecniijgaa
