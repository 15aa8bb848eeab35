/- Every input of HistoryTells answers true, and reads behind the call as it read before. No condition. -/
import Derived.Test.YtjaacmecniijgaaHist8
import Derived.Test.YtjaacmecniijgaaHistArg
namespace Go.Proofs.Ytjaacmecniijgaa
set_option linter.unusedVariables false
set_option linter.unusedSimpArgs false
open Go.RowKit
/-- alike but for the frames -/
def Al (x y : En) : Prop := ∃ s t : Sl, y = { x with f := s, g := t }
theorem Al.ahead {x y x' y' : En} (h : Al x x') (h' : Al y y') : aheadB x' y' = aheadB x y := by
  obtain ⟨s, t, rfl⟩ := h; obtain ⟨s', t', rfl⟩ := h'; rfl
/-- rows that are alike -/
def AlL (l l' : List En) (k : Nat) : Prop := l'.length = k ∧ ∀ j x, j < k → l[j]? = some x → ∃ y, l'[j]? = some y ∧ Al x y
theorem AlL.add {l l' : List En} {k : Nat} (h : AlL l l' k) {x y : En} (hx : l[k]? = some x) (hy : Al x y) : AlL l (l' ++ [y]) (k + 1) := by
  refine ⟨by rw [List.length_append, h.1]; rfl, fun j z hj hz => ?_⟩
  rcases Nat.lt_or_ge j k with hlt | hge
  · obtain ⟨u, h1, h2⟩ := h.2 j z hlt hz
    exact ⟨u, by rw [List.getElem?_append_left (by rw [h.1]; exact hlt)]; exact h1, h2⟩
  · obtain rfl : j = k := by omega
    rw [hx] at hz
    injection hz with hz
    subst hz
    exact ⟨y, by rw [List.getElem?_append_right (by rw [h.1]; omega), h.1]; simp, hy⟩
theorem AlL.map {l l' : List En} (h : AlL l l' l.length) : List.map (fun x : En => (x.b, x.e, x.ends)) l' = List.map (fun x : En => (x.b, x.e, x.ends)) l := by
  apply List.ext_getElem?
  intro j
  rw [List.getElem?_map, List.getElem?_map]
  rcases Nat.lt_or_ge j l.length with hlt | hge
  · obtain ⟨y, h1, s, t, rfl⟩ := h.2 j _ hlt (List.getElem?_eq_getElem hlt)
    rw [h1, List.getElem?_eq_getElem hlt]; rfl
  · rw [List.getElem?_eq_none (by rw [h.1]; exact hge), List.getElem?_eq_none hge]
def badT (x : Int × Int × Bool) : Bool := decide (x.1 < 1) || (decide (x.2.1 ≤ x.1) && !((x.2.1 == -1) && !x.2.2))
def onT (x : Int × Int × Bool) (a : Int) : Bool := decide (x.1 ≤ a) && ((x.2.1 == -1) || decide (a < x.2.1))
theorem rightB_map (l : List En) : rightB l = (List.map (fun x : En => (x.b, x.e, x.ends)) l).all fun x => !badT x := by
  unfold rightB
  rw [List.all_map]; rfl
theorem cntL_map (l : List En) (a : Int) : cntL l a = ((List.map (fun x : En => (x.b, x.e, x.ends)) l).filter fun x => onT x a).length := by
  unfold cntL
  rw [List.filter_map, List.length_map]; rfl
theorem widthL_map (l : List En) : widthL l = if (List.map (fun x : En => (x.b, x.e, x.ends)) l).all (fun x => !badT x) then (List.map (fun x : En => (x.b, x.e, x.ends)) l).foldl (fun m x => max m ((List.map (fun x : En => (x.b, x.e, x.ends)) l).filter fun y => onT y x.1).length) 0 else 0 := by
  unfold widthL widL
  rw [← rightB_map, List.take_length, List.foldl_map]
  simp only [cntL_map]
theorem AlL.right {l l' : List En} (h : AlL l l' l.length) : rightB l' = rightB l := by rw [rightB_map, rightB_map, h.map]
theorem AlL.width {l l' : List En} (h : AlL l l' l.length) : widthL l' = widthL l := by rw [widthL_map, widthL_map, h.map]
theorem ev_size : (Try.prog.info? 35).map (·.size) = some 11 := by kernel_rfl
set_option maxRecDepth 100000 in
set_option maxHeartbeats 8000000 in
theorem HistoryTells_walk (l : List En) (A : Option Addr) (n c : Nat) (w : World) (hr : RdT En.cs 11 w w.heap.size A n l) (hf : ∀ (j : Nat) x, l[j]? = some x → ∃ F G, EnR w x F G ∧ F.length ≤ 140737488355328 ∧ G.length ≤ 140737488355328) (hnc : n ≤ c) (hcm : c ≤ maxLen) :
    Calls Try.prog 3 #[.slice A n c] w fun e w' => e = .returned (.bool true) ∧ Below w.heap.size w w' := by
  obtain ⟨i0, hi, hz0, hz1, hz2⟩ := info_parts en_info
  obtain ⟨m, hmn, hm1, hm2⟩ := minc 20 (by omega) n
  have hrm := hr.take hm1
  have hfm : ∀ (j : Nat) x, (l.take m)[j]? = some x → ∃ F G, EnR w x F G ∧ F.length ≤ 140737488355328 ∧ G.length ≤ 140737488355328 := fun j x hx => hf j x (by
    rw [List.getElem?_take] at hx
    split at hx
    · exact hx
    · cases hx)
  have hm : (l.take m).length = m := hrm.len
  generalize l.take m = L at *
  unfold maxLen at hcm
  have hm20 : m ≤ 20 := by omega
  have hm0 : (0 : Int) ≤ (m : Int) := by omega
  have hmc : (m : Int) ≤ (c : Int) := by omega
  have hmc2 : m ≤ c := by omega
  clear hr hf
  replace hm := Lib.hid hm
  replace hfm := Lib.hid hfm
  go_enter Try.func3, Try.ntmps3
  go_wp2
  go_loopw [3, 4] (fun o i wr => ∃ k : Nat, k ≤ m ∧ i = .int .i64 k ∧ ∃ l', OwnT En.cs 11 31 wr w.heap.size o l' ∧ AlL L l' k ∧ Below w.heap.size w wr) (fun _ i _ => m - (intOf i).toNat)
  case atStart => exact ⟨0, by omega, rfl, [], ⟨World.ownsRow_nil _ _ _ _⟩, ⟨rfl, fun j x hj => by omega⟩, Below.refl _ _⟩
  case round =>
    obtain ⟨k, hk, rfl, l', own, hal, bel⟩ := hrel
    rcases Nat.lt_or_ge k m with hkn | hkn
    · have d1 : decide ((k : Int) < (m : Int)) = true := by simpa using hkn
      have d2 : decide (k < m) = true := by simpa using hkn
      obtain ⟨g, o, rfl, hg, hcel⟩ := hrm.cel (by omega)
      obtain ⟨x, hx⟩ : ∃ x, L[k]? = some x := ⟨_, List.getElem?_eq_getElem (by rw [hm.out]; omega)⟩
      have hc : ∀ j u, ([.int .i64 x.b, .int .i64 x.e, .bool x.ends, .bool x.out, .slice x.f.A x.f.n x.f.c, .int .i64 x.tick, .int .i64 x.port, .slice x.g.A x.g.n x.g.c, .int .i64 x.err, .int .i64 x.proto, .int .i64 x.pt] : List Value)[j]? = some u → wr.cell? ⟨g, o + k * 11 + j, none⟩ = some u := fun j u hu => (bel.cell (p := ⟨g, o + k * 11 + j, none⟩) hg).trans (hcel k x hx j u hu)
      have k0 : (0 : Int) ≤ (k : Int) := by omega
      have k1 : (k : Int) < (m : Int) := by omega
      obtain ⟨F, G, hxr, hF, hG⟩ := hfm.out k x hx
      have kt := hTo_any x F G wr ⟨hxr.1.bel bel, hxr.2.bel bel⟩ (by omega) (by omega)
      replace hx := Lib.hid hx
      replace kt := Lib.hid kt
      clear hxr
      go_wp2_with (refine wpList_ldAt rfl rfl rfl hc Try.underlying35 ev_size ?_)
      clear hc
      refine kt.out.mono ?_
      rintro e w2 ⟨s, t, rfl, hb⟩
      have hla := bel_alloc w2 (.cells #[.int .i64 { x with f := s, g := t }.b, .int .i64 { x with f := s, g := t }.e, .bool { x with f := s, g := t }.ends, .bool { x with f := s, g := t }.out, .slice { x with f := s, g := t }.f.A { x with f := s, g := t }.f.n { x with f := s, g := t }.f.c, .int .i64 { x with f := s, g := t }.tick, .int .i64 { x with f := s, g := t }.port, .slice { x with f := s, g := t }.g.A { x with f := s, g := t }.g.n { x with f := s, g := t }.g.c, .int .i64 { x with f := s, g := t }.err, .int .i64 { x with f := s, g := t }.proto, .int .i64 { x with f := s, g := t }.pt] 31)
      have hxr := RdT.new (cs := En.cs) (sz := 11) En.cs_len w2 31 [{ x with f := s, g := t }] #[.int .i64 { x with f := s, g := t }.b, .int .i64 { x with f := s, g := t }.e, .bool { x with f := s, g := t }.ends, .bool { x with f := s, g := t }.out, .slice { x with f := s, g := t }.f.A { x with f := s, g := t }.f.n { x with f := s, g := t }.f.c, .int .i64 { x with f := s, g := t }.tick, .int .i64 { x with f := s, g := t }.port, .slice { x with f := s, g := t }.g.A { x with f := s, g := t }.g.n { x with f := s, g := t }.g.c, .int .i64 { x with f := s, g := t }.err, .int .i64 { x with f := s, g := t }.proto, .int .i64 { x with f := s, g := t }.pt] rfl 1 rfl
      replace own := (own.below hb).below hla
      replace bel := bel_after (bel_after bel hb) hla
      clear hla hb kt
      have hlk := hal.1
      go_wp2_with (at_builtin; generalize w2.alloc (.cells #[.int .i64 { x with f := s, g := t }.b, .int .i64 { x with f := s, g := t }.e, .bool { x with f := s, g := t }.ends, .bool { x with f := s, g := t }.out, .slice { x with f := s, g := t }.f.A { x with f := s, g := t }.f.n { x with f := s, g := t }.f.c, .int .i64 { x with f := s, g := t }.tick, .int .i64 { x with f := s, g := t }.port, .slice { x with f := s, g := t }.g.A { x with f := s, g := t }.g.n { x with f := s, g := t }.g.c, .int .i64 { x with f := s, g := t }.err, .int .i64 { x with f := s, g := t }.proto, .int .i64 { x with f := s, g := t }.pt] 31) = W3 at *; refine wpList_appT En.cs_len En.cs_one (by decide) _ rfl (.tmp 18) (.tmp 24) 23 rfl w.heap.size 31 i0 (.agg #[.int .i64 0, .int .i64 0, .bool false, .bool false, .slice none 0 0, .int .i64 0, .int .i64 0, .slice none 0 0, .int .i64 0, .int .i64 0, .int .i64 0]) 120 Try.underlying23 hi hz0 hz1 hz2 rfl _ rfl l' own _ _ 1 1 rfl [{ x with f := s, g := t }] hxr (by omega) (by decide) (by have := bel.size; omega) ?_; intro v4 w4 own4 hg4 hv4)
      have bel4 : Below w.heap.size w w4 := bel.trans ((Upd.of_grown (S := fun k => w.heap.size ≤ k) hg4 (fun g e => (own.lt g e).1)).below bel.size (fun k hk => by omega))
      have hal4 := hal.add hx.out ⟨s, t, rfl⟩
      go_roundw
      case rel => exact ⟨k + 1, by omega, by go_num, _, own4, hal4, bel4⟩
      case measure => simp [intOf]; omega
    · obtain rfl : k = m := by omega
      have d1 : decide ((k : Int) < (k : Int)) = false := by simp
      have d2 : decide (k < k) = false := by simp
      have hal2 : AlL L l' L.length := by rw [hm.out]; exact hal
      obtain ⟨A2, c2, rfl, hc1, hc2⟩ := own.form hal.1
      unfold maxLen at hc2
      have hx0 := own.rd En.cs_len rfl hal.1
      have hL0 := (hrm.below bel).more bel.size
      have k1 := fun W (hb : Below wr.heap.size wr W) => hRight_any l' W.heap.size A2 k c2 W ((hx0.below hb).more hb.size) (Nat.le_refl _) (by omega) hc1 (by unfold maxLen; omega)
      have k2 := fun W (hb : Below wr.heap.size wr W) => rRight_any L W.heap.size A k c W ((hL0.below hb).more hb.size) (Nat.le_refl _) (by omega) hmc2 (by unfold maxLen; omega)
      have k3 := fun W (hb : Below wr.heap.size wr W) => hWidth_any l' W.heap.size A2 k c2 W ((hx0.below hb).more hb.size) (Nat.le_refl _) (by omega) hc1 (by unfold maxLen; omega)
      have k4 := fun W (hb : Below wr.heap.size wr W) => rWidth_any L W.heap.size A k c W ((hL0.below hb).more hb.size) (Nat.le_refl _) (by omega) hmc2 (by unfold maxLen; omega)
      rw [hal2.right] at k1
      rw [hal2.width] at k3
      generalize rightB L = rb at *
      generalize widthL L = wb at *
      replace k1 := Lib.hid k1
      replace k2 := Lib.hid k2
      replace k3 := Lib.hid k3
      replace k4 := Lib.hid k4
      have belx : Below wr.heap.size wr wr := Below.refl _ _
      go_wp2_with fail
      refine (hnotes_any _).mono ?_
      rintro e w5 ⟨rfl, hb⟩
      replace belx := bel_after belx hb
      clear hb
      go_wp2_with fail
      refine (k1.out _ belx).mono ?_
      rintro e w6 ⟨rfl, hb⟩
      replace belx := bel_after belx hb
      clear hb
      go_wp2_with fail
      refine (k2.out _ belx).mono ?_
      rintro e w7 ⟨rfl, hb⟩
      replace belx := bel_after belx hb
      clear hb
      go_wp2_with fail
      refine (k3.out _ belx).mono ?_
      rintro e w8 ⟨rfl, hb⟩
      replace belx := bel_after belx hb
      clear hb
      go_wp2_with fail
      refine (k4.out _ belx).mono ?_
      rintro e w9 ⟨rfl, hb⟩
      replace belx := bel_after belx hb
      clear hb k1 k2 k3 k4 d1 d2
      replace hx0 := (hx0.below belx).more belx.size
      replace hL0 := (hL0.below belx).more belx.size
      replace bel := bel_after bel belx
      clear belx hrm own
      go_wp2_with fail
      go_loopw [5] (fun i wr => ∃ a : Nat, a ≤ k ∧ i = .int .i64 a ∧ Below w9.heap.size w9 wr) (fun i _ => k - (intOf i).toNat)
      case atStart => exact ⟨0, by omega, rfl, Below.refl _ _⟩
      case round =>
        obtain ⟨a, ha, rfl, bel1⟩ := hrel
        rcases Nat.lt_or_ge a k with hak | hak
        · have d1 : decide ((a : Int) < (k : Int)) = true := by simpa using hak
          have d2 : decide (a < k) = true := by simpa using hak
          go_wp2_with fail
          go_loopw [6] (fun i wr => ∃ j : Nat, j ≤ k ∧ i = .int .i64 j ∧ Below w9.heap.size w9 wr) (fun i _ => k - (intOf i).toNat)
          case atStart => exact ⟨0, by omega, rfl, bel1⟩
          case round =>
            clear bel1
            obtain ⟨j, hj, rfl, bel2⟩ := hrel
            rcases Nat.lt_or_ge j k with hjk | hjk
            · have d3 : decide ((j : Int) < (k : Int)) = true := by simpa using hjk
              have d4 : decide (j < k) = true := by simpa using hjk
              obtain ⟨g, o, rfl, hg, hcel⟩ := hL0.cel (by omega)
              obtain ⟨g2, o2, rfl, hg2, hcel2⟩ := hx0.cel (by omega)
              obtain ⟨xa, hxa⟩ : ∃ x, L[a]? = some x := ⟨_, List.getElem?_eq_getElem (by rw [hm.out]; omega)⟩
              obtain ⟨xj, hxj⟩ : ∃ x, L[j]? = some x := ⟨_, List.getElem?_eq_getElem (by rw [hm.out]; omega)⟩
              obtain ⟨ya, hya, al1⟩ := hal.2 a xa hak hxa
              obtain ⟨yj, hyj, al2⟩ := hal.2 j xj hjk hxj
              have y0 : ∀ w', (∃ t : Tw (Up wr), w' = t.w) → ∀ i u, ([.int .i64 ya.b, .int .i64 ya.e, .bool ya.ends, .bool ya.out, .slice ya.f.A ya.f.n ya.f.c, .int .i64 ya.tick, .int .i64 ya.port, .slice ya.g.A ya.g.n ya.g.c, .int .i64 ya.err, .int .i64 ya.proto, .int .i64 ya.pt] : List Value)[i]? = some u → w'.cell? ⟨g2, o2 + a * 11 + i, none⟩ = some u := fun w' ⟨t, ht⟩ i u hu => ht ▸ (((bel2.trans (t.h.mono bel2.size)).cell (p := ⟨g2, o2 + a * 11 + i, none⟩) hg2).trans (hcel2 a ya hya i u hu))
              have y1 : ∀ w', (∃ t : Tw (Up wr), w' = t.w) → ∀ i u, ([.int .i64 yj.b, .int .i64 yj.e, .bool yj.ends, .bool yj.out, .slice yj.f.A yj.f.n yj.f.c, .int .i64 yj.tick, .int .i64 yj.port, .slice yj.g.A yj.g.n yj.g.c, .int .i64 yj.err, .int .i64 yj.proto, .int .i64 yj.pt] : List Value)[i]? = some u → w'.cell? ⟨g2, o2 + j * 11 + i, none⟩ = some u := fun w' ⟨t, ht⟩ i u hu => ht ▸ (((bel2.trans (t.h.mono bel2.size)).cell (p := ⟨g2, o2 + j * 11 + i, none⟩) hg2).trans (hcel2 j yj hyj i u hu))
              have hcx : ∀ (t : Tw (Up wr)) i z u, L[i]? = some z → ∀ f, z.cs[f]? = some u → t.w.cell? ⟨g, o + i * 11 + f, none⟩ = some u := fun t i z u hz f hu => ((bel2.trans (t.h.mono bel2.size)).cell (p := ⟨g, o + i * 11 + f, none⟩) hg).trans (hcel i z hz f u hu)
              have z1 := fun t => hcx t a xa _ hxa 1 rfl
              have z2 := fun t => hcx t j xj _ hxj 0 rfl
              simp only [Nat.add_zero] at z2
              have ka := fun t : Tw (Up wr) => Ahead_any ya yj t.w
              rw [al1.ahead al2] at ka
              unfold aheadB at ka
              have zz := Up.one wr
              have a0 : (0 : Int) ≤ (a : Int) := by omega
              have a1 : (a : Int) < (k : Int) := by omega
              have j0 : (0 : Int) ≤ (j : Int) := by omega
              have j1 : (j : Int) < (k : Int) := by omega
              clear hcx hcel hcel2 al1 al2 hxa hxj hya hyj
              generalize xa.e = ea at *
              generalize xj.b = bj at *
              replace y0 := Lib.hid y0
              replace y1 := Lib.hid y1
              go_upto_region 15 with fail
              clear d1 d2 d3 d4
              refine region_tw (Up wr) (by kernel_rfl) (by kernel_rfl) (Up.rfl_ wr).drew ?_
              unfold clsS
              cases h1 : (ea != -1) with
              | false =>
                rw [h1] at ka
                replace ka := Lib.hid ka
                repeat (first
                  | go_big_quiet_skip
                  | (go_big_quiet_want; go_big_quiet_op; first | go_big_quiet_on | go_big_quiet_call (fail)))
                go_big_quiet_want
                refine quiet_ldAt rfl rfl y0.out Try.underlying31 en_size ?_
                go_simp
                go_big_quiet_on
                repeat (first
                  | go_big_quiet_skip
                  | (go_big_quiet_want; go_big_quiet_op; first | go_big_quiet_on | go_big_quiet_call (fail)))
                go_big_quiet_want
                refine quiet_ldAt rfl rfl y1.out Try.underlying31 en_size ?_
                go_simp
                go_big_quiet_on
                repeat (first
                  | go_big_quiet_skip
                  | (go_big_quiet_want; go_big_quiet_op; first | go_big_quiet_on | go_big_quiet_call (exact q_tw (Nat.le_refl _) (ka.out _))))
                refine wpQuiet_nil ?_
                intro tq
                go_wp2_with fail
                go_roundw
                case rel => exact ⟨j + 1, by omega, by go_num, bel_after bel2 tq.h⟩
                case measure => simp [intOf]; omega
              | true =>
                cases h2 : decide (ea < bj) with
                | false =>
                  rw [h1, h2] at ka
                  replace ka := Lib.hid ka
                  repeat (first
                    | go_big_quiet_skip
                    | (go_big_quiet_want; go_big_quiet_op; first | go_big_quiet_on | go_big_quiet_call (fail)))
                  go_big_quiet_want
                  refine quiet_ldAt rfl rfl y0.out Try.underlying31 en_size ?_
                  go_simp
                  go_big_quiet_on
                  repeat (first
                    | go_big_quiet_skip
                    | (go_big_quiet_want; go_big_quiet_op; first | go_big_quiet_on | go_big_quiet_call (fail)))
                  go_big_quiet_want
                  refine quiet_ldAt rfl rfl y1.out Try.underlying31 en_size ?_
                  go_simp
                  go_big_quiet_on
                  repeat (first
                    | go_big_quiet_skip
                    | (go_big_quiet_want; go_big_quiet_op; first | go_big_quiet_on | go_big_quiet_call (exact q_tw (Nat.le_refl _) (ka.out _))))
                  refine wpQuiet_nil ?_
                  intro tq
                  go_wp2_with fail
                  go_roundw
                  case rel => exact ⟨j + 1, by omega, by go_num, bel_after bel2 tq.h⟩
                  case measure => simp [intOf]; omega
                | true =>
                  rw [h1, h2] at ka
                  replace ka := Lib.hid ka
                  repeat (first
                    | go_big_quiet_skip
                    | (go_big_quiet_want; go_big_quiet_op; first | go_big_quiet_on | go_big_quiet_call (fail)))
                  go_big_quiet_want
                  refine quiet_ldAt rfl rfl y0.out Try.underlying31 en_size ?_
                  go_simp
                  go_big_quiet_on
                  repeat (first
                    | go_big_quiet_skip
                    | (go_big_quiet_want; go_big_quiet_op; first | go_big_quiet_on | go_big_quiet_call (fail)))
                  go_big_quiet_want
                  refine quiet_ldAt rfl rfl y1.out Try.underlying31 en_size ?_
                  go_simp
                  go_big_quiet_on
                  repeat (first
                    | go_big_quiet_skip
                    | (go_big_quiet_want; go_big_quiet_op; first | go_big_quiet_on | go_big_quiet_call (exact q_tw (Nat.le_refl _) (ka.out _))))
                  refine wpQuiet_nil ?_
                  intro tq
                  go_wp2_with fail
                  go_roundw
                  case rel => exact ⟨j + 1, by omega, by go_num, bel_after bel2 tq.h⟩
                  case measure => simp [intOf]; omega
            · obtain rfl : j = k := by omega
              have d3 : decide ((j : Int) < (j : Int)) = false := by simp
              have d4 : decide (j < j) = false := by simp
              go_wp2_with fail
              go_roundw
              case rel => exact ⟨a + 1, by omega, by go_num, bel2⟩
              case measure => simp [intOf]; omega
        · obtain rfl : a = k := by omega
          have d1 : decide ((a : Int) < (a : Int)) = false := by simp
          have d2 : decide (a < a) = false := by simp
          go_wp2
          go_ret
          exact ⟨rfl, bel_after bel bel1⟩
theorem HistoryTells_args (W : World) (args : Array Value) (hs : args.size = Try.f3.params.size) (hA : ∀ (j : Nat) t v, Try.f3.params[j]? = some t → args[j]? = some v → ArgS Try.prog W t v) :
    Calls Try.prog 3 args W fun e W' => e = .returned (.bool true) ∧ Below W.heap.size W W' := by
  obtain ⟨v0, rfl⟩ := args1 hs
  obtain ⟨A, n, c, l, rfl, h1, h2, h3, h4⟩ := arg_events (hA 0 22 v0 rfl rfl)
  exact HistoryTells_walk l A n c W h3 h4 h1 h2

set_option maxRecDepth 100000 in
theorem HistoryTells_lifted (os : Os) (started : os.Started) (H : Type) (enc : TypeId × Value → H) :
    ReturnsInHanded {} Try.checked os 3 .any (Rows.historyTellsSpec.pre6 enc Try.prog Try.f3 Rows.historyTellsRow.domain false) (Rows.historyTellsSpec.post enc Try.prog Try.f3 false true false false) :=
  law_lifted_sized os started H enc (by kernel_rfl) Try.func3 rfl rfl (fun H ds h => by match ds, h with | [_], _ => exact ⟨rfl, rfl, rfl⟩) (by kernel_rfl)
    (ChangeSpec.witness6 (enc := enc) (C := Try.checked) false ⟨#[], #[.slice none 0 0], []⟩ 8 (by kernel_rfl) (by kernel_rfl) (by kernel_rfl) (by kernel_rfl))
    HistoryTells_args

/-- the statement -/
theorem historyTells_holds : Rows.HistoryTellsSaid :=
  OpenClaim.holds_of_wide 3 Try.f3 rfl rfl rfl rfl rfl rfl rfl ⟨rfl, rfl, rfl, rfl, rfl⟩ rfl rfl rfl rfl rfl (by kernel_rfl) Try.func3 (by kernel_rfl)
    (of_decide_eq_true (by kernel_rfl)) (by unfold Func.isWrapper; first | (rw [if_pos (by decide +kernel)]; kernel_rfl) | (rw [if_neg (by decide +kernel)]; exact ⟨rfl, rfl⟩))
    (fun os started H enc _ => HistoryTells_lifted os started H enc)

end Go.Proofs.Ytjaacmecniijgaa
