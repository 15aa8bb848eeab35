/- The walks of package history: Ahead, on, Right, Width, and the document's. -/
import Derived.Test.YtjaacmecniijgaaHist2
import Derived.Test.YtjaacmecniijgaaRowAt
namespace Go.Proofs.Ytjaacmecniijgaa
set_option linter.unusedVariables false
set_option linter.unusedSimpArgs false
open Go.RowKit
def aheadB (x y : En) : Bool := (x.e != -1) && decide (x.e < y.b)
def onB (x : En) (at_ : Int) : Bool := decide (x.b ≤ at_) && ((x.e == -1) || decide (at_ < x.e))
def badB (x : En) : Bool := decide (x.b < 1) || (decide (x.e ≤ x.b) && !((x.e == -1) && !x.ends))
def rightB (l : List En) : Bool := l.all fun x => !badB x
def cntL (l : List En) (at_ : Int) : Nat := (l.filter fun x => onB x at_).length
def widL (l : List En) (k : Nat) : Nat := (l.take k).foldl (fun m x => max m (cntL l x.b)) 0
def widthL (l : List En) : Nat := if rightB l then widL l l.length else 0
theorem widL_succ (l : List En) (k : Nat) (x : En) (h : l[k]? = some x) : widL l (k + 1) = max (widL l k) (cntL l x.b) := by
  have hk : k < l.length := (List.getElem?_eq_some_iff.1 h).1
  have hx : l[k] = x := by have := List.getElem?_eq_getElem hk; rw [this] at h; exact Option.some.inj h
  unfold widL
  rw [List.take_succ_eq_append_getElem hk, List.foldl_append, hx]
  rfl
theorem cntT_succ (l : List En) (k : Nat) (x : En) (at_ : Int) (h : l[k]? = some x) : ((l.take (k + 1)).filter fun x => onB x at_).length = ((l.take k).filter fun x => onB x at_).length + (if onB x at_ then 1 else 0) := by
  have hk : k < l.length := (List.getElem?_eq_some_iff.1 h).1
  have hx : l[k] = x := by have := List.getElem?_eq_getElem hk; rw [this] at h; exact Option.some.inj h
  rw [List.take_succ_eq_append_getElem hk, hx, List.filter_append, List.length_append]
  congr 1
  cases hh : onB x at_ <;> simp [List.filter_cons, hh]
set_option maxRecDepth 100000 in
theorem Ahead_any (x y : En) (w : World) : Calls Try.prog 12 #[.agg #[.int .i64 x.b, .int .i64 x.e, .bool x.ends, .bool x.out, .slice x.f.A x.f.n x.f.c, .int .i64 x.tick, .int .i64 x.port, .slice x.g.A x.g.n x.g.c, .int .i64 x.err, .int .i64 x.proto, .int .i64 x.pt], .agg #[.int .i64 y.b, .int .i64 y.e, .bool y.ends, .bool y.out, .slice y.f.A y.f.n y.f.c, .int .i64 y.tick, .int .i64 y.port, .slice y.g.A y.g.n y.g.c, .int .i64 y.err, .int .i64 y.proto, .int .i64 y.pt]] w fun e w' => e = .returned (.bool (aheadB x y)) ∧ Below w.heap.size w w' := by
  obtain ⟨b, e, en, ou, f, ti, po, g, er, pr, pt⟩ := x
  obtain ⟨b2, e2, en2, ou2, f2, ti2, po2, g2, er2, pr2, pt2⟩ := y
  unfold aheadB
  simp only
  cases h1 : (e != -1) with
  | false =>
    go_enter Try.func12, Try.ntmps12
    go_wp2
    go_ret
    exact ⟨by simp, (bel_alloc _ _).alloc (by simp) _⟩
  | true =>
    cases h2 : decide (e < b2) with
    | false =>
      go_enter Try.func12, Try.ntmps12
      go_wp2
      go_ret
      exact ⟨by simp, (bel_alloc _ _).alloc (by simp) _⟩
    | true =>
      go_enter Try.func12, Try.ntmps12
      go_wp2
      go_ret
      exact ⟨by simp, (bel_alloc _ _).alloc (by simp) _⟩
set_option maxRecDepth 100000 in
theorem on_any (x : En) (at_ : Int) (w : World) : Calls Try.prog 24 #[.agg #[.int .i64 x.b, .int .i64 x.e, .bool x.ends, .bool x.out, .slice x.f.A x.f.n x.f.c, .int .i64 x.tick, .int .i64 x.port, .slice x.g.A x.g.n x.g.c, .int .i64 x.err, .int .i64 x.proto, .int .i64 x.pt], .int .i64 at_] w fun e w' => e = .returned (.bool (onB x at_)) ∧ Below w.heap.size w w' := by
  obtain ⟨b, e, en, ou, f, ti, po, g, er, pr, pt⟩ := x
  unfold onB
  simp only
  cases h1 : decide (b ≤ at_) with
  | false =>
    go_enter Try.func24, Try.ntmps24
    go_wp2
    go_ret
    exact ⟨by simp, bel_alloc _ _⟩
  | true =>
    cases h2 : (e == -1) with
    | true =>
      go_enter Try.func24, Try.ntmps24
      go_wp2
      go_ret
      exact ⟨by simp, bel_alloc _ _⟩
    | false =>
      cases h3 : decide (at_ < e) with
      | true =>
        go_enter Try.func24, Try.ntmps24
        go_wp2
        go_ret
        exact ⟨by simp, bel_alloc _ _⟩
      | false =>
        go_enter Try.func24, Try.ntmps24
        go_wp2
        go_ret
        exact ⟨by simp, bel_alloc _ _⟩
theorem rightB_of (l : List En) (h : ∀ (j : Nat) x, l[j]? = some x → badB x = false) : rightB l = true := by
  unfold rightB
  rw [List.all_eq_true]
  intro x hx
  obtain ⟨j, hj, rfl⟩ := List.getElem_of_mem hx
  rw [h j _ (List.getElem?_eq_getElem hj)]; rfl
theorem rightB_not {l : List En} {j : Nat} {x : En} (hj : l[j]? = some x) (h : badB x = true) : rightB l = false := by
  unfold rightB
  cases ha : l.all fun x => !badB x with
  | false => rfl
  | true =>
    rw [List.all_eq_true] at ha
    have := ha x (List.mem_of_getElem? hj)
    rw [h] at this; cases this
set_option maxRecDepth 100000 in
set_option maxHeartbeats 4000000 in
theorem hRight_any (l : List En) (B : Nat) (A : Option Addr) (n c : Nat) (w : World) (h : RdT En.cs 11 w B A n l) (hB : B ≤ w.heap.size) (hl : n ≤ 1000) (hnc : n ≤ c) (hcm : c ≤ maxLen) :
    Calls Try.prog 8 #[.slice A n c] w fun e w' => e = .returned (.bool (rightB l)) ∧ Below w.heap.size w w' := by
  have hn := h.len
  unfold maxLen at hcm
  replace hn := Lib.hid hn
  go_enter Try.func8, Try.ntmps8
  go_wp2
  go_loopw [8] (fun i wr => ∃ k : Nat, k ≤ n ∧ i = .int .i64 k ∧ Below w.heap.size w wr ∧ ∀ (j : Nat) x, j < k → l[j]? = some x → badB x = false) (fun i _ => n - (intOf i).toNat)
  case atStart => exact ⟨0, by omega, rfl, Below.refl _ _, fun j x hj => by omega⟩
  case round =>
    obtain ⟨k, hk, rfl, bel, hall⟩ := hrel
    replace hall := Lib.hid hall
    rcases Nat.lt_or_ge k n with hkn | hkn
    · have d1 : decide ((k : Int) < (n : Int)) = true := by simpa using hkn
      have d2 : decide (k < n) = true := by simpa using hkn
      obtain ⟨g, o, rfl, hg, hcel⟩ := h.cel (by omega)
      obtain ⟨x, hx⟩ : ∃ x, l[k]? = some x := ⟨_, List.getElem?_eq_getElem (by rw [hn.out]; omega)⟩
      have hc : ∀ j u, x.cs[j]? = some u → wr.cell? ⟨g, o + k * 11 + j, none⟩ = some u := fun j u hu => (bel.cell (p := ⟨g, o + k * 11 + j, none⟩) (by show g < _; omega)).trans (hcel k x hx j u hu)
      obtain ⟨b, e, en, ou, ⟨fA, fn, fc⟩, ti, po, ⟨gA, gn, gc⟩, er, pr, pt⟩ := x
      replace hx := Lib.hid hx
      have k0 : (0 : Int) ≤ (k : Int) := by omega
      have k1 : (k : Int) < (n : Int) := by omega
      cases h1 : (e == -1) with
      | false =>
        cases h2 : decide (b < 1) with
        | true =>
          have hbd : Hid (badB ⟨b, e, en, ou, ⟨fA, fn, fc⟩, ti, po, ⟨gA, gn, gc⟩, er, pr, pt⟩ = true) := Lib.hid (by unfold badB; simp [h1, h2])
          replace hc : ∀ j u, ([.int .i64 b, .int .i64 e, .bool en, .bool ou, .slice fA fn fc, .int .i64 ti, .int .i64 po, .slice gA gn gc, .int .i64 er, .int .i64 pr, .int .i64 pt] : List Value)[j]? = some u → wr.cell? ⟨g, o + k * 11 + j, none⟩ = some u := hc
          have bx := (Blk.new wr 31 #[.int .i64 0, .int .i64 0, .bool false, .bool false, .slice none 0 0, .int .i64 0, .int .i64 0, .slice none 0 0, .int .i64 0, .int .i64 0, .int .i64 0]).setRow #[.int .i64 b, .int .i64 e, .bool en, .bool ou, .slice fA fn fc, .int .i64 ti, .int .i64 po, .slice gA gn gc, .int .i64 er, .int .i64 pr, .int .i64 pt]
          have belr := below_setRow (bel.alloc bel.size (.cells #[.int .i64 0, .int .i64 0, .bool false, .bool false, .slice none 0 0, .int .i64 0, .int .i64 0, .slice none 0 0, .int .i64 0, .int .i64 0, .int .i64 0] 31)) bel.size #[.int .i64 b, .int .i64 e, .bool en, .bool ou, .slice fA fn fc, .int .i64 ti, .int .i64 po, .slice gA gn gc, .int .i64 er, .int .i64 pr, .int .i64 pt]
          go_upto_region 4 with (first
            | (refine wpList_ldAt rfl rfl rfl hc Try.underlying31 en_size ?_)
            | (refine wpList_stRow rfl rfl rfl rfl rfl (Blk.new wr _ _) en_size rfl (by simp [Value.oneCell']) ?_; generalize (wr.alloc (.cells #[.int .i64 0, .int .i64 0, .bool false, .bool false, .slice none 0 0, .int .i64 0, .int .i64 0, .slice none 0 0, .int .i64 0, .int .i64 0, .int .i64 0] 31)).setRow wr.heap.size #[.int .i64 b, .int .i64 e, .bool en, .bool ou, .slice fA fn fc, .int .i64 ti, .int .i64 po, .slice gA gn gc, .int .i64 er, .int .i64 pr, .int .i64 pt] = W1 at *; generalize wr.heap.size = g1 at *))
          have q0 := bx.cell 0
          have q1 := bx.cell 1
          have q2 := bx.cell 2
          clear hc bx h hcel bel
          go_wp2_with fail
          go_ret
          refine ⟨?_, belr⟩
          rw [rightB_not hx.out hbd.out]
          rfl
        | false =>
          cases h3 : decide (e ≤ b) with
          | true =>
            have hbd : Hid (badB ⟨b, e, en, ou, ⟨fA, fn, fc⟩, ti, po, ⟨gA, gn, gc⟩, er, pr, pt⟩ = true) := Lib.hid (by unfold badB; simp [h1, h2, h3])
            replace hc : ∀ j u, ([.int .i64 b, .int .i64 e, .bool en, .bool ou, .slice fA fn fc, .int .i64 ti, .int .i64 po, .slice gA gn gc, .int .i64 er, .int .i64 pr, .int .i64 pt] : List Value)[j]? = some u → wr.cell? ⟨g, o + k * 11 + j, none⟩ = some u := hc
            have bx := (Blk.new wr 31 #[.int .i64 0, .int .i64 0, .bool false, .bool false, .slice none 0 0, .int .i64 0, .int .i64 0, .slice none 0 0, .int .i64 0, .int .i64 0, .int .i64 0]).setRow #[.int .i64 b, .int .i64 e, .bool en, .bool ou, .slice fA fn fc, .int .i64 ti, .int .i64 po, .slice gA gn gc, .int .i64 er, .int .i64 pr, .int .i64 pt]
            have belr := below_setRow (bel.alloc bel.size (.cells #[.int .i64 0, .int .i64 0, .bool false, .bool false, .slice none 0 0, .int .i64 0, .int .i64 0, .slice none 0 0, .int .i64 0, .int .i64 0, .int .i64 0] 31)) bel.size #[.int .i64 b, .int .i64 e, .bool en, .bool ou, .slice fA fn fc, .int .i64 ti, .int .i64 po, .slice gA gn gc, .int .i64 er, .int .i64 pr, .int .i64 pt]
            go_upto_region 4 with (first
              | (refine wpList_ldAt rfl rfl rfl hc Try.underlying31 en_size ?_)
              | (refine wpList_stRow rfl rfl rfl rfl rfl (Blk.new wr _ _) en_size rfl (by simp [Value.oneCell']) ?_; generalize (wr.alloc (.cells #[.int .i64 0, .int .i64 0, .bool false, .bool false, .slice none 0 0, .int .i64 0, .int .i64 0, .slice none 0 0, .int .i64 0, .int .i64 0, .int .i64 0] 31)).setRow wr.heap.size #[.int .i64 b, .int .i64 e, .bool en, .bool ou, .slice fA fn fc, .int .i64 ti, .int .i64 po, .slice gA gn gc, .int .i64 er, .int .i64 pr, .int .i64 pt] = W1 at *; generalize wr.heap.size = g1 at *))
            have q0 := bx.cell 0
            have q1 := bx.cell 1
            have q2 := bx.cell 2
            clear hc bx h hcel bel
            go_wp2_with fail
            go_ret
            refine ⟨?_, belr⟩
            rw [rightB_not hx.out hbd.out]
            rfl
          | false =>
            have hbd : Hid (badB ⟨b, e, en, ou, ⟨fA, fn, fc⟩, ti, po, ⟨gA, gn, gc⟩, er, pr, pt⟩ = false) := Lib.hid (by unfold badB; simp [h1, h2, h3])
            replace hc : ∀ j u, ([.int .i64 b, .int .i64 e, .bool en, .bool ou, .slice fA fn fc, .int .i64 ti, .int .i64 po, .slice gA gn gc, .int .i64 er, .int .i64 pr, .int .i64 pt] : List Value)[j]? = some u → wr.cell? ⟨g, o + k * 11 + j, none⟩ = some u := hc
            have bx := (Blk.new wr 31 #[.int .i64 0, .int .i64 0, .bool false, .bool false, .slice none 0 0, .int .i64 0, .int .i64 0, .slice none 0 0, .int .i64 0, .int .i64 0, .int .i64 0]).setRow #[.int .i64 b, .int .i64 e, .bool en, .bool ou, .slice fA fn fc, .int .i64 ti, .int .i64 po, .slice gA gn gc, .int .i64 er, .int .i64 pr, .int .i64 pt]
            have belr := below_setRow (bel.alloc bel.size (.cells #[.int .i64 0, .int .i64 0, .bool false, .bool false, .slice none 0 0, .int .i64 0, .int .i64 0, .slice none 0 0, .int .i64 0, .int .i64 0, .int .i64 0] 31)) bel.size #[.int .i64 b, .int .i64 e, .bool en, .bool ou, .slice fA fn fc, .int .i64 ti, .int .i64 po, .slice gA gn gc, .int .i64 er, .int .i64 pr, .int .i64 pt]
            go_upto_region 4 with (first
              | (refine wpList_ldAt rfl rfl rfl hc Try.underlying31 en_size ?_)
              | (refine wpList_stRow rfl rfl rfl rfl rfl (Blk.new wr _ _) en_size rfl (by simp [Value.oneCell']) ?_; generalize (wr.alloc (.cells #[.int .i64 0, .int .i64 0, .bool false, .bool false, .slice none 0 0, .int .i64 0, .int .i64 0, .slice none 0 0, .int .i64 0, .int .i64 0, .int .i64 0] 31)).setRow wr.heap.size #[.int .i64 b, .int .i64 e, .bool en, .bool ou, .slice fA fn fc, .int .i64 ti, .int .i64 po, .slice gA gn gc, .int .i64 er, .int .i64 pr, .int .i64 pt] = W1 at *; generalize wr.heap.size = g1 at *))
            have q0 := bx.cell 0
            have q1 := bx.cell 1
            have q2 := bx.cell 2
            clear hc bx h hcel bel
            go_wp2_with fail
            go_roundw
            case rel => exact ⟨k + 1, by omega, by go_num, belr, fun j x hj hjx => by
              rcases Nat.lt_or_ge j k with h | h
              · exact hall.out j x h hjx
              · obtain rfl : j = k := by omega
                rw [hx.out] at hjx
                injection hjx with hjx
                subst hjx
                exact hbd.out⟩
            case measure => simp [intOf]; omega
      | true =>
        cases en with
        | true =>
          cases h2 : decide (b < 1) with
          | true =>
            have hbd : Hid (badB ⟨b, e, true, ou, ⟨fA, fn, fc⟩, ti, po, ⟨gA, gn, gc⟩, er, pr, pt⟩ = true) := Lib.hid (by unfold badB; simp [h1, h2])
            replace hc : ∀ j u, ([.int .i64 b, .int .i64 e, .bool true, .bool ou, .slice fA fn fc, .int .i64 ti, .int .i64 po, .slice gA gn gc, .int .i64 er, .int .i64 pr, .int .i64 pt] : List Value)[j]? = some u → wr.cell? ⟨g, o + k * 11 + j, none⟩ = some u := hc
            have bx := (Blk.new wr 31 #[.int .i64 0, .int .i64 0, .bool false, .bool false, .slice none 0 0, .int .i64 0, .int .i64 0, .slice none 0 0, .int .i64 0, .int .i64 0, .int .i64 0]).setRow #[.int .i64 b, .int .i64 e, .bool true, .bool ou, .slice fA fn fc, .int .i64 ti, .int .i64 po, .slice gA gn gc, .int .i64 er, .int .i64 pr, .int .i64 pt]
            have belr := below_setRow (bel.alloc bel.size (.cells #[.int .i64 0, .int .i64 0, .bool false, .bool false, .slice none 0 0, .int .i64 0, .int .i64 0, .slice none 0 0, .int .i64 0, .int .i64 0, .int .i64 0] 31)) bel.size #[.int .i64 b, .int .i64 e, .bool true, .bool ou, .slice fA fn fc, .int .i64 ti, .int .i64 po, .slice gA gn gc, .int .i64 er, .int .i64 pr, .int .i64 pt]
            go_upto_region 4 with (first
              | (refine wpList_ldAt rfl rfl rfl hc Try.underlying31 en_size ?_)
              | (refine wpList_stRow rfl rfl rfl rfl rfl (Blk.new wr _ _) en_size rfl (by simp [Value.oneCell']) ?_; generalize (wr.alloc (.cells #[.int .i64 0, .int .i64 0, .bool false, .bool false, .slice none 0 0, .int .i64 0, .int .i64 0, .slice none 0 0, .int .i64 0, .int .i64 0, .int .i64 0] 31)).setRow wr.heap.size #[.int .i64 b, .int .i64 e, .bool true, .bool ou, .slice fA fn fc, .int .i64 ti, .int .i64 po, .slice gA gn gc, .int .i64 er, .int .i64 pr, .int .i64 pt] = W1 at *; generalize wr.heap.size = g1 at *))
            have q0 := bx.cell 0
            have q1 := bx.cell 1
            have q2 := bx.cell 2
            clear hc bx h hcel bel
            go_wp2_with fail
            go_ret
            refine ⟨?_, belr⟩
            rw [rightB_not hx.out hbd.out]
            rfl
          | false =>
            cases h3 : decide (e ≤ b) with
            | true =>
              have hbd : Hid (badB ⟨b, e, true, ou, ⟨fA, fn, fc⟩, ti, po, ⟨gA, gn, gc⟩, er, pr, pt⟩ = true) := Lib.hid (by unfold badB; simp [h1, h2, h3])
              replace hc : ∀ j u, ([.int .i64 b, .int .i64 e, .bool true, .bool ou, .slice fA fn fc, .int .i64 ti, .int .i64 po, .slice gA gn gc, .int .i64 er, .int .i64 pr, .int .i64 pt] : List Value)[j]? = some u → wr.cell? ⟨g, o + k * 11 + j, none⟩ = some u := hc
              have bx := (Blk.new wr 31 #[.int .i64 0, .int .i64 0, .bool false, .bool false, .slice none 0 0, .int .i64 0, .int .i64 0, .slice none 0 0, .int .i64 0, .int .i64 0, .int .i64 0]).setRow #[.int .i64 b, .int .i64 e, .bool true, .bool ou, .slice fA fn fc, .int .i64 ti, .int .i64 po, .slice gA gn gc, .int .i64 er, .int .i64 pr, .int .i64 pt]
              have belr := below_setRow (bel.alloc bel.size (.cells #[.int .i64 0, .int .i64 0, .bool false, .bool false, .slice none 0 0, .int .i64 0, .int .i64 0, .slice none 0 0, .int .i64 0, .int .i64 0, .int .i64 0] 31)) bel.size #[.int .i64 b, .int .i64 e, .bool true, .bool ou, .slice fA fn fc, .int .i64 ti, .int .i64 po, .slice gA gn gc, .int .i64 er, .int .i64 pr, .int .i64 pt]
              go_upto_region 4 with (first
                | (refine wpList_ldAt rfl rfl rfl hc Try.underlying31 en_size ?_)
                | (refine wpList_stRow rfl rfl rfl rfl rfl (Blk.new wr _ _) en_size rfl (by simp [Value.oneCell']) ?_; generalize (wr.alloc (.cells #[.int .i64 0, .int .i64 0, .bool false, .bool false, .slice none 0 0, .int .i64 0, .int .i64 0, .slice none 0 0, .int .i64 0, .int .i64 0, .int .i64 0] 31)).setRow wr.heap.size #[.int .i64 b, .int .i64 e, .bool true, .bool ou, .slice fA fn fc, .int .i64 ti, .int .i64 po, .slice gA gn gc, .int .i64 er, .int .i64 pr, .int .i64 pt] = W1 at *; generalize wr.heap.size = g1 at *))
              have q0 := bx.cell 0
              have q1 := bx.cell 1
              have q2 := bx.cell 2
              clear hc bx h hcel bel
              go_wp2_with fail
              go_ret
              refine ⟨?_, belr⟩
              rw [rightB_not hx.out hbd.out]
              rfl
            | false =>
              have hbd : Hid (badB ⟨b, e, true, ou, ⟨fA, fn, fc⟩, ti, po, ⟨gA, gn, gc⟩, er, pr, pt⟩ = false) := Lib.hid (by unfold badB; simp [h1, h2, h3])
              replace hc : ∀ j u, ([.int .i64 b, .int .i64 e, .bool true, .bool ou, .slice fA fn fc, .int .i64 ti, .int .i64 po, .slice gA gn gc, .int .i64 er, .int .i64 pr, .int .i64 pt] : List Value)[j]? = some u → wr.cell? ⟨g, o + k * 11 + j, none⟩ = some u := hc
              have bx := (Blk.new wr 31 #[.int .i64 0, .int .i64 0, .bool false, .bool false, .slice none 0 0, .int .i64 0, .int .i64 0, .slice none 0 0, .int .i64 0, .int .i64 0, .int .i64 0]).setRow #[.int .i64 b, .int .i64 e, .bool true, .bool ou, .slice fA fn fc, .int .i64 ti, .int .i64 po, .slice gA gn gc, .int .i64 er, .int .i64 pr, .int .i64 pt]
              have belr := below_setRow (bel.alloc bel.size (.cells #[.int .i64 0, .int .i64 0, .bool false, .bool false, .slice none 0 0, .int .i64 0, .int .i64 0, .slice none 0 0, .int .i64 0, .int .i64 0, .int .i64 0] 31)) bel.size #[.int .i64 b, .int .i64 e, .bool true, .bool ou, .slice fA fn fc, .int .i64 ti, .int .i64 po, .slice gA gn gc, .int .i64 er, .int .i64 pr, .int .i64 pt]
              go_upto_region 4 with (first
                | (refine wpList_ldAt rfl rfl rfl hc Try.underlying31 en_size ?_)
                | (refine wpList_stRow rfl rfl rfl rfl rfl (Blk.new wr _ _) en_size rfl (by simp [Value.oneCell']) ?_; generalize (wr.alloc (.cells #[.int .i64 0, .int .i64 0, .bool false, .bool false, .slice none 0 0, .int .i64 0, .int .i64 0, .slice none 0 0, .int .i64 0, .int .i64 0, .int .i64 0] 31)).setRow wr.heap.size #[.int .i64 b, .int .i64 e, .bool true, .bool ou, .slice fA fn fc, .int .i64 ti, .int .i64 po, .slice gA gn gc, .int .i64 er, .int .i64 pr, .int .i64 pt] = W1 at *; generalize wr.heap.size = g1 at *))
              have q0 := bx.cell 0
              have q1 := bx.cell 1
              have q2 := bx.cell 2
              clear hc bx h hcel bel
              go_wp2_with fail
              go_roundw
              case rel => exact ⟨k + 1, by omega, by go_num, belr, fun j x hj hjx => by
                rcases Nat.lt_or_ge j k with h | h
                · exact hall.out j x h hjx
                · obtain rfl : j = k := by omega
                  rw [hx.out] at hjx
                  injection hjx with hjx
                  subst hjx
                  exact hbd.out⟩
              case measure => simp [intOf]; omega
        | false =>
          cases h2 : decide (b < 1) with
          | true =>
            have hbd : Hid (badB ⟨b, e, false, ou, ⟨fA, fn, fc⟩, ti, po, ⟨gA, gn, gc⟩, er, pr, pt⟩ = true) := Lib.hid (by unfold badB; simp [h1, h2])
            replace hc : ∀ j u, ([.int .i64 b, .int .i64 e, .bool false, .bool ou, .slice fA fn fc, .int .i64 ti, .int .i64 po, .slice gA gn gc, .int .i64 er, .int .i64 pr, .int .i64 pt] : List Value)[j]? = some u → wr.cell? ⟨g, o + k * 11 + j, none⟩ = some u := hc
            have bx := (Blk.new wr 31 #[.int .i64 0, .int .i64 0, .bool false, .bool false, .slice none 0 0, .int .i64 0, .int .i64 0, .slice none 0 0, .int .i64 0, .int .i64 0, .int .i64 0]).setRow #[.int .i64 b, .int .i64 e, .bool false, .bool ou, .slice fA fn fc, .int .i64 ti, .int .i64 po, .slice gA gn gc, .int .i64 er, .int .i64 pr, .int .i64 pt]
            have belr := below_setRow (bel.alloc bel.size (.cells #[.int .i64 0, .int .i64 0, .bool false, .bool false, .slice none 0 0, .int .i64 0, .int .i64 0, .slice none 0 0, .int .i64 0, .int .i64 0, .int .i64 0] 31)) bel.size #[.int .i64 b, .int .i64 e, .bool false, .bool ou, .slice fA fn fc, .int .i64 ti, .int .i64 po, .slice gA gn gc, .int .i64 er, .int .i64 pr, .int .i64 pt]
            go_upto_region 4 with (first
              | (refine wpList_ldAt rfl rfl rfl hc Try.underlying31 en_size ?_)
              | (refine wpList_stRow rfl rfl rfl rfl rfl (Blk.new wr _ _) en_size rfl (by simp [Value.oneCell']) ?_; generalize (wr.alloc (.cells #[.int .i64 0, .int .i64 0, .bool false, .bool false, .slice none 0 0, .int .i64 0, .int .i64 0, .slice none 0 0, .int .i64 0, .int .i64 0, .int .i64 0] 31)).setRow wr.heap.size #[.int .i64 b, .int .i64 e, .bool false, .bool ou, .slice fA fn fc, .int .i64 ti, .int .i64 po, .slice gA gn gc, .int .i64 er, .int .i64 pr, .int .i64 pt] = W1 at *; generalize wr.heap.size = g1 at *))
            have q0 := bx.cell 0
            have q1 := bx.cell 1
            have q2 := bx.cell 2
            clear hc bx h hcel bel
            go_wp2_with fail
            go_ret
            refine ⟨?_, belr⟩
            rw [rightB_not hx.out hbd.out]
            rfl
          | false =>
            cases h3 : decide (e ≤ b) with
            | true =>
              have hbd : Hid (badB ⟨b, e, false, ou, ⟨fA, fn, fc⟩, ti, po, ⟨gA, gn, gc⟩, er, pr, pt⟩ = false) := Lib.hid (by unfold badB; simp [h1, h2, h3])
              replace hc : ∀ j u, ([.int .i64 b, .int .i64 e, .bool false, .bool ou, .slice fA fn fc, .int .i64 ti, .int .i64 po, .slice gA gn gc, .int .i64 er, .int .i64 pr, .int .i64 pt] : List Value)[j]? = some u → wr.cell? ⟨g, o + k * 11 + j, none⟩ = some u := hc
              have bx := (Blk.new wr 31 #[.int .i64 0, .int .i64 0, .bool false, .bool false, .slice none 0 0, .int .i64 0, .int .i64 0, .slice none 0 0, .int .i64 0, .int .i64 0, .int .i64 0]).setRow #[.int .i64 b, .int .i64 e, .bool false, .bool ou, .slice fA fn fc, .int .i64 ti, .int .i64 po, .slice gA gn gc, .int .i64 er, .int .i64 pr, .int .i64 pt]
              have belr := below_setRow (bel.alloc bel.size (.cells #[.int .i64 0, .int .i64 0, .bool false, .bool false, .slice none 0 0, .int .i64 0, .int .i64 0, .slice none 0 0, .int .i64 0, .int .i64 0, .int .i64 0] 31)) bel.size #[.int .i64 b, .int .i64 e, .bool false, .bool ou, .slice fA fn fc, .int .i64 ti, .int .i64 po, .slice gA gn gc, .int .i64 er, .int .i64 pr, .int .i64 pt]
              go_upto_region 4 with (first
                | (refine wpList_ldAt rfl rfl rfl hc Try.underlying31 en_size ?_)
                | (refine wpList_stRow rfl rfl rfl rfl rfl (Blk.new wr _ _) en_size rfl (by simp [Value.oneCell']) ?_; generalize (wr.alloc (.cells #[.int .i64 0, .int .i64 0, .bool false, .bool false, .slice none 0 0, .int .i64 0, .int .i64 0, .slice none 0 0, .int .i64 0, .int .i64 0, .int .i64 0] 31)).setRow wr.heap.size #[.int .i64 b, .int .i64 e, .bool false, .bool ou, .slice fA fn fc, .int .i64 ti, .int .i64 po, .slice gA gn gc, .int .i64 er, .int .i64 pr, .int .i64 pt] = W1 at *; generalize wr.heap.size = g1 at *))
              have q0 := bx.cell 0
              have q1 := bx.cell 1
              have q2 := bx.cell 2
              clear hc bx h hcel bel
              go_wp2_with fail
              go_roundw
              case rel => exact ⟨k + 1, by omega, by go_num, belr, fun j x hj hjx => by
                rcases Nat.lt_or_ge j k with h | h
                · exact hall.out j x h hjx
                · obtain rfl : j = k := by omega
                  rw [hx.out] at hjx
                  injection hjx with hjx
                  subst hjx
                  exact hbd.out⟩
              case measure => simp [intOf]; omega
            | false =>
              have hbd : Hid (badB ⟨b, e, false, ou, ⟨fA, fn, fc⟩, ti, po, ⟨gA, gn, gc⟩, er, pr, pt⟩ = false) := Lib.hid (by unfold badB; simp [h1, h2, h3])
              replace hc : ∀ j u, ([.int .i64 b, .int .i64 e, .bool false, .bool ou, .slice fA fn fc, .int .i64 ti, .int .i64 po, .slice gA gn gc, .int .i64 er, .int .i64 pr, .int .i64 pt] : List Value)[j]? = some u → wr.cell? ⟨g, o + k * 11 + j, none⟩ = some u := hc
              have bx := (Blk.new wr 31 #[.int .i64 0, .int .i64 0, .bool false, .bool false, .slice none 0 0, .int .i64 0, .int .i64 0, .slice none 0 0, .int .i64 0, .int .i64 0, .int .i64 0]).setRow #[.int .i64 b, .int .i64 e, .bool false, .bool ou, .slice fA fn fc, .int .i64 ti, .int .i64 po, .slice gA gn gc, .int .i64 er, .int .i64 pr, .int .i64 pt]
              have belr := below_setRow (bel.alloc bel.size (.cells #[.int .i64 0, .int .i64 0, .bool false, .bool false, .slice none 0 0, .int .i64 0, .int .i64 0, .slice none 0 0, .int .i64 0, .int .i64 0, .int .i64 0] 31)) bel.size #[.int .i64 b, .int .i64 e, .bool false, .bool ou, .slice fA fn fc, .int .i64 ti, .int .i64 po, .slice gA gn gc, .int .i64 er, .int .i64 pr, .int .i64 pt]
              go_upto_region 4 with (first
                | (refine wpList_ldAt rfl rfl rfl hc Try.underlying31 en_size ?_)
                | (refine wpList_stRow rfl rfl rfl rfl rfl (Blk.new wr _ _) en_size rfl (by simp [Value.oneCell']) ?_; generalize (wr.alloc (.cells #[.int .i64 0, .int .i64 0, .bool false, .bool false, .slice none 0 0, .int .i64 0, .int .i64 0, .slice none 0 0, .int .i64 0, .int .i64 0, .int .i64 0] 31)).setRow wr.heap.size #[.int .i64 b, .int .i64 e, .bool false, .bool ou, .slice fA fn fc, .int .i64 ti, .int .i64 po, .slice gA gn gc, .int .i64 er, .int .i64 pr, .int .i64 pt] = W1 at *; generalize wr.heap.size = g1 at *))
              have q0 := bx.cell 0
              have q1 := bx.cell 1
              have q2 := bx.cell 2
              clear hc bx h hcel bel
              go_wp2_with fail
              go_roundw
              case rel => exact ⟨k + 1, by omega, by go_num, belr, fun j x hj hjx => by
                rcases Nat.lt_or_ge j k with h | h
                · exact hall.out j x h hjx
                · obtain rfl : j = k := by omega
                  rw [hx.out] at hjx
                  injection hjx with hjx
                  subst hjx
                  exact hbd.out⟩
              case measure => simp [intOf]; omega
    · obtain rfl : k = n := by omega
      have d1 : decide ((k : Int) < (k : Int)) = false := by simp
      have d2 : decide (k < k) = false := by simp
      go_wp2
      go_ret
      refine ⟨?_, bel⟩
      rw [rightB_of l (fun j x hj => hall.out j x (by have := (List.getElem?_eq_some_iff.1 hj).1; rw [hn.out] at this; exact this) hj)]
      rfl
end Go.Proofs.Ytjaacmecniijgaa
