/- Every input of HistoryAhead answers true, and reads behind the call as it read before. No condition. -/
import Derived.Test.YtjaacmecniijgaaHist8
import Derived.Test.YtjaacmecniijgaaFrame
import Derived.Deep.MidRow
namespace Go.Proofs.Ytjaacmecniijgaa
set_option linter.unusedVariables false
set_option linter.unusedSimpArgs false
open Go.RowKit
abbrev xl (b e : Int) : List Value := [.int .i64 b, .int .i64 e, .bool false, .bool false, .slice none 0 0, .int .i64 0, .int .i64 0, .slice none 0 0, .int .i64 0, .int .i64 0, .int .i64 0]
abbrev zl : List Value := [.int .i64 0, .int .i64 0, .bool false, .bool false, .slice none 0 0, .int .i64 0, .int .i64 0, .slice none 0 0, .int .i64 0, .int .i64 0, .int .i64 0]
theorem one_xl (b e : Int) : (xl b e).toArray.all (·.oneCell') = true := by simp [Value.oneCell']
def xe (b e : Int) : En := ⟨b, e, false, false, ⟨none, 0, 0⟩, 0, 0, ⟨none, 0, 0⟩, 0, 0, 0⟩
theorem rg_of {w : World} {g : Nat} {t : TypeId} {P X S : List Value} (h : Blk w g t (P ++ (X ++ S)).toArray) {o : Nat} (ho : P.length = o) : ∀ j u, X[j]? = some u → w.cell? ⟨g, o + j, none⟩ = some u := fun j u hu => by
  subst ho
  have hj := (List.getElem?_eq_some_iff.1 hu).1
  rw [h.cell, List.getElem?_toArray, List.getElem?_append_right (by omega), Nat.add_sub_cancel_left, List.getElem?_append_left hj]
  exact hu
theorem blk_splice {g : Nat} {t : TypeId} {S : List Value} : ∀ (X' X P : List Value) (w : World) (o : Nat), Blk w g t (P ++ (X ++ S)).toArray → P.length = o → X'.length = X.length → Blk (w.setCells g o X') g t (P ++ (X' ++ S)).toArray
  | [], [], P, w, o, h, _, _ => h
  | [], _ :: _, P, w, o, _, _, hl => by simp at hl
  | _ :: _, [], P, w, o, _, _, hl => by simp at hl
  | v :: r, u :: X, P, w, o, h, ho, hl => by
    subst ho
    have h1 := h.set_ P.length v
    have e1 : (P ++ (u :: X ++ S)).toArray.setIfInBounds P.length v = ((P ++ [v]) ++ (X ++ S)).toArray := by
      simp [List.set_append_right]
    rw [e1] at h1
    have h2 := blk_splice r X (P ++ [v]) _ (P.length + 1) h1 (by simp) (by simpa using hl)
    rw [World.setCells]
    simpa using h2
theorem there_of {w : World} {g : Nat} {t : TypeId} {P X S : List Value} (h : Blk w g t (P ++ (X ++ S)).toArray) {o n : Nat} (ho : P.length = o) (hn : X.length = n) : w.there g o n := fun j hj => by
  refine ⟨?_, h.frozen _⟩
  rw [rg_of h ho j _ (List.getElem?_eq_getElem (by omega))]; rfl
theorem below_setCells {B : Nat} {w0 w : World} (h : Below B w0 w) {g : Nat} (hg : B ≤ g) : ∀ (vs : List Value) (o : Nat), Below B w0 (w.setCells g o vs) := by
  intro vs
  induction vs generalizing w with
  | nil => intro o; exact h
  | cons v r ih => intro o; rw [World.setCells]; exact ih (h.setCell (p := ⟨g, o, none⟩) hg v) (o + 1)
theorem upd_setCells {S : Nat → Prop} {w0 w : World} (h : Upd S w0 w) {g : Nat} (hg : S g) : ∀ (vs : List Value) (o : Nat), Upd S w0 (w.setCells g o vs) := by
  intro vs
  induction vs generalizing w with
  | nil => intro o; exact h
  | cons v r ih => intro o; rw [World.setCells]; exact ih (h.setCell (p := ⟨g, o, none⟩) (fun _ => hg) v) (o + 1)
section
variable {B0 E0 B1 E1 B2 E2 : Int}
def Ok3 (B0 E0 B1 E1 B2 E2 : Int) : Prop := (1 ≤ B0 ∧ B0 < E0) ∧ (1 ≤ B1 ∧ B1 < E1) ∧ (1 ≤ B2 ∧ B2 < E2)
theorem ah_xe (B E B' E' : Int) (hE : 0 ≤ E) : aheadB (xe B E) (xe B' E') = decide (E < B') := by
  unfold aheadB xe
  have : (E != -1) = true := by simp; omega
  simp [this]
theorem on_xe (B E a : Int) (hE : 0 ≤ E) : onB (xe B E) a = (decide (B ≤ a) && decide (a < E)) := by
  unfold onB xe
  have : (E == -1) = false := by simp; omega
  simp [this]
theorem right3 (h : Ok3 B0 E0 B1 E1 B2 E2) : rightB [xe B0 E0, xe B1 E1, xe B2 E2] = true := by
  obtain ⟨⟨a1, a2⟩, ⟨b1, b2⟩, c1, c2⟩ := h
  have k : ∀ B E : Int, 1 ≤ B → B < E → badB (xe B E) = false := fun B E h1 h2 => by
    unfold badB xe
    have e1 : decide (B < 1) = false := by simp; omega
    have e2 : decide (E ≤ B) = false := by simp; omega
    simp [e1, e2]
  simp [rightB, k _ _ a1 a2, k _ _ b1 b2, k _ _ c1 c2]
def on3 (B E a : Int) : Nat := if B ≤ a ∧ a < E then 1 else 0
theorem cnt3 (h : Ok3 B0 E0 B1 E1 B2 E2) (a : Int) : cntL [xe B0 E0, xe B1 E1, xe B2 E2] a = on3 B0 E0 a + on3 B1 E1 a + on3 B2 E2 a := by
  obtain ⟨⟨a1, a2⟩, ⟨b1, b2⟩, c1, c2⟩ := h
  unfold cntL
  have k : ∀ B E : Int, 0 ≤ E → ∀ l : List En, ((xe B E :: l).filter fun x => onB x a).length = on3 B E a + (l.filter fun x => onB x a).length := fun B E hE l => by
    rw [List.filter_cons, on_xe B E a hE]
    unfold on3
    by_cases h1 : B ≤ a ∧ a < E
    · rw [if_pos h1]; simp [h1.1, h1.2]; omega
    · rw [if_neg h1, if_neg (by simpa using h1)]; omega
  rw [k _ _ (by omega), k _ _ (by omega), k _ _ (by omega)]
  simp; omega
theorem width3 (h : Ok3 B0 E0 B1 E1 B2 E2) : widthL [xe B0 E0, xe B1 E1, xe B2 E2] = max (max (on3 B0 E0 B0 + on3 B1 E1 B0 + on3 B2 E2 B0) (on3 B0 E0 B1 + on3 B1 E1 B1 + on3 B2 E2 B1)) (on3 B0 E0 B2 + on3 B1 E1 B2 + on3 B2 E2 B2) := by
  unfold widthL widL
  rw [right3 h]
  simp only [if_true, List.length_cons, List.length_nil, List.take, List.foldl_cons, List.foldl_nil, cnt3 h]
  simp [xe]
theorem width_bd (h : Ok3 B0 E0 B1 E1 B2 E2) : 1 ≤ widthL [xe B0 E0, xe B1 E1, xe B2 E2] ∧ widthL [xe B0 E0, xe B1 E1, xe B2 E2] ≤ 3 := by
  have hw := width3 h
  obtain ⟨⟨a1, a2⟩, ⟨b1, b2⟩, c1, c2⟩ := h
  have k : ∀ B E a : Int, on3 B E a ≤ 1 := fun B E a => by unfold on3; split <;> omega
  have k0 : on3 B0 E0 B0 = 1 := by unfold on3; rw [if_pos ⟨by omega, by omega⟩]
  have := k B1 E1 B0
  have := k B2 E2 B0
  have := k B0 E0 B1
  have := k B1 E1 B1
  have := k B2 E2 B1
  have := k B0 E0 B2
  have := k B1 E1 B2
  have := k B2 E2 B2
  omega
theorem width_one (h : Ok3 B0 E0 B1 E1 B2 E2) (h1 : E0 < B1) (h2 : E1 < B2) : widthL [xe B0 E0, xe B1 E1, xe B2 E2] = 1 := by
  have hw := width3 h
  obtain ⟨⟨a1, a2⟩, ⟨b1, b2⟩, c1, c2⟩ := h
  have p : ∀ B E a : Int, B ≤ a → a < E → on3 B E a = 1 := fun B E a x y => by unfold on3; rw [if_pos ⟨x, y⟩]
  have q : ∀ B E a : Int, (a < B ∨ E ≤ a) → on3 B E a = 0 := fun B E a x => by unfold on3; rw [if_neg (by omega)]
  rw [p B0 E0 B0 (by omega) (by omega), q B1 E1 B0 (by omega), q B2 E2 B0 (by omega), q B0 E0 B1 (by omega), p B1 E1 B1 (by omega) (by omega), q B2 E2 B1 (by omega), q B0 E0 B2 (by omega), q B1 E1 B2 (by omega), p B2 E2 B2 (by omega) (by omega)] at hw
  omega
end
/-- the three under way -/
structure AhS (w W : World) (bx : Array Value) (A : List Value) (o : Value) (l : List En) : Prop where
  bx : Blk W w.heap.size 43 bx
  ar : Blk W (w.heap.size + 1) 44 A.toArray
  row : OwnT En.cs 11 31 W (w.heap.size + 2) o l
  bel : Below w.heap.size w W
theorem AhS.lt {w W : World} {bx : Array Value} {A : List Value} {o : Value} {l : List En} (h : AhS w W bx A o l) : w.heap.size + 2 ≤ W.heap.size := h.ar.lt
theorem wpList_ldAtG {P : Program} {ops : Array Oper} {Q : Exit → Act → World → Prop} {a : Act} {w : World} {rest : List Oper} {o : Oper} (hg : Region.wanted o (yielded ops a.tmps) = true) {t : TypeId} {p : Operand} (ho : o.op = .load t p) {g i : Nat} (hp : a.eval p = .pointer (some ⟨g, i, none⟩)) {cs : List Value}
    (hc : ∀ j u, cs[j]? = some u → w.cell? ⟨g, i + j, none⟩ = some u) {fs : Array Field} (hu : P.underlying t = some (.struct fs)) (hi : (P.info? t).map (·.size) = some cs.length) (h : wpList P ops Q rest (a.put o.dst (.agg cs.toArray)) w) : wpList P ops Q (o :: rest) a w := by
  refine wpList_step fun K hK => ?_
  rw [if_pos hg]
  have hr : (execOp a.eval o).run P w = .ok (.value (.agg cs.toArray)) w := by
    have h2 := run_load_at (P := P) hc hu hi
    simp only [execOp, ho, hp, Instr.loadAt, Instr.sureAddr, Sem.run_bind, Sem.run_pure, Result.andThen, h2]
  unfold Oper.wp
  rw [hr, Oper.upon_value]
  exact hK _ _ h
theorem hA_lit (X Y X' Y' : Int) (W : World) (h : 0 ≤ Y) : Calls Try.prog 12 #[.agg (xl X Y).toArray, .agg (xl X' Y').toArray] W fun e w' => e = .returned (.bool (decide (Y < X'))) ∧ Below W.heap.size W w' := by
  have := Ahead_any (xe X Y) (xe X' Y') W
  rw [ah_xe _ _ _ _ h] at this
  exact this
set_option maxRecDepth 100000 in
set_option maxHeartbeats 8000000 in
theorem HistoryAhead_walk (y0 y1 y2 y3 y4 y5 : Int) (w : World) :
    Calls Try.prog 4 #[.agg #[.int .i64 y0, .int .i64 y1, .int .i64 y2, .int .i64 y3, .int .i64 y4, .int .i64 y5]] w fun e w' => e = .returned (.bool true) ∧ Below w.heap.size w w' := by
  obtain ⟨i0, hi, hz0, hz1, hz2⟩ := info_parts en_info
  obtain ⟨p0, hp0, hq0⟩ := modn y0 50 (by omega)
  obtain ⟨p1, hp1, hq1⟩ := modn y1 50 (by omega)
  obtain ⟨p2, hp2, hq2⟩ := modn y2 50 (by omega)
  obtain ⟨p3, hp3, hq3⟩ := modn y3 50 (by omega)
  obtain ⟨p4, hp4, hq4⟩ := modn y4 50 (by omega)
  obtain ⟨p5, hp5, hq5⟩ := modn y5 50 (by omega)
  have v0 : Value.int .u64 ((IntKind.u64.wrap y0).tmod 50) = .int .u64 (p0 : Int) := by rw [hp0]
  have v1 : Value.int .u64 ((IntKind.u64.wrap y1).tmod 50) = .int .u64 (p1 : Int) := by rw [hp1]
  have v2 : Value.int .u64 ((IntKind.u64.wrap y2).tmod 50) = .int .u64 (p2 : Int) := by rw [hp2]
  have v3 : Value.int .u64 ((IntKind.u64.wrap y3).tmod 50) = .int .u64 (p3 : Int) := by rw [hp3]
  have v4 : Value.int .u64 ((IntKind.u64.wrap y4).tmod 50) = .int .u64 (p4 : Int) := by rw [hp4]
  have v5 : Value.int .u64 ((IntKind.u64.wrap y5).tmod 50) = .int .u64 (p5 : Int) := by rw [hp5]
  obtain ⟨B0, hB0⟩ : ∃ B : Int, 1 + (p0 : Int) = B := ⟨_, rfl⟩
  obtain ⟨E0, hE0⟩ : ∃ E : Int, B0 + 1 + (p1 : Int) = E := ⟨_, rfl⟩
  obtain ⟨B1, hB1⟩ : ∃ B : Int, 1 + (p2 : Int) = B := ⟨_, rfl⟩
  obtain ⟨E1, hE1⟩ : ∃ E : Int, B1 + 1 + (p3 : Int) = E := ⟨_, rfl⟩
  obtain ⟨B2, hB2⟩ : ∃ B : Int, 1 + (p4 : Int) = B := ⟨_, rfl⟩
  obtain ⟨E2, hE2⟩ : ∃ E : Int, B2 + 1 + (p5 : Int) = E := ⟨_, rfl⟩
  have b0 : 1 ≤ B0 ∧ B0 ≤ 50 := by omega
  have b1 : 1 ≤ B1 ∧ B1 ≤ 50 := by omega
  have b2 : 1 ≤ B2 ∧ B2 ≤ 50 := by omega
  have c0 : B0 < E0 ∧ E0 ≤ 100 := by omega
  have c1 : B1 < E1 ∧ E1 ≤ 100 := by omega
  have c2 : B2 < E2 ∧ E2 ≤ 100 := by omega
  clear hp0 hp1 hp2 hp3 hp4 hp5
  go_enter Try.func4, Try.ntmps4
  go_upto_region 3 with fail
  have hs : AhS w ((w.alloc (.cells #[.int .i64 y0, .int .i64 y1, .int .i64 y2, .int .i64 y3, .int .i64 y4, .int .i64 y5] 43)).alloc (.cells #[.int .i64 0, .int .i64 0, .bool false, .bool false, .slice none 0 0, .int .i64 0, .int .i64 0, .slice none 0 0, .int .i64 0, .int .i64 0, .int .i64 0, .int .i64 0, .int .i64 0, .bool false, .bool false, .slice none 0 0, .int .i64 0, .int .i64 0, .slice none 0 0, .int .i64 0, .int .i64 0, .int .i64 0, .int .i64 0, .int .i64 0, .bool false, .bool false, .slice none 0 0, .int .i64 0, .int .i64 0, .slice none 0 0, .int .i64 0, .int .i64 0, .int .i64 0] 44)) #[.int .i64 y0, .int .i64 y1, .int .i64 y2, .int .i64 y3, .int .i64 y4, .int .i64 y5] (zl ++ (zl ++ zl)) (.slice none 0 0) [] :=
    ⟨(Blk.new _ _ _).alloc _, by have := Blk.new (w.alloc (.cells #[.int .i64 y0, .int .i64 y1, .int .i64 y2, .int .i64 y3, .int .i64 y4, .int .i64 y5] 43)) 44 #[.int .i64 0, .int .i64 0, .bool false, .bool false, .slice none 0 0, .int .i64 0, .int .i64 0, .slice none 0 0, .int .i64 0, .int .i64 0, .int .i64 0, .int .i64 0, .int .i64 0, .bool false, .bool false, .slice none 0 0, .int .i64 0, .int .i64 0, .slice none 0 0, .int .i64 0, .int .i64 0, .int .i64 0, .int .i64 0, .int .i64 0, .bool false, .bool false, .slice none 0 0, .int .i64 0, .int .i64 0, .slice none 0 0, .int .i64 0, .int .i64 0, .int .i64 0]; rw [show (w.alloc (.cells #[.int .i64 y0, .int .i64 y1, .int .i64 y2, .int .i64 y3, .int .i64 y4, .int .i64 y5] 43)).heap.size = w.heap.size + 1 by simp] at this; exact this, ⟨World.ownsRow_nil _ _ _ _⟩, (bel_alloc _ _).alloc (by simp) _⟩
  generalize (w.alloc (.cells #[.int .i64 y0, .int .i64 y1, .int .i64 y2, .int .i64 y3, .int .i64 y4, .int .i64 y5] 43)).alloc (.cells #[.int .i64 0, .int .i64 0, .bool false, .bool false, .slice none 0 0, .int .i64 0, .int .i64 0, .slice none 0 0, .int .i64 0, .int .i64 0, .int .i64 0, .int .i64 0, .int .i64 0, .bool false, .bool false, .slice none 0 0, .int .i64 0, .int .i64 0, .slice none 0 0, .int .i64 0, .int .i64 0, .int .i64 0, .int .i64 0, .int .i64 0, .bool false, .bool false, .slice none 0 0, .int .i64 0, .int .i64 0, .slice none 0 0, .int .i64 0, .int .i64 0, .int .i64 0] 44) = W at *
  go_wp2
  go_loopw [4, 5] (fun o i wr => (i = .int .i64 0 ∧ AhS w wr #[.int .i64 y0, .int .i64 y1, .int .i64 y2, .int .i64 y3, .int .i64 y4, .int .i64 y5] (zl ++ (zl ++ zl)) o []) ∨ (i = .int .i64 1 ∧ AhS w wr #[.int .i64 y0, .int .i64 y1, .int .i64 y2, .int .i64 y3, .int .i64 y4, .int .i64 y5] ((xl B0 E0) ++ (zl ++ zl)) o [xe B0 E0]) ∨
    (i = .int .i64 2 ∧ AhS w wr #[.int .i64 y0, .int .i64 y1, .int .i64 y2, .int .i64 y3, .int .i64 y4, .int .i64 y5] ((xl B0 E0) ++ ((xl B1 E1) ++ zl)) o [xe B0 E0, xe B1 E1]) ∨ (i = .int .i64 3 ∧ AhS w wr #[.int .i64 y0, .int .i64 y1, .int .i64 y2, .int .i64 y3, .int .i64 y4, .int .i64 y5] ((xl B0 E0) ++ ((xl B1 E1) ++ (xl B2 E2))) o [xe B0 E0, xe B1 E1, xe B2 E2])) (fun _ i _ => (3 - intOf i).toNat)
  case atStart => exact .inl ⟨rfl, hs⟩
  case round =>
    clear hs
    rcases hrel with ⟨rfl, hs⟩ | ⟨rfl, hs⟩ | ⟨rfl, hs⟩ | ⟨rfl, hs⟩
    · have hsz := hs.lt
      have q0 := hs.bx.cell 0
      have har : Blk wr (w.heap.size + 1) 44 (([] : List Value) ++ (zl ++ (zl ++ zl))).toArray := hs.ar
      have hth : wr.there (w.heap.size + 1) 0 ((xl B0 0)).toArray.size := there_of (P := ([] : List Value)) (X := zl) (S := (zl ++ zl)) (n := 11) har (o := 0) rfl rfl
      have ar1 := blk_splice (xl B0 0) zl ([] : List Value) _ 0 har rfl rfl
      have bx1 := hs.bx.upd (upd_setCells (Upd.refl (fun k => k = w.heap.size + 1) _) (g := w.heap.size + 1) rfl (xl B0 0) 0) (by omega)
      have row1 := hs.row.upd (upd_setCells (Upd.refl (fun k => k = w.heap.size + 1) _) (g := w.heap.size + 1) rfl (xl B0 0) 0) (fun g e h => by have := (hs.row.lt g e).1; omega)
      have bel1 := below_setCells hs.bel (g := w.heap.size + 1) (by omega) (xl B0 0) 0
      clear hs har
      have hst : ∀ (ops : Array Oper) (rest : List Oper) (op : Oper) (a : Act) (Q : Exit → Act → World → Prop), (∃ x y, op.dst = none ∧ op.guard = none ∧ op.op = .store 31 x y ∧ a.eval x = .pointer (some ⟨w.heap.size + 1, 0, none⟩) ∧ a.eval y = .agg (xl B0 0).toArray) → wpList Try.prog ops Q rest a (wr.setCells (w.heap.size + 1) 0 (xl B0 0)) → wpList Try.prog ops Q (op :: rest) a wr :=
        fun ops rest op a Q ⟨x, y, g0, g1, g2, g3, g4⟩ h => wpList_store_mid g1 31 x y g2 _ 0 (xl B0 0).toArray g3 g4 hth en_size (one_xl _ _) (by rw [g0]; exact h)
      go_upto_region 7 with (with_reducible refine hst _ _ _ _ _ ?_ ?_; exact ⟨_, _, rfl, rfl, rfl, rfl, rfl⟩; generalize wr.setCells (w.heap.size + 1) 0 (xl B0 0) = W1 at *)
      clear hst
      clear q0 hth
      replace bx1 := bx1.drew
      replace ar1 := ar1.drew
      replace row1 := row1.drew
      replace bel1 := bel1.drew
      have hcb := ar1.cell 0
      have hcy := bx1.cell 1
      have z1 : ∀ t : Tw (fun w' => w'.cell? ⟨w.heap.size + 1, 0, none⟩ = some (.int .i64 B0) ∧ w'.cell? ⟨w.heap.size, 1, none⟩ = some (.int .i64 y1)), t.w.cell? ⟨w.heap.size + 1, 0, none⟩ = some (.int .i64 B0) := fun t => t.h.1
      have z2 : ∀ t : Tw (fun w' => w'.cell? ⟨w.heap.size + 1, 0, none⟩ = some (.int .i64 B0) ∧ w'.cell? ⟨w.heap.size, 1, none⟩ = some (.int .i64 y1)), t.w.cell? ⟨w.heap.size, 1, none⟩ = some (.int .i64 y1) := fun t => t.h.2
      have zz : Nonempty (Tw (fun w' => w'.cell? ⟨w.heap.size + 1, 0, none⟩ = some (.int .i64 B0) ∧ w'.cell? ⟨w.heap.size, 1, none⟩ = some (.int .i64 y1))) := ⟨⟨_, hcb, hcy⟩⟩
      refine wp_region_planT (fun w' => w'.cell? ⟨w.heap.size + 1, 0, none⟩ = some (.int .i64 B0) ∧ w'.cell? ⟨w.heap.size, 1, none⟩ = some (.int .i64 y1)) [(0, true), (1, true), (2, true), (3, true), (4, true), (5, true), (6, true), (7, true), (8, true), (9, true), (10, true), (11, true), (12, true), (13, true), (14, true), (15, true)] [16] (by kernel_rfl) (by kernel_rfl) (by kernel_rfl) (by kernel_rfl) ⟨hcb, hcy⟩ ?_
      generalize W1.drew = W2 at *
      clear hcb hcy
      refine wpPh_qs 16 _ _ _ (by kernel_rfl) (by kernel_rfl) (by simp) ?_
      unfold clsS
      simp only [List.take_succ_cons, List.take_zero, List.drop_succ_cons, List.drop_zero, List.filterMap_cons, List.filterMap_nil, List.getElem?_toArray, List.getElem?_cons_zero, List.getElem?_cons_succ]
      repeat (first
        | go_big_quiet_skip
        | (go_big_quiet_want; go_big_quiet_op; go_big_quiet_on)
        | (refine id (?_ : wpQuiet _ _ _ _ (_ :: _) _); first | go_big_quiet_skip | (go_big_quiet_want; go_big_quiet_op; go_big_quiet_on)))
      refine wpQuiet_nil ?_
      unfold wpPh
      refine wpPt_e _ (by rfl) (by kernel_rfl) (fun K hK => ?_)
      have cE := ar1.cell (0 + 1)
      have fE := ar1.frozen (0 + 1)
      simp only [Nat.reduceAdd] at cE fE
      go_simp
      have ar2 : Blk (W2.setCell ⟨w.heap.size + 1, 0 + 1, none⟩ (.int .i64 E0)) (w.heap.size + 1) 44 (([] : List Value) ++ (xl B0 E0 ++ (zl ++ zl))).toArray := ar1.set_ (0 + 1) (.int .i64 E0)
      have bx2 := bx1.upd (upd_setCells (Upd.refl (fun k => k = w.heap.size + 1) _) (g := w.heap.size + 1) rfl [.int .i64 E0] (0 + 1)) (by omega)
      have row2 := row1.upd (upd_setCells (Upd.refl (fun k => k = w.heap.size + 1) _) (g := w.heap.size + 1) rfl [.int .i64 E0] (0 + 1)) (fun g e h => by have := (row1.lt g e).1; omega)
      have bel2 := below_setCells bel1 (g := w.heap.size + 1) (by omega) [.int .i64 E0] (0 + 1)
      simp only [World.setCells, Nat.reduceAdd] at ar2 bx2 row2 bel2
      refine hK _ _ ?_
      clear hK K cE fE z1 z2 zz ar1 bx1 row1 bel1
      generalize W2.setCell ⟨w.heap.size + 1, _, none⟩ (.int .i64 E0) = W3 at *
      unfold wpPt
      refine NoPanic.normal ?_
      have hc := rg_of (P := ([] : List Value)) (X := xl B0 E0) (S := (zl ++ zl)) (o := 0) ar2 rfl
      have hla := bel_alloc W3 (.cells #[.int .i64 B0, .int .i64 E0, .bool false, .bool false, .slice none 0 0, .int .i64 0, .int .i64 0, .slice none 0 0, .int .i64 0, .int .i64 0, .int .i64 0] 31)
      have hxr := RdT.new (cs := En.cs) (sz := 11) En.cs_len W3 31 [xe B0 E0] #[.int .i64 B0, .int .i64 E0, .bool false, .bool false, .slice none 0 0, .int .i64 0, .int .i64 0, .slice none 0 0, .int .i64 0, .int .i64 0, .int .i64 0] rfl 1 rfl
      have own3 := row2.below hla
      have bel3 := bel_after bel2 hla
      have bx3 := bx2.bel hla
      have ar3 := ar2.bel hla
      have hsz3 := ar3.lt
      clear hla ar2 bx2 row2 bel2
      go_wp2_with (first | (refine wpList_ldAt rfl rfl rfl hc Try.underlying31 en_size ?_; clear hc) | (at_builtin; generalize W3.alloc (.cells #[.int .i64 B0, .int .i64 E0, .bool false, .bool false, .slice none 0 0, .int .i64 0, .int .i64 0, .slice none 0 0, .int .i64 0, .int .i64 0, .int .i64 0] 31) = W4 at *; refine wpList_appT En.cs_len En.cs_one (by decide) _ rfl (.tmp 40) (.tmp 44) 23 rfl (w.heap.size + 2) 31 i0 (.agg #[.int .i64 0, .int .i64 0, .bool false, .bool false, .slice none 0 0, .int .i64 0, .int .i64 0, .slice none 0 0, .int .i64 0, .int .i64 0, .int .i64 0]) 120 Try.underlying23 hi hz0 hz1 hz2 rfl _ rfl ([] : List En) own3 _ _ 1 1 rfl [xe B0 E0] hxr (by simp) (by decide) (by omega) ?_; intro v4 w4 own4 hg4 hv4))
      have hu4 := Upd.of_grown (S := fun k => w.heap.size + 2 ≤ k) hg4 (fun g e => (own3.lt g e).1)
      have bel4 := bel3.trans (hu4.below bel3.size (fun k hk => by omega))
      have bx4 := bx3.upd hu4 (by omega)
      have ar4 := ar3.upd hu4 (by omega)
      go_roundw
      case rel => exact .inr (.inl ⟨by go_num, bx4, ar4, own4, bel4⟩)
      case measure => simp [intOf]
    · have hsz := hs.lt
      have q0 := hs.bx.cell 2
      have har : Blk wr (w.heap.size + 1) 44 ((xl B0 E0) ++ (zl ++ zl)).toArray := hs.ar
      have hth : wr.there (w.heap.size + 1) 11 ((xl B1 0)).toArray.size := there_of (P := (xl B0 E0)) (X := zl) (S := zl) (n := 11) har (o := 11) rfl rfl
      have ar1 := blk_splice (xl B1 0) zl (xl B0 E0) _ 11 har rfl rfl
      have bx1 := hs.bx.upd (upd_setCells (Upd.refl (fun k => k = w.heap.size + 1) _) (g := w.heap.size + 1) rfl (xl B1 0) 11) (by omega)
      have row1 := hs.row.upd (upd_setCells (Upd.refl (fun k => k = w.heap.size + 1) _) (g := w.heap.size + 1) rfl (xl B1 0) 11) (fun g e h => by have := (hs.row.lt g e).1; omega)
      have bel1 := below_setCells hs.bel (g := w.heap.size + 1) (by omega) (xl B1 0) 11
      clear hs har
      have hst : ∀ (ops : Array Oper) (rest : List Oper) (op : Oper) (a : Act) (Q : Exit → Act → World → Prop), (∃ x y, op.dst = none ∧ op.guard = none ∧ op.op = .store 31 x y ∧ a.eval x = .pointer (some ⟨w.heap.size + 1, 11, none⟩) ∧ a.eval y = .agg (xl B1 0).toArray) → wpList Try.prog ops Q rest a (wr.setCells (w.heap.size + 1) 11 (xl B1 0)) → wpList Try.prog ops Q (op :: rest) a wr :=
        fun ops rest op a Q ⟨x, y, g0, g1, g2, g3, g4⟩ h => wpList_store_mid g1 31 x y g2 _ 11 (xl B1 0).toArray g3 g4 hth en_size (one_xl _ _) (by rw [g0]; exact h)
      go_upto_region 7 with (with_reducible refine hst _ _ _ _ _ ?_ ?_; exact ⟨_, _, rfl, rfl, rfl, rfl, rfl⟩; generalize wr.setCells (w.heap.size + 1) 11 (xl B1 0) = W1 at *)
      clear hst
      clear q0 hth
      replace bx1 := bx1.drew
      replace ar1 := ar1.drew
      replace row1 := row1.drew
      replace bel1 := bel1.drew
      have hcb := ar1.cell 11
      have hcy := bx1.cell 3
      have z1 : ∀ t : Tw (fun w' => w'.cell? ⟨w.heap.size + 1, 11, none⟩ = some (.int .i64 B1) ∧ w'.cell? ⟨w.heap.size, 3, none⟩ = some (.int .i64 y3)), t.w.cell? ⟨w.heap.size + 1, 11, none⟩ = some (.int .i64 B1) := fun t => t.h.1
      have z2 : ∀ t : Tw (fun w' => w'.cell? ⟨w.heap.size + 1, 11, none⟩ = some (.int .i64 B1) ∧ w'.cell? ⟨w.heap.size, 3, none⟩ = some (.int .i64 y3)), t.w.cell? ⟨w.heap.size, 3, none⟩ = some (.int .i64 y3) := fun t => t.h.2
      have zz : Nonempty (Tw (fun w' => w'.cell? ⟨w.heap.size + 1, 11, none⟩ = some (.int .i64 B1) ∧ w'.cell? ⟨w.heap.size, 3, none⟩ = some (.int .i64 y3))) := ⟨⟨_, hcb, hcy⟩⟩
      refine wp_region_planT (fun w' => w'.cell? ⟨w.heap.size + 1, 11, none⟩ = some (.int .i64 B1) ∧ w'.cell? ⟨w.heap.size, 3, none⟩ = some (.int .i64 y3)) [(0, true), (1, true), (2, true), (3, true), (4, true), (5, true), (6, true), (7, true), (8, true), (9, true), (10, true), (11, true), (12, true), (13, true), (14, true), (15, true)] [16] (by kernel_rfl) (by kernel_rfl) (by kernel_rfl) (by kernel_rfl) ⟨hcb, hcy⟩ ?_
      generalize W1.drew = W2 at *
      clear hcb hcy
      refine wpPh_qs 16 _ _ _ (by kernel_rfl) (by kernel_rfl) (by simp) ?_
      unfold clsS
      simp only [List.take_succ_cons, List.take_zero, List.drop_succ_cons, List.drop_zero, List.filterMap_cons, List.filterMap_nil, List.getElem?_toArray, List.getElem?_cons_zero, List.getElem?_cons_succ]
      repeat (first
        | go_big_quiet_skip
        | (go_big_quiet_want; go_big_quiet_op; go_big_quiet_on)
        | (refine id (?_ : wpQuiet _ _ _ _ (_ :: _) _); first | go_big_quiet_skip | (go_big_quiet_want; go_big_quiet_op; go_big_quiet_on)))
      refine wpQuiet_nil ?_
      unfold wpPh
      refine wpPt_e _ (by rfl) (by kernel_rfl) (fun K hK => ?_)
      have cE := ar1.cell (11 + 1)
      have fE := ar1.frozen (11 + 1)
      simp only [Nat.reduceAdd] at cE fE
      go_simp
      have ar2 : Blk (W2.setCell ⟨w.heap.size + 1, 11 + 1, none⟩ (.int .i64 E1)) (w.heap.size + 1) 44 ((xl B0 E0) ++ (xl B1 E1 ++ zl)).toArray := ar1.set_ (11 + 1) (.int .i64 E1)
      have bx2 := bx1.upd (upd_setCells (Upd.refl (fun k => k = w.heap.size + 1) _) (g := w.heap.size + 1) rfl [.int .i64 E1] (11 + 1)) (by omega)
      have row2 := row1.upd (upd_setCells (Upd.refl (fun k => k = w.heap.size + 1) _) (g := w.heap.size + 1) rfl [.int .i64 E1] (11 + 1)) (fun g e h => by have := (row1.lt g e).1; omega)
      have bel2 := below_setCells bel1 (g := w.heap.size + 1) (by omega) [.int .i64 E1] (11 + 1)
      simp only [World.setCells, Nat.reduceAdd] at ar2 bx2 row2 bel2
      refine hK _ _ ?_
      clear hK K cE fE z1 z2 zz ar1 bx1 row1 bel1
      generalize W2.setCell ⟨w.heap.size + 1, _, none⟩ (.int .i64 E1) = W3 at *
      unfold wpPt
      refine NoPanic.normal ?_
      have hc := rg_of (P := (xl B0 E0)) (X := xl B1 E1) (S := zl) (o := 11) ar2 rfl
      have hla := bel_alloc W3 (.cells #[.int .i64 B1, .int .i64 E1, .bool false, .bool false, .slice none 0 0, .int .i64 0, .int .i64 0, .slice none 0 0, .int .i64 0, .int .i64 0, .int .i64 0] 31)
      have hxr := RdT.new (cs := En.cs) (sz := 11) En.cs_len W3 31 [xe B1 E1] #[.int .i64 B1, .int .i64 E1, .bool false, .bool false, .slice none 0 0, .int .i64 0, .int .i64 0, .slice none 0 0, .int .i64 0, .int .i64 0, .int .i64 0] rfl 1 rfl
      have own3 := row2.below hla
      have bel3 := bel_after bel2 hla
      have bx3 := bx2.bel hla
      have ar3 := ar2.bel hla
      have hsz3 := ar3.lt
      clear hla ar2 bx2 row2 bel2
      go_wp2_with (first | (refine wpList_ldAt rfl rfl rfl hc Try.underlying31 en_size ?_; clear hc) | (at_builtin; generalize W3.alloc (.cells #[.int .i64 B1, .int .i64 E1, .bool false, .bool false, .slice none 0 0, .int .i64 0, .int .i64 0, .slice none 0 0, .int .i64 0, .int .i64 0, .int .i64 0] 31) = W4 at *; refine wpList_appT En.cs_len En.cs_one (by decide) _ rfl (.tmp 40) (.tmp 44) 23 rfl (w.heap.size + 2) 31 i0 (.agg #[.int .i64 0, .int .i64 0, .bool false, .bool false, .slice none 0 0, .int .i64 0, .int .i64 0, .slice none 0 0, .int .i64 0, .int .i64 0, .int .i64 0]) 120 Try.underlying23 hi hz0 hz1 hz2 rfl _ rfl ([xe B0 E0]) own3 _ _ 1 1 rfl [xe B1 E1] hxr (by simp) (by decide) (by omega) ?_; intro v4 w4 own4 hg4 hv4))
      have hu4 := Upd.of_grown (S := fun k => w.heap.size + 2 ≤ k) hg4 (fun g e => (own3.lt g e).1)
      have bel4 := bel3.trans (hu4.below bel3.size (fun k hk => by omega))
      have bx4 := bx3.upd hu4 (by omega)
      have ar4 := ar3.upd hu4 (by omega)
      go_roundw
      case rel => exact .inr (.inr (.inl ⟨by go_num, bx4, ar4, own4, bel4⟩))
      case measure => simp [intOf]
    · have hsz := hs.lt
      have q0 := hs.bx.cell 4
      have har : Blk wr (w.heap.size + 1) 44 ((xl B0 E0 ++ xl B1 E1) ++ (zl ++ ([] : List Value))).toArray := hs.ar
      have hth : wr.there (w.heap.size + 1) 22 ((xl B2 0)).toArray.size := there_of (P := (xl B0 E0 ++ xl B1 E1)) (X := zl) (S := ([] : List Value)) (n := 11) har (o := 22) rfl rfl
      have ar1 := blk_splice (xl B2 0) zl (xl B0 E0 ++ xl B1 E1) _ 22 har rfl rfl
      have bx1 := hs.bx.upd (upd_setCells (Upd.refl (fun k => k = w.heap.size + 1) _) (g := w.heap.size + 1) rfl (xl B2 0) 22) (by omega)
      have row1 := hs.row.upd (upd_setCells (Upd.refl (fun k => k = w.heap.size + 1) _) (g := w.heap.size + 1) rfl (xl B2 0) 22) (fun g e h => by have := (hs.row.lt g e).1; omega)
      have bel1 := below_setCells hs.bel (g := w.heap.size + 1) (by omega) (xl B2 0) 22
      clear hs har
      have hst : ∀ (ops : Array Oper) (rest : List Oper) (op : Oper) (a : Act) (Q : Exit → Act → World → Prop), (∃ x y, op.dst = none ∧ op.guard = none ∧ op.op = .store 31 x y ∧ a.eval x = .pointer (some ⟨w.heap.size + 1, 22, none⟩) ∧ a.eval y = .agg (xl B2 0).toArray) → wpList Try.prog ops Q rest a (wr.setCells (w.heap.size + 1) 22 (xl B2 0)) → wpList Try.prog ops Q (op :: rest) a wr :=
        fun ops rest op a Q ⟨x, y, g0, g1, g2, g3, g4⟩ h => wpList_store_mid g1 31 x y g2 _ 22 (xl B2 0).toArray g3 g4 hth en_size (one_xl _ _) (by rw [g0]; exact h)
      go_upto_region 7 with (with_reducible refine hst _ _ _ _ _ ?_ ?_; exact ⟨_, _, rfl, rfl, rfl, rfl, rfl⟩; generalize wr.setCells (w.heap.size + 1) 22 (xl B2 0) = W1 at *)
      clear hst
      clear q0 hth
      replace bx1 := bx1.drew
      replace ar1 := ar1.drew
      replace row1 := row1.drew
      replace bel1 := bel1.drew
      have hcb := ar1.cell 22
      have hcy := bx1.cell 5
      have z1 : ∀ t : Tw (fun w' => w'.cell? ⟨w.heap.size + 1, 22, none⟩ = some (.int .i64 B2) ∧ w'.cell? ⟨w.heap.size, 5, none⟩ = some (.int .i64 y5)), t.w.cell? ⟨w.heap.size + 1, 22, none⟩ = some (.int .i64 B2) := fun t => t.h.1
      have z2 : ∀ t : Tw (fun w' => w'.cell? ⟨w.heap.size + 1, 22, none⟩ = some (.int .i64 B2) ∧ w'.cell? ⟨w.heap.size, 5, none⟩ = some (.int .i64 y5)), t.w.cell? ⟨w.heap.size, 5, none⟩ = some (.int .i64 y5) := fun t => t.h.2
      have zz : Nonempty (Tw (fun w' => w'.cell? ⟨w.heap.size + 1, 22, none⟩ = some (.int .i64 B2) ∧ w'.cell? ⟨w.heap.size, 5, none⟩ = some (.int .i64 y5))) := ⟨⟨_, hcb, hcy⟩⟩
      refine wp_region_planT (fun w' => w'.cell? ⟨w.heap.size + 1, 22, none⟩ = some (.int .i64 B2) ∧ w'.cell? ⟨w.heap.size, 5, none⟩ = some (.int .i64 y5)) [(0, true), (1, true), (2, true), (3, true), (4, true), (5, true), (6, true), (7, true), (8, true), (9, true), (10, true), (11, true), (12, true), (13, true), (14, true), (15, true)] [16] (by kernel_rfl) (by kernel_rfl) (by kernel_rfl) (by kernel_rfl) ⟨hcb, hcy⟩ ?_
      generalize W1.drew = W2 at *
      clear hcb hcy
      refine wpPh_qs 16 _ _ _ (by kernel_rfl) (by kernel_rfl) (by simp) ?_
      unfold clsS
      simp only [List.take_succ_cons, List.take_zero, List.drop_succ_cons, List.drop_zero, List.filterMap_cons, List.filterMap_nil, List.getElem?_toArray, List.getElem?_cons_zero, List.getElem?_cons_succ]
      repeat (first
        | go_big_quiet_skip
        | (go_big_quiet_want; go_big_quiet_op; go_big_quiet_on)
        | (refine id (?_ : wpQuiet _ _ _ _ (_ :: _) _); first | go_big_quiet_skip | (go_big_quiet_want; go_big_quiet_op; go_big_quiet_on)))
      refine wpQuiet_nil ?_
      unfold wpPh
      refine wpPt_e _ (by rfl) (by kernel_rfl) (fun K hK => ?_)
      have cE := ar1.cell (22 + 1)
      have fE := ar1.frozen (22 + 1)
      simp only [Nat.reduceAdd] at cE fE
      go_simp
      have ar2 : Blk (W2.setCell ⟨w.heap.size + 1, 22 + 1, none⟩ (.int .i64 E2)) (w.heap.size + 1) 44 ((xl B0 E0 ++ xl B1 E1) ++ (xl B2 E2 ++ ([] : List Value))).toArray := ar1.set_ (22 + 1) (.int .i64 E2)
      have bx2 := bx1.upd (upd_setCells (Upd.refl (fun k => k = w.heap.size + 1) _) (g := w.heap.size + 1) rfl [.int .i64 E2] (22 + 1)) (by omega)
      have row2 := row1.upd (upd_setCells (Upd.refl (fun k => k = w.heap.size + 1) _) (g := w.heap.size + 1) rfl [.int .i64 E2] (22 + 1)) (fun g e h => by have := (row1.lt g e).1; omega)
      have bel2 := below_setCells bel1 (g := w.heap.size + 1) (by omega) [.int .i64 E2] (22 + 1)
      simp only [World.setCells, Nat.reduceAdd] at ar2 bx2 row2 bel2
      refine hK _ _ ?_
      clear hK K cE fE z1 z2 zz ar1 bx1 row1 bel1
      generalize W2.setCell ⟨w.heap.size + 1, _, none⟩ (.int .i64 E2) = W3 at *
      unfold wpPt
      refine NoPanic.normal ?_
      have hc := rg_of (P := (xl B0 E0 ++ xl B1 E1)) (X := xl B2 E2) (S := ([] : List Value)) (o := 22) ar2 rfl
      have hla := bel_alloc W3 (.cells #[.int .i64 B2, .int .i64 E2, .bool false, .bool false, .slice none 0 0, .int .i64 0, .int .i64 0, .slice none 0 0, .int .i64 0, .int .i64 0, .int .i64 0] 31)
      have hxr := RdT.new (cs := En.cs) (sz := 11) En.cs_len W3 31 [xe B2 E2] #[.int .i64 B2, .int .i64 E2, .bool false, .bool false, .slice none 0 0, .int .i64 0, .int .i64 0, .slice none 0 0, .int .i64 0, .int .i64 0, .int .i64 0] rfl 1 rfl
      have own3 := row2.below hla
      have bel3 := bel_after bel2 hla
      have bx3 := bx2.bel hla
      have ar3 := ar2.bel hla
      have hsz3 := ar3.lt
      clear hla ar2 bx2 row2 bel2
      go_wp2_with (first | (refine wpList_ldAt rfl rfl rfl hc Try.underlying31 en_size ?_; clear hc) | (at_builtin; generalize W3.alloc (.cells #[.int .i64 B2, .int .i64 E2, .bool false, .bool false, .slice none 0 0, .int .i64 0, .int .i64 0, .slice none 0 0, .int .i64 0, .int .i64 0, .int .i64 0] 31) = W4 at *; refine wpList_appT En.cs_len En.cs_one (by decide) _ rfl (.tmp 40) (.tmp 44) 23 rfl (w.heap.size + 2) 31 i0 (.agg #[.int .i64 0, .int .i64 0, .bool false, .bool false, .slice none 0 0, .int .i64 0, .int .i64 0, .slice none 0 0, .int .i64 0, .int .i64 0, .int .i64 0]) 120 Try.underlying23 hi hz0 hz1 hz2 rfl _ rfl ([xe B0 E0, xe B1 E1]) own3 _ _ 1 1 rfl [xe B2 E2] hxr (by simp) (by decide) (by omega) ?_; intro v4 w4 own4 hg4 hv4))
      have hu4 := Upd.of_grown (S := fun k => w.heap.size + 2 ≤ k) hg4 (fun g e => (own3.lt g e).1)
      have bel4 := bel3.trans (hu4.below bel3.size (fun k hk => by omega))
      have bx4 := bx3.upd hu4 (by omega)
      have ar4 := ar3.upd hu4 (by omega)
      go_roundw
      case rel => exact .inr (.inr (.inr ⟨by go_num, bx4, ar4, own4, bel4⟩))
      case measure => simp [intOf]
    · have hsz := hs.lt
      have har0 : Blk wr (w.heap.size + 1) 44 (([] : List Value) ++ (xl B0 E0 ++ (xl B1 E1 ++ xl B2 E2))).toArray := hs.ar
      have har1 : Blk wr (w.heap.size + 1) 44 (xl B0 E0 ++ (xl B1 E1 ++ xl B2 E2)).toArray := hs.ar
      have har2 : Blk wr (w.heap.size + 1) 44 ((xl B0 E0 ++ xl B1 E1) ++ (xl B2 E2 ++ [])).toArray := hs.ar
      have y0 : ∀ w', Below wr.heap.size wr w' → ∀ j u, (xl B0 E0)[j]? = some u → w'.cell? ⟨w.heap.size + 1, 0 + j, none⟩ = some u := fun w' hb => rg_of (P := ([] : List Value)) (X := xl B0 E0) (o := 0) (har0.bel hb) rfl
      have y1 : ∀ w', Below wr.heap.size wr w' → ∀ j u, (xl B1 E1)[j]? = some u → w'.cell? ⟨w.heap.size + 1, 11 + j, none⟩ = some u := fun w' hb => rg_of (P := xl B0 E0) (X := xl B1 E1) (o := 11) (har1.bel hb) rfl
      have y2 : ∀ w', Below wr.heap.size wr w' → ∀ j u, (xl B2 E2)[j]? = some u → w'.cell? ⟨w.heap.size + 1, 22 + j, none⟩ = some u := fun w' hb => rg_of (P := xl B0 E0 ++ xl B1 E1) (X := xl B2 E2) (o := 22) (har2.bel hb) rfl
      have q0 : ∀ w', (∃ t : Tw (Up wr), w' = t.w) → ∀ j u, (xl B0 E0)[j]? = some u → w'.cell? ⟨w.heap.size + 1, 0 + j, none⟩ = some u := fun w' ⟨t, ht⟩ => ht ▸ y0 t.w t.h
      have q1 : ∀ w', (∃ t : Tw (Up wr), w' = t.w) → ∀ j u, (xl B1 E1)[j]? = some u → w'.cell? ⟨w.heap.size + 1, 11 + j, none⟩ = some u := fun w' ⟨t, ht⟩ => ht ▸ y1 t.w t.h
      have q2 : ∀ w', (∃ t : Tw (Up wr), w' = t.w) → ∀ j u, (xl B2 E2)[j]? = some u → w'.cell? ⟨w.heap.size + 1, 22 + j, none⟩ = some u := fun w' ⟨t, ht⟩ => ht ▸ y2 t.w t.h
      have ok : Ok3 B0 E0 B1 E1 B2 E2 := ⟨⟨b0.1, c0.1⟩, ⟨b1.1, c1.1⟩, b2.1, c2.1⟩
      have hrow := hs.row
      obtain ⟨A2, cc, rfl, hc1, hc2⟩ := hrow.form (n := 3) rfl
      unfold maxLen at hc2
      have hx0 := hrow.rd En.cs_len rfl (n := 3) rfl
      have kR := fun W (hb : Below wr.heap.size wr W) => hRight_any _ W.heap.size A2 3 cc W ((hx0.below hb).more hb.size) (Nat.le_refl _) (by omega) hc1 (by unfold maxLen; omega)
      have kW := fun W (hb : Below wr.heap.size wr W) => hWidth_any _ W.heap.size A2 3 cc W ((hx0.below hb).more hb.size) (Nat.le_refl _) (by omega) hc1 (by unfold maxLen; omega)
      rw [right3 ok] at kR
      have wb := width_bd ok
      have wo := width_one ok
      generalize widthL [xe B0 E0, xe B1 E1, xe B2 E2] = wd at *
      have k00 := fun W => hA_lit B0 E0 B0 E0 W (by omega)
      have k10 := fun W => hA_lit B1 E1 B0 E0 W (by omega)
      have k1 := fun t : Tw (Up wr) => hA_lit B0 E0 B1 E1 t.w (by omega)
      have k2 := fun t : Tw (Up wr) => hA_lit B1 E1 B2 E2 t.w (by omega)
      have k3 := fun t : Tw (Up wr) => hA_lit B0 E0 B2 E2 t.w (by omega)
      rw [show decide (E0 < B0) = false by simp; omega] at k00
      obtain ⟨a, ha⟩ : ∃ a, decide (E0 < B1) = a := ⟨_, rfl⟩
      obtain ⟨b, hb⟩ : ∃ b, decide (E1 < B2) = b := ⟨_, rfl⟩
      obtain ⟨c, hc⟩ : ∃ c, decide (E0 < B2) = c := ⟨_, rfl⟩
      rw [ha] at k1
      rw [hb] at k2
      rw [hc] at k3
      have hd : a = true → decide (E1 < B0) = false := fun h => by rw [h] at ha; simp at ha ⊢; omega
      have hac : a = true → b = true → c = true := fun h1 h2 => by rw [h1] at ha; rw [h2] at hb; rw [← hc]; simp at ha hb ⊢; omega
      have hw1 : a = true → b = true → wd = 1 := fun h1 h2 => by rw [h1] at ha; rw [h2] at hb; simp at ha hb; exact wo ha hb
      have w1 : (1 : Int) ≤ (wd : Int) := by omega
      have w3 : (wd : Int) ≤ 3 := by omega
      have zz := Up.one wr
      have bel := hs.bel
      replace y0 := Lib.hid y0
      replace y1 := Lib.hid y1
      replace y2 := Lib.hid y2
      replace q0 := Lib.hid q0
      replace q1 := Lib.hid q1
      replace q2 := Lib.hid q2
      replace k1 := Lib.hid k1
      replace k2 := Lib.hid k2
      replace k3 := Lib.hid k3
      replace k00 := Lib.hid k00
      replace k10 := Lib.hid k10
      replace kR := Lib.hid kR
      replace kW := Lib.hid kW
      replace hd := Lib.hid hd
      replace hac := Lib.hid hac
      replace hw1 := Lib.hid hw1
      clear hs har0 har1 har2 ok wo hrow hx0 ha hb hc b0 b1 b2 c0 c1 c2 hB0 hE0 hB1 hE1 hB2 hE2 hq0 hq1 hq2 hq3 hq4 hq5 v0 v1 v2 v3 v4 v5 hi hz0 hz1 hz2
      go_upto_region 9 with fail
      refine region_tw (Up wr) (by kernel_rfl) (by kernel_rfl) (Up.rfl_ wr).drew ?_
      unfold clsS
      repeat (first
        | go_big_quiet_skip
        | (go_big_quiet_want; go_big_quiet_op; first | go_big_quiet_on | go_big_quiet_call (fail)))
      go_big_quiet_want
      refine quiet_ldAt rfl rfl q0.out Try.underlying31 en_size ?_
      go_simp
      go_big_quiet_on
      repeat (first
        | go_big_quiet_skip
        | (go_big_quiet_want; go_big_quiet_op; first | go_big_quiet_on | go_big_quiet_call (fail)))
      go_big_quiet_want
      refine quiet_ldAt rfl rfl q1.out Try.underlying31 en_size ?_
      go_simp
      go_big_quiet_on
      repeat (first
        | go_big_quiet_skip
        | (go_big_quiet_want; go_big_quiet_op; first | go_big_quiet_on | go_big_quiet_call (exact q_tw (Nat.le_refl _) (k1.out _))))
      repeat (first
        | go_big_quiet_skip
        | (go_big_quiet_want; go_big_quiet_op; first | go_big_quiet_on | go_big_quiet_call (fail)))
      go_big_quiet_want
      refine quiet_ldAt rfl rfl q1.out Try.underlying31 en_size ?_
      go_simp
      go_big_quiet_on
      repeat (first
        | go_big_quiet_skip
        | (go_big_quiet_want; go_big_quiet_op; first | go_big_quiet_on | go_big_quiet_call (fail)))
      go_big_quiet_want
      refine quiet_ldAt rfl rfl q2.out Try.underlying31 en_size ?_
      go_simp
      go_big_quiet_on
      repeat (first
        | go_big_quiet_skip
        | (go_big_quiet_want; go_big_quiet_op; first | go_big_quiet_on | go_big_quiet_call (exact q_tw (Nat.le_refl _) (k2.out _))))
      repeat (first
        | go_big_quiet_skip
        | (go_big_quiet_want; go_big_quiet_op; first | go_big_quiet_on | go_big_quiet_call (fail)))
      go_big_quiet_want
      refine quiet_ldAt rfl rfl q0.out Try.underlying31 en_size ?_
      go_simp
      go_big_quiet_on
      repeat (first
        | go_big_quiet_skip
        | (go_big_quiet_want; go_big_quiet_op; first | go_big_quiet_on | go_big_quiet_call (fail)))
      go_big_quiet_want
      refine quiet_ldAt rfl rfl q2.out Try.underlying31 en_size ?_
      go_simp
      go_big_quiet_on
      repeat (first
        | go_big_quiet_skip
        | (go_big_quiet_want; go_big_quiet_op; first | go_big_quiet_on | go_big_quiet_call (exact q_tw (Nat.le_refl _) (k3.out _))))
      refine wpQuiet_nil ?_
      intro tq
      have belx : Below wr.heap.size wr tq.w := tq.h
      generalize tq.w = w5 at *
      clear k1 k2 k3 q0 q1 q2 zz tq
      go_wp2_with fail
      refine (hnotes_any _).mono ?_
      rintro e wz ⟨rfl, hb⟩
      replace belx := bel_after belx hb
      clear hb
      go_wp2_with fail
      refine (kR.out _ belx).mono ?_
      rintro e wz ⟨rfl, hb⟩
      replace belx := bel_after belx hb
      clear hb
      go_wp2_with (refine wpList_ldAtG (by rfl) rfl rfl (y0.out _ belx) Try.underlying31 en_size ?_)
      cases a with
      | false =>
        refine (k00.out _).mono ?_
        rintro e wz ⟨rfl, hb⟩
        replace belx := bel_after belx hb
        clear hb
        go_wp2_with fail
        refine (kW.out _ belx).mono ?_
        rintro e wz ⟨rfl, hb⟩
        replace belx := bel_after belx hb
        clear hb
        go_wp2_with fail
        refine (kW.out _ belx).mono ?_
        rintro e wz ⟨rfl, hb⟩
        replace belx := bel_after belx hb
        clear hb
        go_wp2_with fail
        go_ret
        exact ⟨rfl, bel_after bel belx⟩
      | true =>
        replace hd := hd.out rfl
        replace hac := hac.out rfl
        replace hw1 := hw1.out rfl
        replace k10 := k10.out
        rw [hd] at k10
        refine (k00.out _).mono ?_
        rintro e wz ⟨rfl, hb⟩
        replace belx := bel_after belx hb
        clear hb
        go_wp2_with (first | (refine wpList_ldAtG (by rfl) rfl rfl (y1.out _ belx) Try.underlying31 en_size ?_) | (refine wpList_ldAtG (by rfl) rfl rfl (y0.out _ belx) Try.underlying31 en_size ?_))
        cases b with
        | false =>
          refine (k10 _).mono ?_
          rintro e wz ⟨rfl, hb⟩
          replace belx := bel_after belx hb
          clear hb
          go_wp2_with fail
          refine (kW.out _ belx).mono ?_
          rintro e wz ⟨rfl, hb⟩
          replace belx := bel_after belx hb
          clear hb
          go_wp2_with fail
          refine (kW.out _ belx).mono ?_
          rintro e wz ⟨rfl, hb⟩
          replace belx := bel_after belx hb
          clear hb
          go_wp2_with fail
          go_ret
          exact ⟨rfl, bel_after bel belx⟩
        | true =>
          obtain rfl := hac rfl
          obtain rfl := hw1 rfl
          refine (k10 _).mono ?_
          rintro e wz ⟨rfl, hb⟩
          replace belx := bel_after belx hb
          clear hb
          go_wp2_with fail
          refine (kW.out _ belx).mono ?_
          rintro e wz ⟨rfl, hb⟩
          replace belx := bel_after belx hb
          clear hb
          go_wp2_with fail
          refine (kW.out _ belx).mono ?_
          rintro e wz ⟨rfl, hb⟩
          replace belx := bel_after belx hb
          clear hb
          go_wp2_with fail
          refine (kW.out _ belx).mono ?_
          rintro e wz ⟨rfl, hb⟩
          replace belx := bel_after belx hb
          clear hb
          go_wp2_with fail
          go_ret
          exact ⟨rfl, bel_after bel belx⟩
theorem arr6 {cs : Array Value} {x0 x1 x2 x3 x4 x5 : Value} (h : cs.size = 6) (h0 : cs.toList[0]? = some x0) (h1 : cs.toList[1]? = some x1) (h2 : cs.toList[2]? = some x2) (h3 : cs.toList[3]? = some x3) (h4 : cs.toList[4]? = some x4) (h5 : cs.toList[5]? = some x5) : cs = #[x0, x1, x2, x3, x4, x5] := by
  obtain ⟨l⟩ := cs
  match l, h with
  | [z0, z1, z2, z3, z4, z5], _ =>
    simp only [List.getElem?_cons_zero, List.getElem?_cons_succ, Option.some.injEq] at h0 h1 h2 h3 h4 h5
    rw [h0, h1, h2, h3, h4, h5]
theorem arg_six {W : World} {v : Value} (h : Arg Try.prog W 43 v) : ∃ y0 y1 y2 y3 y4 y5 : Int, v = .agg #[.int .i64 y0, .int .i64 y1, .int .i64 y2, .int .i64 y3, .int .i64 y4, .int .i64 y5] := by
  obtain ⟨cs, m, rfl, hs, hf⟩ := arg_array Try.underlying43 h
  have hC : Try.prog.cellsOf 43 = 6 := by kernel_rfl
  have hC2 : Try.prog.cellsOf 42 = 2 := by kernel_rfl
  have hCi : Try.prog.cellsOf 3 = 1 := by kernel_rfl
  have key : ∀ i j, i < 3 → j < 2 → ∃ n, cs.toList[i * 2 + j]? = some (.int .i64 n) := by
    intro i j hi hj
    have h1 := hf i hi
    rw [hC2] at h1
    obtain ⟨m', _, h3⟩ := rdg_array Try.underlying42 h1
    have h2 := h3 j hj
    rw [hCi] at h2
    obtain ⟨n, hn, _⟩ := rdg_int Try.underlying3 h2
    refine ⟨n, ?_⟩
    have : ((((cs.toList.drop (i * 2)).take 2).drop (j * 1)).take 1)[0]? = some (.int .i64 n) := by rw [hn]; rfl
    rw [List.getElem?_take_of_lt (by omega), List.getElem?_drop, List.getElem?_take_of_lt (by omega), List.getElem?_drop] at this
    simpa using this
  obtain ⟨y0, h0⟩ := key 0 0 (by omega) (by omega)
  obtain ⟨y1, h1⟩ := key 0 1 (by omega) (by omega)
  obtain ⟨y2, h2⟩ := key 1 0 (by omega) (by omega)
  obtain ⟨y3, h3⟩ := key 1 1 (by omega) (by omega)
  obtain ⟨y4, h4⟩ := key 2 0 (by omega) (by omega)
  obtain ⟨y5, h5⟩ := key 2 1 (by omega) (by omega)
  exact ⟨y0, y1, y2, y3, y4, y5, by rw [arr6 (hs.trans hC) h0 h1 h2 h3 h4 h5]⟩
theorem HistoryAhead_args (W : World) (args : Array Value) (hs : args.size = Try.f4.params.size) (hA : ∀ (j : Nat) t v, Try.f4.params[j]? = some t → args[j]? = some v → Arg Try.prog W t v) :
    Calls Try.prog 4 args W fun e W' => e = .returned (.bool true) ∧ Below W.heap.size W W' := by
  obtain ⟨v0, rfl⟩ := args1 hs
  obtain ⟨y0, y1, y2, y3, y4, y5, rfl⟩ := arg_six (hA 0 43 v0 rfl rfl)
  exact HistoryAhead_walk y0 y1 y2 y3 y4 y5 W

set_option maxRecDepth 100000 in
theorem HistoryAhead_lifted (os : Os) (started : os.Started) (H : Type) (enc : TypeId × Value → H) :
    ReturnsInHanded {} Try.checked os 4 .any (Rows.historyAheadSpec.pre6 enc Try.prog Try.f4 Rows.historyAheadRow.domain false) (Rows.historyAheadSpec.post enc Try.prog Try.f4 false true false false) :=
  law_lifted os started H enc (by kernel_rfl) Try.func4 rfl rfl (fun H ds h => by match ds, h with | [_], _ => exact ⟨rfl, rfl, rfl⟩) (by kernel_rfl)
    (ChangeSpec.witness6 (enc := enc) (C := Try.checked) false ⟨#[], #[.agg #[.int .i64 0, .int .i64 0, .int .i64 0, .int .i64 0, .int .i64 0, .int .i64 0]], []⟩ 8 (by kernel_rfl) (by kernel_rfl) (by kernel_rfl) (by kernel_rfl))
    HistoryAhead_args

/-- the statement -/
theorem historyAhead_holds : Rows.HistoryAheadSaid :=
  OpenClaim.holds_of_wide 4 Try.f4 rfl rfl rfl rfl rfl rfl rfl ⟨rfl, rfl, rfl, rfl, rfl⟩ rfl rfl rfl rfl rfl (by kernel_rfl) Try.func4 (by kernel_rfl)
    (of_decide_eq_true (by kernel_rfl)) (by unfold Func.isWrapper; first | (rw [if_pos (by decide +kernel)]; kernel_rfl) | (rw [if_neg (by decide +kernel)]; exact ⟨rfl, rfl⟩))
    (fun os started H enc _ => HistoryAhead_lifted os started H enc)

end Go.Proofs.Ytjaacmecniijgaa
