/- A cell, epochs, workers' places, steps and reads, and two maps: in memory. -/
import Derived.Test.YtlhfbmoodehoiaaFepAll1
import Derived.Test.YtlhfbmoodehoiaaFepMap
import Derived.Test.YtlhfbmoodehoiaaEpoch11
namespace Go.Proofs.Ytlhfbmoodehoiaa
set_option linter.unusedVariables false
set_option linter.unusedSimpArgs false
open Go.RowKit
theorem EL.updg {w0 W W' : World} {b g h gr n : Nat} {L : List Int} {hs : List Value} {G : List (List Th)} {S : Nat → Prop} (k : EL w0 b g h gr n L hs G W) (hu : Upd S W W') (hS : ∀ x, S x → w0.heap.size ≤ x ∧ x ≠ b ∧ x ≠ g ∧ x ≠ h ∧ ¬ GvS gr hs x) : EL w0 b g h gr n L hs G W' :=
  ⟨⟨k.eg.ep.upd hu (fun e => (hS _ e).2.1 rfl) (fun e => (hS _ e).2.2.1 rfl) (fun e => (hS _ e).2.2.2.1 rfl), k.eg.gv.upd hu (fun x hx => (hS x hx).2.2.2.2), k.eg.len⟩, k.hh, k.hgr, k.bel.trans (hu.below k.bel.size (fun x hx e => by have := (hS x e).1; omega))⟩
/-- types whose blocks no law's row or cell object is -/
def kT (t : TypeId) : Bool := t == 90 || t == 65 || t == 71 || t == 73
theorem ne_ofT {f : TypeId → Bool} {t u : TypeId} (h : f t = true) (hu : f u = false) : t ≠ u := fun e => by rw [e, hu] at h; cases h
def natI (l : List Nat) : Array Value := (l.map fun (a : Nat) => Value.int .i64 (a : Int)).toArray
def natU (l : List Nat) : Array Value := (l.map fun (a : Nat) => Value.int .u64 (a : Int)).toArray
theorem natI_at {l : List Nat} {k a : Nat} (h : l[k]? = some a) : (natI l)[k]? = some (.int .i64 (a : Int)) := by simp [natI, h]
theorem natU_at {l : List Nat} {k a : Nat} (h : l[k]? = some a) : (natU l)[k]? = some (.int .u64 (a : Int)) := by simp [natU, h]
theorem natI_set (l : List Nat) (k a : Nat) : (natI l).setIfInBounds k (.int .i64 (a : Int)) = natI (l.set k a) := by unfold natI; rw [List.map_set]; simp
theorem natU_set (l : List Nat) (k a : Nat) : (natU l).setIfInBounds k (.int .u64 (a : Int)) = natU (l.set k a) := by unfold natU; rw [List.map_set]; simp
structure FM (w0 : World) (b g h gr n cb ch ab lb rb tb vb : Nat) (E : Nat) (pin : List Nat) (G : List (List Th)) (hs vs : List Value) (ps : List (Option (Nat × Es))) (at_ rd : List Nat) (cu : Nat) (tk gv : Int → Int) (M : Nat) (W : World) : Prop where
  el : EL w0 b g h gr n (cellsL E pin) hs G W
  ce : Cel W cb ch [(cu : Int)]
  bat : Blk W ab 3 (natI at_)
  bst : Blk W lb 34 vs.toArray
  brd : Blk W rb 23 (natU rd)
  mt : MapU W tb M tk
  mg : MapU W vb M gv
  st : ∀ (k : Nat) x s, ps[k]? = some (some (x, s)) → vs[k]? = some (.pointer (some ⟨x, 0, none⟩)) ∧ EsAt W x s ∧ w0.heap.size ≤ x
  sn : ∀ (i j : Nat) x s y u, i ≠ j → ps[i]? = some (some (x, s)) → ps[j]? = some (some (y, u)) → x ≠ y
  hh : ch ≠ h
  tv : tb ≠ vb
  vl : vs.length = n
  lo : w0.heap.size ≤ ch ∧ w0.heap.size ≤ ab ∧ w0.heap.size ≤ lb ∧ w0.heap.size ≤ rb ∧ w0.heap.size ≤ tb ∧ w0.heap.size ≤ vb
section
variable {w0 W W' : World} {b g h gr n cb ch ab lb rb tb vb E E' cu cu' M k a : Nat} {pin pin' at_ rd : List Nat} {G G' : List (List Th)} {hs hs' vs : List Value} {ps : List (Option (Nat × Es))} {tk gv tk' gv' : Int → Int} {S : Nat → Prop}
theorem FM.bel' (m : FM w0 b g h gr n cb ch ab lb rb tb vb E pin G hs vs ps at_ rd cu tk gv M W) (hb : Below W.heap.size W W') : FM w0 b g h gr n cb ch ab lb rb tb vb E pin G hs vs ps at_ rd cu tk gv M W' :=
  ⟨m.el.bel' hb, m.ce.bel hb, m.bat.bel hb, m.bst.bel hb, m.brd.bel hb, m.mt.bel hb, m.mg.bel hb, fun k x s e => by obtain ⟨h1, h2, h3⟩ := m.st k x s e; exact ⟨h1, Blk.bel h2 hb, h3⟩, m.sn, m.hh, m.tv, m.vl, m.lo⟩
theorem FM.more (m : FM w0 b g h gr n cb ch ab lb rb tb vb E pin G hs vs ps at_ rd cu tk gv M W) {M' : Nat} (hM : M ≤ M') : FM w0 b g h gr n cb ch ab lb rb tb vb E pin G hs vs ps at_ rd cu tk gv M' W :=
  ⟨m.el, m.ce, m.bat, m.bst, m.brd, m.mt.mono hM, m.mg.mono hM, m.st, m.sn, m.hh, m.tv, m.vl, m.lo⟩
/-- what isn't the epochs' stays while these turn -/
theorem FM.keep (m : FM w0 b g h gr n cb ch ab lb rb tb vb E pin G hs vs ps at_ rd cu tk gv M W) (up : Upd S W W') (hS : ∀ x, S x → x ≠ ch ∧ ∃ t cs, Blk W x t cs ∧ kT t = true) :
    Cel W' cb ch [(cu : Int)] ∧ Blk W' ab 3 (natI at_) ∧ Blk W' lb 34 vs.toArray ∧ Blk W' rb 23 (natU rd) ∧ MapU W' tb M tk ∧ MapU W' vb M gv := by
  obtain ⟨o1, o2, o3, ho⟩ := m.ce.obj
  have no : ∀ {x y : Nat} {t : TypeId} {cs : Array Value}, S x → Blk W y t cs → kT t = false → x ≠ y := fun {x y t cs} hx hb ht => by
    obtain ⟨_, t', cs', hb', ht'⟩ := hS x hx
    exact hb'.ne_ hb (ne_ofT ht' ht)
  have nm : ∀ {x y : Nat} {F : Int → Int}, S x → MapU W y M F → x ≠ y := fun {x y F} hx hm => by
    obtain ⟨_, t', cs', hb', _⟩ := hS x hx
    exact hm.ne_ hb'
  exact ⟨m.ce.upd up (fun e => no e ho (by decide) rfl) (fun e => (hS _ e).1 rfl), m.bat.upd up (fun e => no e m.bat (by decide) rfl), m.bst.upd up (fun e => no e m.bst (by decide) rfl), m.brd.upd up (fun e => no e m.brd (by decide) rfl), m.mt.upd up (fun e => nm e m.mt rfl), m.mg.upd up (fun e => nm e m.mg rfl)⟩
theorem FM.stk (m : FM w0 b g h gr n cb ch ab lb rb tb vb E pin G hs vs ps at_ rd cu tk gv M W) (up : Upd S W W') (hS : ∀ x, S x → ∃ t cs, Blk W x t cs ∧ t ≠ 65) : ∀ (k : Nat) x s, ps[k]? = some (some (x, s)) → vs[k]? = some (.pointer (some ⟨x, 0, none⟩)) ∧ EsAt W' x s ∧ w0.heap.size ≤ x := fun k x s e => by
  obtain ⟨h1, h2, h3⟩ := m.st k x s e
  refine ⟨h1, Blk.upd h2 up (fun hx => ?_), h3⟩
  obtain ⟨t, cs, hb, ht⟩ := hS x hx
  exact hb.ne_ h2 ht rfl
theorem FM.gave (m : FM w0 b g h gr n cb ch ab lb rb tb vb E pin G hs vs ps at_ rd cu tk gv M W) (eg : EG w0.heap.size b g h gr n (cellsL E pin) hs' G' W') (up : Upd (GvS gr hs) W W') : FM w0 b g h gr n cb ch ab lb rb tb vb E pin G' hs' vs ps at_ rd cu tk gv M W' := by
  have ty : ∀ x, GvS gr hs x → ∃ t cs, Blk W x t cs ∧ kT t = true ∧ t ≠ 65 ∧ t ≠ 90 := fun x hx => by
    obtain ⟨t, cs, hb, ht⟩ := m.el.eg.gv.ty hx
    rcases ht with rfl | rfl
    · exact ⟨_, cs, hb, by decide, by decide, by decide⟩
    · exact ⟨_, cs, hb, by decide, by decide, by decide⟩
  obtain ⟨k1, k2, k3, k4, k5, k6⟩ := m.keep up (fun x hx => by
    obtain ⟨t, cs, hb, h1, _, h3⟩ := ty x hx
    exact ⟨hb.ne_ m.ce.row h3, t, cs, hb, h1⟩)
  exact ⟨m.el.gave eg up, k1, k2, k3, k4, k5, k6, m.stk up (fun x hx => by obtain ⟨t, cs, hb, _, h2, _⟩ := ty x hx; exact ⟨t, cs, hb, h2⟩), m.sn, m.hh, m.tv, m.vl, m.lo⟩
theorem FM.unpin (m : FM w0 b g h gr n cb ch ab lb rb tb vb E pin G hs vs ps at_ rd cu tk gv M W) (hk : k < pin.length) (ep : EpAt W' b g h gr n (celSet (cellsL E pin) (1 + (k : Int)) 0)) (up : Upd (fun y => y = h) W W') : FM w0 b g h gr n cb ch ab lb rb tb vb E (pin.set k 0) G hs vs ps at_ rd cu tk gv M W' := by
  have he : celSet (cellsL E pin) (1 + (k : Int)) 0 = cellsL E (pin.set k 0) := cells_setP hk 0
  rw [he] at ep
  obtain ⟨k1, k2, k3, k4, k5, k6⟩ := m.keep up (fun x hx => by subst hx; exact ⟨Ne.symm m.hh, _, _, m.el.eg.ep.cel.row, by decide⟩)
  exact ⟨m.el.unpin ep up, k1, k2, k3, k4, k5, k6, m.stk up (fun x hx => by subst hx; exact ⟨_, _, m.el.eg.ep.cel.row, by decide⟩), m.sn, m.hh, m.tv, m.vl, m.lo⟩
theorem FM.step (m : FM w0 b g h gr n cb ch ab lb rb tb vb E pin G hs vs ps at_ rd cu tk gv M W) {sb : Nat} {s s' : Es} (hk : ps[k]? = some (some (sb, s))) (es : ES W b g h gr n sb s' (cellsL E' pin') W') : FM w0 b g h gr n cb ch ab lb rb tb vb E' pin' G hs vs (ps.set k (some (sb, s'))) at_ rd cu tk gv M W' := by
  obtain ⟨hv, st, hsb⟩ := m.st k sb s hk
  obtain ⟨k1, k2, k3, k4, k5, k6⟩ := m.keep es.upd (fun x hx => by
    rcases hx with rfl | rfl
    · exact ⟨Ne.symm m.hh, _, _, m.el.eg.ep.cel.row, by decide⟩
    · exact ⟨Blk.ne_ st m.ce.row (by decide), _, _, st, by decide⟩)
  refine ⟨m.el.step st hsb es, k1, k2, k3, k4, k5, k6, fun j x u hj => ?_, fun i j x u y v hij hi hj => ?_, m.hh, m.tv, m.vl, m.lo⟩
  · rcases get_set hj with ⟨rfl, e⟩ | ⟨hjk, e⟩
    · simp only [Option.some.injEq, Prod.mk.injEq] at e
      obtain ⟨rfl, rfl⟩ := e
      exact ⟨hv, es.st, hsb⟩
    · obtain ⟨h1, h2, h3⟩ := m.st j x u e
      refine ⟨h1, Blk.upd h2 es.upd (fun e2 => ?_), h3⟩
      rcases e2 with rfl | rfl
      · exact Blk.ne_ h2 m.el.eg.ep.cel.row (by decide) rfl
      · exact m.sn j k _ _ _ _ hjk e hk rfl
  · rcases get_set hi with ⟨rfl, e⟩ | ⟨h1, e⟩ <;> rcases get_set hj with ⟨rfl, e'⟩ | ⟨h2, e'⟩
    · exact absurd rfl hij
    · simp only [Option.some.injEq, Prod.mk.injEq] at e
      rw [e.1]; exact m.sn i j _ _ _ _ hij hk e'
    · simp only [Option.some.injEq, Prod.mk.injEq] at e'
      rw [e'.1]; exact m.sn i j _ _ _ _ hij e hk
    · exact m.sn i j _ _ _ _ hij e e'
theorem FM.drop (m : FM w0 b g h gr n cb ch ab lb rb tb vb E pin G hs vs ps at_ rd cu tk gv M W) (k : Nat) : FM w0 b g h gr n cb ch ab lb rb tb vb E pin G hs vs (ps.set k none) at_ rd cu tk gv M W := by
  have old : ∀ (j : Nat) x s, (ps.set k none)[j]? = some (some (x, s)) → ps[j]? = some (some (x, s)) := fun j x s e => by
    rcases get_set e with ⟨_, e⟩ | ⟨_, e⟩
    · cases e
    · exact e
  exact ⟨m.el, m.ce, m.bat, m.bst, m.brd, m.mt, m.mg, fun j x s e => m.st j x s (old j x s e), fun i j x s y u hij e e' => m.sn i j x s y u hij (old i x s e) (old j y u e'), m.hh, m.tv, m.vl, m.lo⟩
/-- a row of the law's own turns -/
theorem FM.law (m : FM w0 b g h gr n cb ch ab lb rb tb vb E pin G hs vs ps at_ rd cu tk gv M W) {y : Nat} (hy : y = ab ∨ y = lb ∨ y = rb) (up : Upd (fun x => x = y) W W') :
    EL w0 b g h gr n (cellsL E pin) hs G W' ∧ Cel W' cb ch [(cu : Int)] ∧ (y ≠ ab → Blk W' ab 3 (natI at_)) ∧ (y ≠ lb → Blk W' lb 34 vs.toArray) ∧ (y ≠ rb → Blk W' rb 23 (natU rd)) ∧ MapU W' tb M tk ∧ MapU W' vb M gv ∧
      ∀ (k : Nat) x s, ps[k]? = some (some (x, s)) → vs[k]? = some (.pointer (some ⟨x, 0, none⟩)) ∧ EsAt W' x s ∧ w0.heap.size ≤ x := by
  have ty : ∃ t cs, Blk W y t cs ∧ otherT t = true ∧ t ≠ 65 ∧ w0.heap.size ≤ y := by
    obtain ⟨_, l1, l2, l3, _⟩ := m.lo
    rcases hy with rfl | rfl | rfl
    · exact ⟨_, _, m.bat, by decide, by decide, l1⟩
    · exact ⟨_, _, m.bst, by decide, by decide, l2⟩
    · exact ⟨_, _, m.brd, by decide, by decide, l3⟩
  obtain ⟨t, cs, hb, h1, h2, h3⟩ := ty
  obtain ⟨o1, o2, o3, ho⟩ := m.ce.obj
  exact ⟨m.el.other up (fun x hx => by subst hx; exact ⟨h3, t, cs, hb, h1⟩), m.ce.upd up (hb.ne_ ho (ne_ofT h1 (by decide)) |>.symm) (hb.ne_ m.ce.row (ne_ofT h1 (by decide)) |>.symm), fun e => m.bat.upd up (Ne.symm e), fun e => m.bst.upd up (Ne.symm e), fun e => m.brd.upd up (Ne.symm e), m.mt.upd up (Ne.symm (m.mt.ne_ hb)), m.mg.upd up (Ne.symm (m.mg.ne_ hb)), m.stk up (fun x hx => by subst hx; exact ⟨t, cs, hb, h2⟩)⟩
theorem FM.ne3 (m : FM w0 b g h gr n cb ch ab lb rb tb vb E pin G hs vs ps at_ rd cu tk gv M W) : ab ≠ lb ∧ ab ≠ rb ∧ lb ≠ rb := ⟨m.bat.ne_ m.bst (by decide), m.bat.ne_ m.brd (by decide), m.bst.ne_ m.brd (by decide)⟩
theorem FM.place (m : FM w0 b g h gr n cb ch ab lb rb tb vb E pin G hs vs ps at_ rd cu tk gv M W) (k a : Nat) (x : Int) (hx : (a : Int) = x) : FM w0 b g h gr n cb ch ab lb rb tb vb E pin G hs vs ps (at_.set k a) rd cu tk gv M (W.setCell ⟨ab, k, none⟩ (.int .i64 x)) := by
  subst hx
  have up := Upd.one W ab k (.int .i64 (a : Int))
  obtain ⟨n1, n2, n3⟩ := m.ne3
  obtain ⟨k1, k2, k3, k4, k5, k6, k7, k8⟩ := m.law (.inl rfl) up
  exact ⟨k1, k2, by rw [← natI_set]; exact m.bat.set_ k _, k4 n1, k5 n2, k6, k7, k8, m.sn, m.hh, m.tv, m.vl, m.lo⟩
theorem FM.look (m : FM w0 b g h gr n cb ch ab lb rb tb vb E pin G hs vs ps at_ rd cu tk gv M W) (k a : Nat) (x : Int) (hx : (a : Int) = x) : FM w0 b g h gr n cb ch ab lb rb tb vb E pin G hs vs ps at_ (rd.set k a) cu tk gv M (W.setCell ⟨rb, k, none⟩ (.int .u64 x)) := by
  subst hx
  have up := Upd.one W rb k (.int .u64 (a : Int))
  obtain ⟨n1, n2, n3⟩ := m.ne3
  obtain ⟨k1, k2, k3, k4, k5, k6, k7, k8⟩ := m.law (.inr (.inr rfl)) up
  exact ⟨k1, k2, k3 (Ne.symm n2), k4 (Ne.symm n3), by rw [← natU_set]; exact m.brd.set_ k _, k6, k7, k8, m.sn, m.hh, m.tv, m.vl, m.lo⟩
theorem FM.fresh (m : FM w0 b g h gr n cb ch ab lb rb tb vb E pin G hs vs ps at_ rd cu tk gv M W) {sb : Nat} (hsb : W.heap.size ≤ sb) : ∀ (j x : Nat) u, ps[j]? = some (some (x, u)) → x ≠ sb := fun j x u e => by
  have := Blk.lt (m.st j x u e).2.1
  omega
/-- a step is stored -/
theorem FM.slot (m : FM w0 b g h gr n cb ch ab lb rb tb vb E pin G hs vs ps at_ rd cu tk gv M W) {sb : Nat} {s : Es} (hne : ∀ (j x : Nat) u, ps[j]? = some (some (x, u)) → x ≠ sb) (hsb : w0.heap.size ≤ sb) (st : EsAt W sb s) (hk : k < n) : FM w0 b g h gr n cb ch ab lb rb tb vb E pin G hs (vs.set k (.pointer (some ⟨sb, 0, none⟩))) (ps.set k (some (sb, s))) at_ rd cu tk gv M (W.setCell ⟨lb, k, none⟩ (.pointer (some ⟨sb, 0, none⟩))) := by
  have up := Upd.one W lb k (.pointer (some ⟨sb, 0, none⟩))
  obtain ⟨n1, n2, n3⟩ := m.ne3
  obtain ⟨k1, k2, k3, k4, k5, k6, k7, k8⟩ := m.law (.inr (.inl rfl)) up
  refine ⟨k1, k2, k3 (Ne.symm n1), ?_, k5 n3, k6, k7, fun j x u hj => ?_, fun i j x u y v hij hi hj => ?_, m.hh, m.tv, by rw [List.length_set]; exact m.vl, m.lo⟩
  · have := m.bst.set_ k (.pointer (some ⟨sb, 0, none⟩))
    simpa using this
  · rcases get_set hj with ⟨rfl, e⟩ | ⟨hjk, e⟩
    · simp only [Option.some.injEq, Prod.mk.injEq] at e
      obtain ⟨rfl, rfl⟩ := e
      exact ⟨List.getElem?_set_self (by rw [m.vl]; exact hk), Blk.upd st up (fun e => Blk.ne_ st m.bst (by decide) e), hsb⟩
    · rw [List.getElem?_set_ne (Ne.symm hjk)]
      exact k8 j x u e
  · rcases get_set hi with ⟨rfl, e⟩ | ⟨h1, e⟩ <;> rcases get_set hj with ⟨rfl, e'⟩ | ⟨h2, e'⟩
    · exact absurd rfl hij
    · simp only [Option.some.injEq, Prod.mk.injEq] at e
      rw [e.1]; exact Ne.symm (hne j _ _ e')
    · simp only [Option.some.injEq, Prod.mk.injEq] at e'
      rw [e'.1]; exact hne i _ _ e
    · exact m.sn i j _ _ _ _ hij e e'
/-- the cell turns -/
theorem FM.cas (m : FM w0 b g h gr n cb ch ab lb rb tb vb E pin G hs vs ps at_ rd cu tk gv M W) (hc : Cel W' cb ch [(cu' : Int)]) (up : Upd (fun x => x = ch) W W') : FM w0 b g h gr n cb ch ab lb rb tb vb E pin G hs vs ps at_ rd cu' tk gv M W' := by
  have row := m.ce.row
  obtain ⟨o1, o2, o3, ho⟩ := m.el.eg.ep.cel.obj
  exact ⟨m.el.updg up (fun x hx => by subst hx; exact ⟨m.lo.1, row.ne_ m.el.eg.ep.obj (by decide), row.ne_ ho (by decide), m.hh, m.el.eg.gv.notS row (by decide) (by decide)⟩), hc,
    m.bat.upd up (m.bat.ne_ row (by decide)), m.bst.upd up (m.bst.ne_ row (by decide)), m.brd.upd up (m.brd.ne_ row (by decide)), m.mt.upd up (Ne.symm (m.mt.ne_ row)), m.mg.upd up (Ne.symm (m.mg.ne_ row)),
    m.stk up (fun x hx => by subst hx; exact ⟨_, _, row, by decide⟩), m.sn, m.hh, m.tv, m.vl, m.lo⟩
/-- a map turns -/
theorem FM.mapd (m : FM w0 b g h gr n cb ch ab lb rb tb vb E pin G hs vs ps at_ rd cu tk gv M W) {y : Nat} {F : Int → Int} (hy : MapU W y M F) (hlo : w0.heap.size ≤ y) (up : Upd (fun x => x = y) W W') :
    EL w0 b g h gr n (cellsL E pin) hs G W' ∧ Cel W' cb ch [(cu : Int)] ∧ Blk W' ab 3 (natI at_) ∧ Blk W' lb 34 vs.toArray ∧ Blk W' rb 23 (natU rd) ∧
      ∀ (k : Nat) x s, ps[k]? = some (some (x, s)) → vs[k]? = some (.pointer (some ⟨x, 0, none⟩)) ∧ EsAt W' x s ∧ w0.heap.size ≤ x := by
  obtain ⟨o1, o2, o3, ho⟩ := m.el.eg.ep.cel.obj
  obtain ⟨p1, p2, p3, po⟩ := m.ce.obj
  refine ⟨m.el.updg up (fun x hx => ?_), m.ce.upd up (hy.ne_ po) (hy.ne_ m.ce.row), m.bat.upd up (hy.ne_ m.bat), m.bst.upd up (hy.ne_ m.bst), m.brd.upd up (hy.ne_ m.brd), fun k x s e => ?_⟩
  · subst hx
    refine ⟨hlo, Ne.symm (hy.ne_ m.el.eg.ep.obj), Ne.symm (hy.ne_ ho), Ne.symm (hy.ne_ m.el.eg.ep.cel.row), fun hg => ?_⟩
    obtain ⟨t, cs, hb, _⟩ := m.el.eg.gv.ty hg
    exact hy.ne_ hb rfl
  · obtain ⟨h1, h2, h3⟩ := m.st k x s e
    exact ⟨h1, Blk.upd h2 up (hy.ne_ h2), h3⟩
theorem FM.putT (m : FM w0 b g h gr n cb ch ab lb rb tb vb E pin G hs vs ps at_ rd cu tk gv M W) (hm : MapU W' tb (M + 1) tk') (up : Upd (fun x => x = tb) W W') : FM w0 b g h gr n cb ch ab lb rb tb vb E pin G hs vs ps at_ rd cu tk' gv (M + 1) W' := by
  obtain ⟨k1, k2, k3, k4, k5, k6⟩ := m.mapd m.mt m.lo.2.2.2.2.1 up
  exact ⟨k1, k2, k3, k4, k5, hm, (m.mg.upd up (Ne.symm m.tv)).mono (by omega), k6, m.sn, m.hh, m.tv, m.vl, m.lo⟩
theorem FM.putG (m : FM w0 b g h gr n cb ch ab lb rb tb vb E pin G hs vs ps at_ rd cu tk gv M W) (hm : MapU W' vb (M + 1) gv') (up : Upd (fun x => x = vb) W W') : FM w0 b g h gr n cb ch ab lb rb tb vb E pin G hs vs ps at_ rd cu tk gv' (M + 1) W' := by
  obtain ⟨k1, k2, k3, k4, k5, k6⟩ := m.mapd m.mg m.lo.2.2.2.2.2 up
  exact ⟨k1, k2, k3, k4, k5, (m.mt.upd up m.tv).mono (by omega), hm, k6, m.sn, m.hh, m.tv, m.vl, m.lo⟩
/-- reads -/
theorem FM.atc (m : FM w0 b g h gr n cb ch ab lb rb tb vb E pin G hs vs ps at_ rd cu tk gv M W) (hk : at_[k]? = some a) : W.cell? ⟨ab, k, none⟩ = some (.int .i64 (a : Int)) ∧ W.frozen? ⟨ab, k, none⟩ = false := ⟨by rw [m.bat.cell]; exact natI_at hk, m.bat.frozen k⟩
theorem FM.rdc (m : FM w0 b g h gr n cb ch ab lb rb tb vb E pin G hs vs ps at_ rd cu tk gv M W) (hk : rd[k]? = some a) : W.cell? ⟨rb, k, none⟩ = some (.int .u64 (a : Int)) ∧ W.frozen? ⟨rb, k, none⟩ = false := ⟨by rw [m.brd.cell]; exact natU_at hk, m.brd.frozen k⟩
theorem FM.stc (m : FM w0 b g h gr n cb ch ab lb rb tb vb E pin G hs vs ps at_ rd cu tk gv M W) (hk : k < n) : (∃ u, W.cell? ⟨lb, k, none⟩ = some u) ∧ W.frozen? ⟨lb, k, none⟩ = false := ⟨⟨_, by rw [m.bst.cell, show vs.toArray[k]? = vs[k]? by simp]; exact List.getElem?_eq_getElem (by rw [m.vl]; exact hk)⟩, m.bst.frozen k⟩
theorem FM.stp (m : FM w0 b g h gr n cb ch ab lb rb tb vb E pin G hs vs ps at_ rd cu tk gv M W) {x : Nat} {s : Es} (hk : ps[k]? = some (some (x, s))) : W.cell? ⟨lb, k, none⟩ = some (.pointer (some ⟨x, 0, none⟩)) ∧ EsAt W x s := by
  obtain ⟨h1, h2, _⟩ := m.st k x s hk
  exact ⟨by rw [m.bst.cell]; simpa using h1, h2⟩
end
end Go.Proofs.Ytlhfbmoodehoiaa
