/- Rows of steps in memory. -/
import Derived.Test.YtlhfbmoodehoiaaFepAll1
namespace Go.Proofs.Ytlhfbmoodehoiaa
set_option linter.unusedVariables false
set_option linter.unusedSimpArgs false
open Go.RowKit
def pcell : Option (Nat × Es) → Value
  | none => .pointer none
  | some p => .pointer (some ⟨p.1, 0, none⟩)
/-- a row of steps (or nil), all different -/
structure SL (W : World) (base lb : Nat) (ps : List (Option (Nat × Es))) : Prop where
  blk : Blk W lb 34 (ps.map pcell).toArray
  st : ∀ (i : Nat) sb s, ps[i]? = some (some (sb, s)) → EsAt W sb s ∧ base ≤ sb
  ne : ∀ (i j : Nat) sb s sb' s', i ≠ j → ps[i]? = some (some (sb, s)) → ps[j]? = some (some (sb', s')) → sb ≠ sb'
theorem info_pstep : (Try.prog.info? 34).map (fun i => (i.zero, i.size, i.bytes)) = some (some (.pointer none), 1, 8) := by kernel_rfl
section
variable {W W' : World} {base lb : Nat} {ps : List (Option (Nat × Es))}
theorem SL.new (W : World) (base n : Nat) : SL (W.alloc (.cells (Array.replicate n (.pointer none)) 34)) base W.heap.size (List.replicate n none) := by
  refine ⟨?_, fun i sb s h => ?_, fun i j sb s sb' s' _ h => ?_⟩
  · rw [List.map_replicate, List.toArray_replicate]; exact Blk.new _ _ _
  · have := (List.mem_replicate.1 (List.mem_of_getElem? h)).2; cases this
  · have := (List.mem_replicate.1 (List.mem_of_getElem? h)).2; cases this
theorem SL.upd {S : Nat → Prop} (k : SL W base lb ps) (hu : Upd S W W') (h1 : ¬ S lb) (h2 : ∀ (i : Nat) sb s, ps[i]? = some (some (sb, s)) → ¬ S sb) : SL W' base lb ps :=
  ⟨k.blk.upd hu h1, fun i sb s h => ⟨Blk.upd (k.st i sb s h).1 hu (h2 i sb s h), (k.st i sb s h).2⟩, k.ne⟩
theorem SL.bel (k : SL W base lb ps) (hb : Below W.heap.size W W') : SL W' base lb ps :=
  ⟨k.blk.bel hb, fun i sb s h => ⟨Blk.bel (k.st i sb s h).1 hb, (k.st i sb s h).2⟩, k.ne⟩
theorem SL.drew (k : SL W base lb ps) : SL W.drew base lb ps := ⟨k.blk.drew, fun i sb s h => ⟨Blk.drew (k.st i sb s h).1, (k.st i sb s h).2⟩, k.ne⟩
/-- blocks of other types turn -/
theorem SL.other {S : Nat → Prop} (k : SL W base lb ps) (hu : Upd S W W') (hS : ∀ x, S x → ∃ t cs, Blk W x t cs ∧ t ≠ 34 ∧ t ≠ 65) : SL W' base lb ps :=
  k.upd hu (fun h => by obtain ⟨t, cs, hb, h1, _⟩ := hS _ h; exact hb.ne_ k.blk h1 rfl) (fun i sb s hi h => by
    obtain ⟨t, cs, hb, _, h2⟩ := hS _ h
    exact hb.ne_ (k.st i sb s hi).1 h2 rfl)
/-- the cell of a place -/
theorem SL.cell (k : SL W base lb ps) {i : Nat} {p : Option (Nat × Es)} (hi : ps[i]? = some p) : W.cell? ⟨lb, i, none⟩ = some (pcell p) ∧ W.frozen? ⟨lb, i, none⟩ = false := by
  refine ⟨?_, k.blk.frozen i⟩
  rw [k.blk.cell]
  simp [hi]
/-- a pointer is stored -/
theorem SL.put (k : SL W base lb ps) (i : Nat) (p : Option (Nat × Es)) (hp : ∀ sb s, p = some (sb, s) → EsAt W sb s ∧ base ≤ sb ∧ ∀ (j : Nat) sb' s', j ≠ i → ps[j]? = some (some (sb', s')) → sb ≠ sb') :
    SL (W.setCell ⟨lb, i, none⟩ (pcell p)) base lb (ps.set i p) ∧ Upd (fun x => x = lb) W (W.setCell ⟨lb, i, none⟩ (pcell p)) := by
  have up := Upd.one W lb i (pcell p)
  have hk : ∀ sb s, EsAt W sb s → EsAt (W.setCell ⟨lb, i, none⟩ (pcell p)) sb s := fun sb s h => Blk.upd (S := (· = lb)) h up (fun e => by
    have h' : Blk W sb 65 _ := h
    exact h'.ne_ k.blk (by decide) e)
  have hget : ∀ (j : Nat) sb s, (ps.set i p)[j]? = some (some (sb, s)) → (j = i ∧ p = some (sb, s)) ∨ (j ≠ i ∧ ps[j]? = some (some (sb, s))) := fun j sb s h => by
    by_cases hj : j = i
    · subst hj
      have hl : j < ps.length := by have := (List.getElem?_eq_some_iff.1 h).1; simpa using this
      rw [List.getElem?_set_self hl] at h
      exact .inl ⟨rfl, Option.some.inj h⟩
    · rw [List.getElem?_set_ne (Ne.symm hj)] at h
      exact .inr ⟨hj, h⟩
  refine ⟨⟨?_, fun j sb s h => ?_, fun j l sb s sb' s' hjl h h' => ?_⟩, up⟩
  · have := k.blk.set_ i (pcell p)
    rw [List.map_set]
    simpa using this
  · rcases hget j sb s h with ⟨rfl, e⟩ | ⟨_, e⟩
    · obtain ⟨h1, h2, _⟩ := hp sb s e
      exact ⟨hk _ _ h1, h2⟩
    · exact ⟨hk _ _ (k.st j sb s e).1, (k.st j sb s e).2⟩
  · rcases hget j sb s h with ⟨rfl, e⟩ | ⟨hj, e⟩ <;> rcases hget l sb' s' h' with ⟨rfl, e'⟩ | ⟨hl, e'⟩
    · exact absurd rfl hjl
    · exact (hp sb s e).2.2 l sb' s' hl e'
    · exact (hp sb' s' e').2.2 j sb s hj e |>.symm
    · exact k.ne j l sb s sb' s' hjl e e'
/-- a step that was just made is stored -/
theorem SL.fresh (k : SL W base lb ps) (hb : Below W.heap.size W W') (i : Nat) {sb : Nat} {s : Es} (hsb : W.heap.size ≤ sb) (st : EsAt W' sb s) (hB : base ≤ W.heap.size) :
    SL (W'.setCell ⟨lb, i, none⟩ (.pointer (some ⟨sb, 0, none⟩))) base lb (ps.set i (some (sb, s))) ∧ Upd (fun x => x = lb) W' (W'.setCell ⟨lb, i, none⟩ (.pointer (some ⟨sb, 0, none⟩))) :=
  (k.bel hb).put i (some (sb, s)) (fun sb1 s1 e => by
    simp only [Option.some.injEq, Prod.mk.injEq] at e
    obtain ⟨rfl, rfl⟩ := e
    refine ⟨st, by omega, fun j sb' s' _ h e => ?_⟩
    subst e
    have := Blk.lt (k.st j _ _ h).1
    omega)
theorem SL.drop (k : SL W base lb ps) (i : Nat) :
    SL (W.setCell ⟨lb, i, none⟩ (.pointer none)) base lb (ps.set i none) ∧ Upd (fun x => x = lb) W (W.setCell ⟨lb, i, none⟩ (.pointer none)) :=
  k.put i none (fun sb s e => by cases e)
/-- a step goes on -/
theorem SL.does (k : SL W base lb ps) {b g h gr n sb : Nat} {s s' : Es} {L L' : List Int} {i : Nat} (hi : ps[i]? = some (some (sb, s))) (ep : EpAt W b g h gr n L) (es : ES W b g h gr n sb s' L' W') : SL W' base lb (ps.set i (some (sb, s'))) := by
  have st := (k.st i sb s hi).1
  have hlb : lb ≠ sb := k.blk.ne_ st (by decide)
  have hlh : lb ≠ h := k.blk.ne_ ep.cel.row (by decide)
  have hil : i < ps.length := (List.getElem?_eq_some_iff.1 hi).1
  refine ⟨?_, fun j sb2 s2 hj => ?_, fun j l sb1 s1 sb2 s2 hjl h1 h2 => ?_⟩
  · have := k.blk.upd es.upd (fun e => e.elim hlh hlb)
    have e : (ps.set i (some (sb, s'))).map pcell = ps.map pcell := by
      rw [List.map_set]
      apply List.ext_getElem?
      intro j
      by_cases hj : j = i
      · subst hj
        rw [List.getElem?_set_self (by simpa using hil), List.getElem?_map, hi]; rfl
      · rw [List.getElem?_set_ne (Ne.symm hj)]
    rw [e]; exact this
  · by_cases hji : j = i
    · subst hji
      rw [List.getElem?_set_self hil] at hj
      simp only [Option.some.injEq, Prod.mk.injEq] at hj
      obtain ⟨rfl, rfl⟩ := hj
      exact ⟨es.st, (k.st j _ _ hi).2⟩
    · rw [List.getElem?_set_ne (Ne.symm hji)] at hj
      have hst := k.st j sb2 s2 hj
      refine ⟨Blk.upd hst.1 es.upd (fun e => ?_), hst.2⟩
      rcases e with e | e
      · exact Blk.ne_ hst.1 ep.cel.row (by decide) e
      · exact k.ne j i sb2 s2 sb s hji hj hi e
  · by_cases hji : j = i
    · subst hji
      rw [List.getElem?_set_self hil] at h1
      rw [List.getElem?_set_ne hjl] at h2
      simp only [Option.some.injEq, Prod.mk.injEq] at h1
      rw [← h1.1]
      exact k.ne j l sb s sb2 s2 hjl hi h2
    · rw [List.getElem?_set_ne (Ne.symm hji)] at h1
      by_cases hli : l = i
      · subst hli
        rw [List.getElem?_set_self hil] at h2
        simp only [Option.some.injEq, Prod.mk.injEq] at h2
        rw [← h2.1]
        exact k.ne j l sb1 s1 sb s hjl h1 hi
      · rw [List.getElem?_set_ne (Ne.symm hli)] at h2
        exact k.ne j l sb1 s1 sb2 s2 hjl h1 h2
end
/-- blocks of other types turn: the epochs stay -/
def otherT (t : TypeId) : Bool := t != 62 && t != 59 && t != 90 && t != 71 && t != 73
theorem EL.other {w0 W W' : World} {b g h gr n : Nat} {L : List Int} {hs : List Value} {G : List (List Th)} {S : Nat → Prop} (k : EL w0 b g h gr n L hs G W) (hu : Upd S W W') (hS : ∀ x, S x → w0.heap.size ≤ x ∧ ∃ t cs, Blk W x t cs ∧ otherT t = true) : EL w0 b g h gr n L hs G W' := by
  have key : ∀ {x y : Nat} {t : TypeId} {cs : Array Value}, S x → Blk W y t cs → otherT t = false → x ≠ y := fun {x y t cs} hx hb ht e => by
    obtain ⟨_, t', cs', hb', ht'⟩ := hS x hx
    subst e
    have : t' = t := Classical.byContradiction fun hne => hb'.ne_ hb hne rfl
    rw [this, ht] at ht'
    cases ht'
  obtain ⟨o1, o2, o3, ho⟩ := k.eg.ep.cel.obj
  refine ⟨⟨k.eg.ep.upd hu (fun e => key e k.eg.ep.obj (by decide) rfl) (fun e => key e ho (by decide) rfl) (fun e => key e k.eg.ep.cel.row (by decide) rfl), k.eg.gv.upd hu (fun x hx hg => ?_), k.eg.len⟩, k.hh, k.hgr, k.bel.trans (hu.below k.bel.size (fun x hx e => by have := (hS x e).1; omega))⟩
  obtain ⟨t, cs, hb, ht⟩ := k.eg.gv.ty hg
  rcases ht with rfl | rfl
  · exact key hx hb (by decide) rfl
  · exact key hx hb (by decide) rfl
theorem EL.slot {w0 W W' : World} {b g h gr n lb : Nat} {L : List Int} {hs : List Value} {G : List (List Th)} {ps : List (Option (Nat × Es))} (k : EL w0 b g h gr n L hs G W) (sl : SL W w0.heap.size lb ps) (hlb : w0.heap.size ≤ lb) (hu : Upd (fun x => x = lb) W W') : EL w0 b g h gr n L hs G W' :=
  k.other hu (fun x hx => by subst hx; exact ⟨hlb, _, _, sl.blk, by decide⟩)
end Go.Proofs.Ytlhfbmoodehoiaa
