/- A region that draws its order, by a plan, in a class of worlds that may shrink behind each effect. -/
import Derived.Test.YtjaacmecniijgaaPlan
namespace Go.Proofs.Ytjaacmecniijgaa
set_option linter.unusedVariables false
set_option linter.unusedSimpArgs false
open Go.RowKit
section
variable {P : Program} {ops : Array Oper} {Q : Exit → Act → World → Prop}
theorem wpAnyH_sub {md : Region.Mode} {S S2 : World → Prop} (hSS : ∀ w, S2 w → S w) : ∀ (fuel : Nat) (listed : Array Bool) (a : Act) (w : World), wpAnyH P md ops Q S2 fuel listed a w → wpAnyH P md ops Q S fuel listed a w
  | 0, _, _, _, h => h
  | fuel + 1, _, _, _, h => ⟨h.1, fun i hi => wpOp_mono (fun a' w' h' => ⟨hSS _ h'.1, wpAnyH_sub hSS fuel _ a' w' h'.2⟩) (h.2 i hi)⟩
def wpPm (P : Program) (ops : Array Oper) (Q : Exit → Act → World → Prop) : List (Nat × Bool) → (World → Prop) → Act → World → Prop
  | [], _, a, w => Q .normal a w
  | (i, true) :: r, S, a, w => ∀ o, ops[i]? = some o → ∃ v, ((Region.wanted o (yielded ops a.tmps) = true ∧ ∀ w, S w → o.quietAt P a (clsS S) w v) ∨ (Region.wanted o (yielded ops a.tmps) = false ∧ v = undef)) ∧ wpPm P ops Q r S (a.put o.dst v) w
  | (i, false) :: r, S, a, w => ∀ o, ops[i]? = some o → ∀ K : Act → World → Prop, (∀ (S2 : World → Prop) a' w', (∀ w, S2 w → S w) → S2 w' → wpPm P ops Q r S2 a' w' → K a' w') → Region.wanted o (yielded ops a.tmps) = true ∧ o.wp P a w K Q
theorem wpAnyH_of_planS (hs : Region.noSelect ops = true) (hQ : ∀ c a w, ¬ Q (.panic c) a w) : ∀ (l : List (Nat × Bool)) (S : World → Prop) (listed : Array Bool) (a : Act) (w : World), S w → planB ops l listed = true → wpPm P ops Q l S a w → ∀ fuel, l.length ≤ fuel → wpAnyH P .any ops Q S fuel listed a w
  | [], S, listed, a, w, _, hB, h, fuel, _ => wpAnyH_done (by simpa [planB] using hB) h fuel
  | (i, true) :: r, S, listed, a, w, hS, hB, h, 0, hf => by simp at hf
  | (i, false) :: r, S, listed, a, w, hS, hB, h, 0, hf => by simp at hf
  | (i, true) :: r, S, listed, a, w, hS, hB, h, fuel + 1, hf => by
    simp only [planB, Bool.and_eq_true] at hB
    obtain ⟨⟨⟨h1, h2⟩, h3⟩, h4⟩ := hB
    cases ho : ops[i]? with
    | none => rw [ho] at h1; cases h1
    | some o =>
      rw [ho] at h1
      obtain ⟨v, hy, hr⟩ := h o ho
      refine wpAnyH_take ho hs h3 h2 (fun c a w hq => absurd hq (hQ _ _ _)) (v := v) ?_ hS (wpAnyH_of_planS hs hQ r S _ _ w hS h4 hr fuel (by simpa using hf))
      rcases hy with ⟨hw, hy⟩ | hy
      · refine .inl ⟨hw, fun w' hS' => ?_⟩
        have h5 := hy w' hS'
        unfold Oper.quietAt at h5
        cases hr : (execOp a.eval o).run P w' with
        | ok nx w2 =>
          obtain ⟨u, rfl⟩ := isV_spec h1 hr
          rw [hr] at h5
          simp only [Oper.quietUpon] at h5
          rw [h5.1, h5.2]
        | halt x w2 => rw [hr] at h5; simp only [Oper.quietUpon] at h5
      · exact .inr hy
  | (i, false) :: r, S, listed, a, w, hS, hB, h, fuel + 1, hf => by
    simp only [planB, Bool.and_eq_true, decide_eq_true_eq] at hB
    refine wpAnyH_all hB.1 (by simp) fun j hj => ?_
    obtain rfl : j = i := by simpa using hj
    have hm : j ∈ Region.ready .any ops listed := by rw [hB.1]; exact hj
    obtain ⟨_, o, ho, _⟩ := mem_ready.1 hm
    obtain ⟨hw, hx⟩ := h o ho (fun a' w' => S w' ∧ wpAnyH P .any ops Q S fuel (listed.setIfInBounds j true) a' w') (fun S2 a' w' hSS hS' hr => ⟨hSS _ hS', wpAnyH_sub hSS _ _ _ _ (wpAnyH_of_planS hs hQ r S2 _ a' w' hS' hB.2 hr fuel (by simpa using hf))⟩)
    unfold wpOp
    simp only [ho]
    rw [if_pos hw]
    exact .inl hx
theorem wp_region_planS {id : Nat} {a : Act} {w : World} {l : List Oper} (S : World → Prop) (pl : List (Nat × Bool)) (hm : P.follows .mixedOrders = true) (hs : Region.noSelect l.toArray = true) (hB : planB l.toArray pl (Array.replicate l.length false) = true) (hl : pl.length = l.length) (hS : S w.drew)
    (h : wpPm P l.toArray (NoPanic Q) pl S a w.drew) : (Code.region id l.toArray true).wp P Q a w := by
  refine wp_region_noPanic (wp_region_held (S := S) hm ?_)
  have := wpAnyH_of_planS (P := P) (Q := NoPanic Q) hs (fun c a w h => h) pl S (Array.replicate l.length false) a w.drew hS hB h l.length (by omega)
  simpa using this
/-- a run of operations that only reckon and read -/
theorem wpPm_qs {S : World → Prop} : ∀ (n : Nat) (l : List (Nat × Bool)) (a : Act) (w : World), ((l.take n).all fun x => x.2) = true → ((l.take n).all fun x => (ops[x.1]?).isSome) = true → n ≤ l.length →
    wpQuiet P ops (clsS S) (fun a' => wpPm P ops Q (l.drop n) S a' w) ((l.take n).filterMap fun x => ops[x.1]?) a → wpPm P ops Q l S a w
  | 0, l, a, w, _, _, _, h => h
  | n + 1, [], a, w, _, _, hn, _ => by simp at hn
  | n + 1, (i, false) :: l, a, w, h1, _, _, _ => by simp at h1
  | n + 1, (i, true) :: l, a, w, h1, h2, hn, h => by
    simp only [List.take_succ_cons, List.all_cons, Bool.and_eq_true] at h1 h2
    intro o ho
    simp only [List.take_succ_cons, List.drop_succ_cons, List.filterMap_cons, ho, wpQuiet] at h
    by_cases hw : Region.wanted o (yielded ops a.tmps) = true
    · rw [if_pos hw] at h
      obtain ⟨v, h3, h4⟩ := h
      exact ⟨v, .inl ⟨hw, fun w' hS => h3 w' ⟨⟨w', hS⟩, rfl⟩⟩, wpPm_qs n l _ w h1.2 h2.2 (by simpa using hn) h4⟩
    · rw [if_neg hw] at h
      exact ⟨undef, .inr ⟨by simpa using hw, rfl⟩, wpPm_qs n l _ w h1.2 h2.2 (by simpa using hn) h⟩
theorem wpPm_e {S : World → Prop} {i : Nat} {r : List (Nat × Bool)} {a : Act} {w : World} (o : Oper) (ho : ops[i]? = some o) (hw : Region.wanted o (yielded ops a.tmps) = true)
    (h : ∀ K : Act → World → Prop, (∀ (S2 : World → Prop) a' w', (∀ w, S2 w → S w) → S2 w' → wpPm P ops Q r S2 a' w' → K a' w') → o.wp P a w K Q) : wpPm P ops Q ((i, false) :: r) S a w :=
  fun o' ho' K hK => by
    obtain rfl : o = o' := Option.some.inj (ho.symm.trans ho')
    exact ⟨hw, h K hK⟩
end
/-- the worlds above w -/
def Up (w w' : World) : Prop := Below w.heap.size w w'
theorem Up.rfl_ (w : World) : Up w w := Below.refl _ _
theorem Up.sub {w w2 : World} (h : Below w.heap.size w w2) : ∀ w', Up w2 w' → Up w w' := fun _ h2 => h.trans (h2.mono h.size)
theorem Up.one (w : World) : Nonempty (Tw (Up w)) := ⟨⟨w, Up.rfl_ w⟩⟩
theorem Blk.up {W : World} {g : Nat} {ty : TypeId} {cs : Array Value} (h : Blk W g ty cs) (t : Tw (Up W)) (i : Nat) : t.w.cell? ⟨g, i, none⟩ = cs[i]? := (h.below t.h h.lt).cell i
theorem Rd.up {k : IntKind} {B n : Nat} {W : World} {A : Option Addr} {l : List Int} (h : Rd k W B A n l) (hB : B ≤ W.heap.size) (t : Tw (Up W)) : Rd k t.w B A n l := h.below (t.h.mono hB)
end Go.Proofs.Ytjaacmecniijgaa
