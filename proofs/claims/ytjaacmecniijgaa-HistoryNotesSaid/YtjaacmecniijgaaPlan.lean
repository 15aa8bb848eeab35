/- A region that draws its order: what only reads is taken first, in a class of worlds that the rest keeps; the rest comes in one order. -/
import Derived.Test.YtjaacmecniijgaaDrawn
import Derived.Test.YtjaacmecniijgaaHeap
import Derived.Deep.RegionHeld3
namespace Go.Proofs.Ytjaacmecniijgaa
set_option linter.unusedVariables false
set_option linter.unusedSimpArgs false
open Go.RowKit
/-- a world that meets S -/
structure Tw (S : World → Prop) where
  w : World
  h : S w
def clsS (S : World → Prop) (w : World) : Prop := ∃ t : Tw S, w = t.w
section
variable {P : Program} {ops : Array Oper} {Q : Exit → Act → World → Prop} {S : World → Prop}
def planB (ops : Array Oper) : List (Nat × Bool) → Array Bool → Bool
  | [], listed => (Region.ready .any ops listed).isEmpty
  | (i, true) :: r, listed => (match ops[i]? with | some o => isV o.op | none => false) && (Region.ready .any ops listed).contains i && Region.free .any ops listed i && planB ops r (listed.setIfInBounds i true)
  | (i, false) :: r, listed => decide (Region.ready .any ops listed = [i]) && planB ops r (listed.setIfInBounds i true)
def wpPl (P : Program) (ops : Array Oper) (Q : Exit → Act → World → Prop) (S : World → Prop) : List (Nat × Bool) → Act → World → Prop
  | [], a, w => Q .normal a w
  | (i, true) :: r, a, w => ∀ o, ops[i]? = some o → ∃ v, ((Region.wanted o (yielded ops a.tmps) = true ∧ ∀ w, S w → o.quietAt P a (clsS S) w v) ∨ (Region.wanted o (yielded ops a.tmps) = false ∧ v = undef)) ∧ wpPl P ops Q S r (a.put o.dst v) w
  | (i, false) :: r, a, w => ∀ o, ops[i]? = some o → ∀ K : Act → World → Prop, (∀ a' w', S w' → wpPl P ops Q S r a' w' → K a' w') → Region.wanted o (yielded ops a.tmps) = true ∧ o.wp P a w K Q
theorem wpAnyH_of_plan (hs : Region.noSelect ops = true) (hQ : ∀ c a w, ¬ Q (.panic c) a w) : ∀ (l : List (Nat × Bool)) (listed : Array Bool) (a : Act) (w : World), S w → planB ops l listed = true → wpPl P ops Q S l a w → ∀ fuel, l.length ≤ fuel → wpAnyH P .any ops Q S fuel listed a w
  | [], listed, a, w, _, hB, h, fuel, _ => wpAnyH_done (by simpa [planB] using hB) h fuel
  | (i, true) :: r, listed, a, w, hS, hB, h, 0, hf => by simp at hf
  | (i, false) :: r, listed, a, w, hS, hB, h, 0, hf => by simp at hf
  | (i, true) :: r, listed, a, w, hS, hB, h, fuel + 1, hf => by
    simp only [planB, Bool.and_eq_true] at hB
    obtain ⟨⟨⟨h1, h2⟩, h3⟩, h4⟩ := hB
    cases ho : ops[i]? with
    | none => rw [ho] at h1; cases h1
    | some o =>
      rw [ho] at h1
      obtain ⟨v, hy, hr⟩ := h o ho
      refine wpAnyH_take ho hs h3 h2 (fun c a w hq => absurd hq (hQ _ _ _)) (v := v) ?_ hS (wpAnyH_of_plan hs hQ r _ _ w hS h4 hr fuel (by simpa using hf))
      rcases hy with ⟨hw, hy⟩ | hy
      · refine .inl ⟨hw, fun w' hS' => ?_⟩
        have h5 := hy w' hS'
        unfold Oper.quietAt at h5
        cases hr : (execOp a.eval o).run P w' with
        | ok nx w2 =>
          obtain ⟨u, rfl⟩ := isV_spec h1 hr
          rw [hr] at h5
          simp only [Oper.quietUpon] at h5
          rw [h5.1, h5.2]
        | halt x w2 => rw [hr] at h5; simp only [Oper.quietUpon] at h5
      · exact .inr hy
  | (i, false) :: r, listed, a, w, hS, hB, h, fuel + 1, hf => by
    simp only [planB, Bool.and_eq_true, decide_eq_true_eq] at hB
    refine wpAnyH_all hB.1 (by simp) fun j hj => ?_
    obtain rfl : j = i := by simpa using hj
    have hm : j ∈ Region.ready .any ops listed := by rw [hB.1]; exact hj
    obtain ⟨_, o, ho, _⟩ := mem_ready.1 hm
    obtain ⟨hw, hx⟩ := h o ho (fun a' w' => S w' ∧ wpAnyH P .any ops Q S fuel (listed.setIfInBounds j true) a' w') (fun a' w' hS' hr => ⟨hS', wpAnyH_of_plan hs hQ r _ a' w' hS' hB.2 hr fuel (by simpa using hf)⟩)
    unfold wpOp
    simp only [ho]
    rw [if_pos hw]
    exact .inl hx
theorem wp_region_plan {id : Nat} {a : Act} {w : World} {l : List Oper} (S : World → Prop) (pl : List (Nat × Bool)) (hm : P.follows .mixedOrders = true) (hs : Region.noSelect l.toArray = true) (hB : planB l.toArray pl (Array.replicate l.length false) = true) (hl : pl.length = l.length) (hS : S w.drew)
    (h : wpPl P l.toArray (NoPanic Q) S pl a w.drew) : (Code.region id l.toArray true).wp P Q a w := by
  refine wp_region_noPanic (wp_region_held (S := S) hm ?_)
  have := wpAnyH_of_plan (P := P) (Q := NoPanic Q) (S := S) hs (fun c a w h => h) pl (Array.replicate l.length false) a w.drew hS hB h l.length (by omega)
  simpa using this
/-- a run of operations that only reckon and read -/
theorem wpPl_qs : ∀ (n : Nat) (l : List (Nat × Bool)) (a : Act) (w : World), ((l.take n).all fun x => x.2) = true → ((l.take n).all fun x => (ops[x.1]?).isSome) = true → n ≤ l.length →
    wpQuiet P ops (clsS S) (fun a' => wpPl P ops Q S (l.drop n) a' w) ((l.take n).filterMap fun x => ops[x.1]?) a → wpPl P ops Q S l a w
  | 0, l, a, w, _, _, _, h => h
  | n + 1, [], a, w, _, _, hn, _ => by simp at hn
  | n + 1, (i, false) :: l, a, w, h1, _, _, _ => by simp at h1
  | n + 1, (i, true) :: l, a, w, h1, h2, hn, h => by
    simp only [List.take_succ_cons, List.all_cons, Bool.and_eq_true] at h1 h2
    intro o ho
    simp only [List.take_succ_cons, List.drop_succ_cons, List.filterMap_cons, ho, wpQuiet] at h
    by_cases hw : Region.wanted o (yielded ops a.tmps) = true
    · rw [if_pos hw] at h
      obtain ⟨v, h3, h4⟩ := h
      exact ⟨v, .inl ⟨hw, fun w' hS => h3 w' ⟨⟨w', hS⟩, rfl⟩⟩, wpPl_qs n l _ w h1.2 h2.2 (by simpa using hn) h4⟩
    · rw [if_neg hw] at h
      exact ⟨undef, .inr ⟨by simpa using hw, rfl⟩, wpPl_qs n l _ w h1.2 h2.2 (by simpa using hn) h⟩
theorem wpPl_e {i : Nat} {r : List (Nat × Bool)} {a : Act} {w : World} (o : Oper) (ho : ops[i]? = some o) (hw : Region.wanted o (yielded ops a.tmps) = true)
    (h : ∀ K : Act → World → Prop, (∀ a' w', S w' → wpPl P ops Q S r a' w' → K a' w') → o.wp P a w K Q) : wpPl P ops Q S ((i, false) :: r) a w :=
  fun o' ho' K hK => by
    obtain rfl : o = o' := Option.some.inj (ho.symm.trans ho')
    exact ⟨hw, h K hK⟩
/-- all operations read, or call what is quiet in the class -/
theorem region_tw {id : Nat} {a : Act} {w : World} {l : List Oper} (S : World → Prop) (hm : P.follows .mixedOrders = true) (hB : Region.lexB .any l.toArray = true) (hS : S w.drew)
    (h : wpQuiet P l.toArray (clsS S) (fun a' => ∀ t : Tw S, Q .normal a' t.w) l a) : (Code.region id l.toArray true).wp P Q a w :=
  wp_region_quiet (C := clsS S) hm hB ⟨⟨w.drew, hS⟩, rfl⟩ (by
    have e : (fun a' => ∀ w', clsS S w' → Q .normal a' w') = fun a' => ∀ t : Tw S, Q .normal a' t.w := by
      funext a'; apply propext; constructor
      · intro h t; exact h _ ⟨t, rfl⟩
      · rintro h w' ⟨t, rfl⟩; exact h t
    rw [e]; simpa using h)
theorem q_tw {B : Nat} {W : World} {f : FuncId} {args : Array Value} {v : Value} {t : Tw (fun w' => Below B W w')} (hB : B ≤ W.heap.size) (h : Calls P f args t.w fun e w' => e = .returned v ∧ Below t.w.heap.size t.w w') :
    Calls P f args t.w fun e w'' => e = .returned v ∧ ∃ t' : Tw (fun w' => Below B W w'), w'' = t'.w :=
  h.mono fun e w'' ⟨he, hb⟩ => ⟨he, ⟨w'', t.h.trans (hb.mono (Nat.le_trans hB t.h.size))⟩, rfl⟩
theorem q_tw_same {S : World → Prop} {f : FuncId} {args : Array Value} {v : Value} {t : Tw S} (h : Calls P f args t.w fun e w' => e = .returned v ∧ t.w = w') :
    Calls P f args t.w fun e w'' => e = .returned v ∧ ∃ t' : Tw S, w'' = t'.w :=
  h.mono fun e w'' ⟨he, hb⟩ => ⟨he, t, hb.symm⟩
theorem Blk.tw {B : Nat} {W : World} {g : Nat} {ty : TypeId} {cs : Array Value} (h : Blk W g ty cs) (hg : g < B) (t : Tw (fun w' => Below B W w')) (i : Nat) : t.w.cell? ⟨g, i, none⟩ = cs[i]? := (h.below t.h hg).cell i
theorem Rd.tw {k : IntKind} {B n : Nat} {W : World} {A : Option Addr} {l : List Int} (h : Rd k W B A n l) (t : Tw (fun w' => Below B W w')) : Rd k t.w B A n l := h.below t.h
end
end Go.Proofs.Ytjaacmecniijgaa
