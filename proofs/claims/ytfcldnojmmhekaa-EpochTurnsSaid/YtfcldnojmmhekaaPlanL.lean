/- A region that draws its order, by a plan whose last operation, which waits for all the others, may leave the class. -/
import Derived.Test.YtfcldnojmmhekaaPlan
import Derived.Test.YtfcldnojmmhekaaMid
namespace Go.Proofs.Ytfcldnojmmhekaa
set_option linter.unusedVariables false
set_option linter.unusedSimpArgs false
open Go.RowKit
section
variable {P : Program} {ops : Array Oper} {Q : Exit → Act → World → Prop} {S : World → Prop} {n : Nat}
def wpAnyL (P : Program) (ops : Array Oper) (Q : Exit → Act → World → Prop) (S : World → Prop) (n : Nat) : Nat → Array Bool → Act → World → Prop
  | 0, listed, a, w => Region.ready .any ops listed = [] ∧ Q .normal a w
  | fuel + 1, listed, a, w =>
    (Region.ready .any ops listed = [] → Q .normal a w) ∧
    ∀ i ∈ Region.ready .any ops listed, wpOp P ops Q i (fun a' w' => (i = n ∨ S w') ∧ wpAnyL P ops Q S n fuel (listed.setIfInBounds i true) a' w') a w
theorem wpAny_of_L : ∀ (fuel : Nat) (listed : Array Bool) (a : Act) (w : World), wpAnyL P ops Q S n fuel listed a w → wpAny P .any ops Q fuel listed a w
  | 0, _, _, _, h => h
  | fuel + 1, _, _, _, h => ⟨h.1, fun i hi => wpOp_mono (fun a' w' h' => wpAny_of_L fuel _ a' w' h'.2) (h.2 i hi)⟩
theorem last_last {listed : Array Bool} (hcl : Closed ops listed) (hs : Region.sinkB .any ops n = true) {i : Nat} (hin : i < n) (hi : i ∈ Region.ready .any ops listed) : n ∉ Region.ready .any ops listed := by
  intro hn
  obtain ⟨hu, on, hon, hall⟩ := mem_ready.1 hn
  have h1 := hcl.set hon ⟨hu, hall⟩
  have hsz : n < listed.size := by rw [hcl.size]; exact (Array.getElem?_eq_some_iff.1 hon).1
  have h2 := h1.down hs (by simp [hsz]) _ i rfl hin
  rw [getD_set_ne false (by omega), getD_both_ (mem_ready.1 hi).1] at h2
  cases h2
theorem wpAnyL_first {i : Nat} {oi : Oper} {v : Value} (hi : ops[i]? = some oi) (hin : i < n) (hs : Region.sinkB .any ops n = true) (hsel : ∀ (j : Nat) (o : Oper) cs b, ops[j]? = some o → o.op ≠ .select cs b)
    (hQ : ∀ c a w, Q (.panic c) (a.put oi.dst v) w → Q (.panic c) a w) :
    ∀ (fuel : Nat) (listed : Array Bool) (a : Act) (w : World), Closed ops listed →
      (∀ j oj, ops[j]? = some oj → j ≠ i → listed.getD j true = false → (∀ e ∈ oj.after, Region.binds .any e = true → e.on ≠ i) → oi.apart ops oj = true) →
      i ∈ Region.ready .any ops listed → YieldsIf P ops S oi v a → S w →
      wpAnyL P ops Q S n fuel (listed.setIfInBounds i true) (a.put oi.dst v) w → wpAnyL P ops Q S n (fuel + 1) listed a w := by
  intro fuel
  induction fuel with
  | zero =>
    intro listed a w _ _ hr hy hS H
    refine ⟨fun h => (by rw [h] at hr; cases hr), fun j hj => ?_⟩
    by_cases hji : j = i
    · subst hji; exact hy.wpOp hi hS ⟨.inr hS, H⟩
    · have := ready_mono hj hji
      rw [H.1] at this
      cases this
  | succ fuel ih =>
    intro listed a w hcl hfree hr hy hS H
    refine ⟨fun h => (by rw [h] at hr; cases hr), fun j hj => ?_⟩
    by_cases hji : j = i
    · subst hji; exact hy.wpOp hi hS ⟨.inr hS, H⟩
    · have hjn : j ≠ n := fun e => last_last hcl hs hin hr (e ▸ hj)
      have h1 := H.2 j (ready_mono hj hji)
      obtain ⟨hjun, oj, hoj, hall⟩ := mem_ready.1 hj
      have hnot : ∀ e ∈ oj.after, Region.binds .any e = true → e.on ≠ i := fun e he hb heq => by
        have h1 := hall e he hb
        have h0 := (mem_ready.1 hr).1
        rw [heq] at h1
        rcases Nat.lt_or_ge i listed.size with h' | h'
        · simp [h'] at h0 h1; rw [h0] at h1; cases h1
        · simp [Array.getElem?_eq_none h'] at h1
      have h2 := wpOp_putIf hoj (hfree j oj hoj hji hjun hnot) (fun cs b => hsel i oi cs b hi) (fun cs b => hsel j oj cs b hoj) hQ hy h1
      have hfree' : ∀ k ok, ops[k]? = some ok → k ≠ i → (listed.setIfInBounds j true).getD k true = false →
          (∀ e ∈ ok.after, Region.binds .any e = true → e.on ≠ i) → oi.apart ops ok = true := fun k ok hk hki hun hno => by
        refine hfree k ok hk hki ?_ hno
        by_cases hjk : j = k
        · subst hjk; exact hjun
        · rw [getD_set_ne true hjk] at hun; exact hun
      refine wpOp_mono (fun a' w' h3 => ?_) h2
      have hS' : S w' := h3.2.1.resolve_left hjn
      refine ⟨.inr hS', ih (listed.setIfInBounds j true) a' w' (hcl.set hoj ⟨hjun, hall⟩) hfree' (ready_mono hr (Ne.symm hji)) h3.1 hS' ?_⟩
      rw [Array.setIfInBounds_comm _ _ hji]
      exact h3.2.2
/-- the last operation, and what follows -/
def lastQ (P : Program) (ops : Array Oper) (Q : Exit → Act → World → Prop) (n : Nat) : Exit → Act → World → Prop
  | .normal, a, w => ∀ o, ops[n]? = some o → ∀ K : Act → World → Prop, (∀ a' w', Q .normal a' w' → K a' w') → Region.wanted o (yielded ops a.tmps) = true ∧ o.wp P a w K (NoPanic Q)
  | e, a, w => Q e a w
theorem lastQ_do {a : Act} {w : World} (o : Oper) (ho : ops[n]? = some o) (hw : Region.wanted o (yielded ops a.tmps) = true)
    (h : ∀ K : Act → World → Prop, (∀ a' w', Q .normal a' w' → K a' w') → o.wp P a w K (NoPanic Q)) : lastQ P ops Q n .normal a w :=
  fun o' ho' K hK => by
    obtain rfl : o = o' := Option.some.inj (ho.symm.trans ho')
    exact ⟨hw, h K hK⟩
theorem letsOut_last (h : LetsOut (NoPanic (lastQ P ops Q n))) : LetsOut (NoPanic Q) := h
theorem wp_other {o : Oper} {a : Act} {w : World} {K : Act → World → Prop} (h : o.wp P a w K (NoPanic (lastQ P ops Q n))) : o.wp P a w K (NoPanic Q) := by
  unfold Oper.wp at *
  generalize (execOp a.eval o).run P w = r at *
  cases r with
  | ok m w' =>
    cases m <;> simp only [Oper.upon] at h ⊢
    all_goals
      first
        | exact h
        | exact Calls.mono h (fun e w'' he => by cases e <;> first | exact he | exact letsOut_last he)
  | halt x w' => cases x <;> simp only [Oper.upon] at h ⊢ <;> exact h
theorem wpAnyL_of_plan (hs : Region.noSelect ops = true) (hk : Region.sinkB .any ops n = true) : ∀ (l : List (Nat × Bool)) (listed : Array Bool) (a : Act) (w : World), Closed ops listed → (∀ x ∈ l, x.1 < n) → S w → planB ops (l ++ [(n, false)]) listed = true →
    wpPl P ops (NoPanic (lastQ P ops Q n)) S l a w → ∀ fuel, l.length + 1 ≤ fuel → wpAnyL P ops (NoPanic Q) S n fuel listed a w
  | l, listed, a, w, hcl, hl, hS, hB, h, 0, hf => by simp at hf
  | [], listed, a, w, hcl, hl, hS, hB, h, fuel + 1, hf => by
    simp only [List.nil_append, planB, Bool.and_eq_true, decide_eq_true_eq] at hB
    refine ⟨fun h0 => (by rw [hB.1] at h0; cases h0), fun i hi => ?_⟩
    obtain rfl : i = n := by rw [hB.1] at hi; simpa using hi
    obtain ⟨_, o, ho, _⟩ := mem_ready.1 hi
    have h' : lastQ P ops Q i .normal a w := h
    obtain ⟨hw, hx⟩ := h' o ho (fun a' w' => (i = i ∨ S w') ∧ wpAnyL P ops (NoPanic Q) S i fuel (listed.setIfInBounds i true) a' w') (fun a' w' hq => ⟨.inl rfl, by
      have hr : Region.ready .any ops (listed.setIfInBounds i true) = [] := by simpa [planB] using hB.2
      cases fuel with
      | zero => exact ⟨hr, hq⟩
      | succ f => exact ⟨fun _ => hq, by rw [hr]; simp⟩⟩)
    unfold wpOp
    rw [ho]
    show (if Region.wanted o (yielded ops a.tmps) = true then _ else _)
    rw [if_pos hw]
    exact .inl hx
  | (i, true) :: r, listed, a, w, hcl, hl, hS, hB, h, fuel + 1, hf => by
    simp only [List.cons_append, planB, Bool.and_eq_true] at hB
    obtain ⟨⟨⟨h1, h2⟩, h3⟩, h4⟩ := hB
    cases ho : ops[i]? with
    | none => rw [ho] at h1; cases h1
    | some o =>
      rw [ho] at h1
      obtain ⟨v, hy, hr⟩ := h o ho
      have hri : i ∈ Region.ready .any ops listed := by simpa using h2
      obtain ⟨hu, o2, ho2, hall⟩ := mem_ready.1 hri
      refine wpAnyL_first ho (hl _ (List.mem_cons_self ..)) hk (Region.noSelect_spec hs) (fun c a w hq => absurd hq (fun h => h)) fuel listed a w hcl (Region.free_spec ho h3) hri (v := v) ?_ hS
        (wpAnyL_of_plan hs hk r _ _ w (hcl.set ho2 ⟨hu, hall⟩) (fun x hx => hl x (List.mem_cons_of_mem _ hx)) hS h4 hr fuel (by simpa using hf))
      rcases hy with ⟨hw, hy⟩ | hy
      · refine .inl ⟨hw, fun w' hS' => ?_⟩
        have h5 := hy w' hS'
        unfold Oper.quietAt at h5
        cases hr : (execOp a.eval o).run P w' with
        | ok nx w2 =>
          obtain ⟨u, rfl⟩ := isV_spec h1 hr
          rw [hr] at h5
          simp only [Oper.quietUpon] at h5
          rw [h5.1, h5.2]
        | halt x w2 => rw [hr] at h5; simp only [Oper.quietUpon] at h5
      · exact .inr hy
  | (i, false) :: r, listed, a, w, hcl, hl, hS, hB, h, fuel + 1, hf => by
    simp only [List.cons_append, planB, Bool.and_eq_true, decide_eq_true_eq] at hB
    refine ⟨fun h0 => (by rw [hB.1] at h0; cases h0), fun j hj => ?_⟩
    obtain rfl : j = i := by rw [hB.1] at hj; simpa using hj
    obtain ⟨hu, o, ho, hall⟩ := mem_ready.1 hj
    obtain ⟨hw, hx⟩ := h o ho (fun a' w' => (j = n ∨ S w') ∧ wpAnyL P ops (NoPanic Q) S n fuel (listed.setIfInBounds j true) a' w')
      (fun a' w' hS' hr => ⟨.inr hS', wpAnyL_of_plan hs hk r _ a' w' (hcl.set ho ⟨hu, hall⟩) (fun x hx => hl x (List.mem_cons_of_mem _ hx)) hS' hB.2 hr fuel (by simpa using hf)⟩)
    unfold wpOp
    simp only [ho]
    rw [if_pos hw]
    exact .inl (wp_other hx)
theorem wp_region_planL {id : Nat} {a : Act} {w : World} {l : List Oper} (S : World → Prop) (pl : List (Nat × Bool)) (n : Nat) (hm : P.follows .mixedOrders = true) (hs : Region.noSelect l.toArray = true) (hk : Region.sinkB .any l.toArray n = true) (hn : (pl.all fun x => decide (x.1 < n)) = true)
    (hB : planB l.toArray (pl ++ [(n, false)]) (Array.replicate l.length false) = true) (hl : pl.length + 1 = l.length) (hS : S w.drew)
    (h : wpPl P l.toArray (NoPanic (lastQ P l.toArray Q n)) S pl a w.drew) : (Code.region id l.toArray true).wp P Q a w := by
  refine wp_region_noPanic (wp_region_any hm (wpAny_of_L (S := S) (n := n) _ _ _ _ ?_))
  have := wpAnyL_of_plan (P := P) (Q := Q) (S := S) hs hk pl (Array.replicate l.length false) a w.drew ⟨by simp, fun j oj _ hl => by rw [getD_replicate_false] at hl; cases hl⟩ (fun x hx => by simpa using List.all_eq_true.1 hn x hx) hS hB h l.length (by omega)
  simpa using this
end
end Go.Proofs.Ytfcldnojmmhekaa
