/- A region that draws its order, by a plan whose last operations (each waits for all that was taken ahead) may turn what was read. -/
import Derived.Test.YtjaacmecniijgaaPlanS
namespace Go.Proofs.Ytjaacmecniijgaa
set_option linter.unusedVariables false
set_option linter.unusedSimpArgs false
open Go.RowKit
section
variable {P : Program} {ops : Array Oper} {Q : Exit → Act → World → Prop} {S : World → Prop}
/-- number j waits for number i, at once or by others -/
def waitsT (ops : Array Oper) : Nat → Nat → Nat → Bool
  | 0, _, _ => false
  | f + 1, j, i => match ops[j]? with | some o => o.after.any fun e => Region.binds .any e && (e.on == i || waitsT ops f e.on i) | none => false
/-- what is listed has all it waits for listed -/
def DC (ops : Array Oper) (L : Array Bool) : Prop := ∀ j o, ops[j]? = some o → L.getD j false = true → ∀ e ∈ o.after, Region.binds .any e = true → L.getD e.on false = true
theorem DC.start (n : Nat) : DC ops (Array.replicate n false) := fun j o _ h => by
  rw [getD_replicate_false] at h; cases h
theorem DC.set {L : Array Bool} (h : DC ops L) {i : Nat} (hi : i ∈ Region.ready .any ops L) : DC ops (L.setIfInBounds i true) := by
  obtain ⟨_, o, ho, hall⟩ := mem_ready.1 hi
  have keep : ∀ k, L.getD k false = true → (L.setIfInBounds i true).getD k false = true := fun k hk => by
    by_cases hik : i = k
    · subst hik
      rw [Array.getD_eq_getD_getElem?] at hk ⊢
      rw [Array.getElem?_setIfInBounds_self]
      split
      · rfl
      · rename_i hlt
        rw [Array.getElem?_eq_none (by omega)] at hk; simp at hk
    · rw [getD_set_ne false hik]; exact hk
  intro j oj hoj hj e he hb
  by_cases hij : i = j
  · subst hij
    rw [ho] at hoj
    injection hoj with hoj
    subst hoj
    exact keep _ (hall e he hb)
  · rw [getD_set_ne false hij] at hj
    exact keep _ (h j oj hoj hj e he hb)
theorem waits_listed {L : Array Bool} (h : DC ops L) {i : Nat} : ∀ (f j : Nat), waitsT ops f j i = true → (∃ o, ops[j]? = some o ∧ ∀ e ∈ o.after, Region.binds .any e = true → L.getD e.on false = true) → L.getD i false = true
  | 0, _, hw, _ => by simp [waitsT] at hw
  | f + 1, j, hw, ⟨o, ho, hall⟩ => by
    simp only [waitsT, ho, Array.any_eq_true, Bool.and_eq_true, Bool.or_eq_true] at hw
    obtain ⟨k, hk, hb, hw⟩ := hw
    have hl := hall _ (Array.getElem_mem hk) hb
    rcases hw with hw | hw
    · rw [beq_iff_eq] at hw; rw [← hw]; exact hl
    · cases ho2 : ops[o.after[k].on]? with
      | none =>
        cases f with
        | zero => simp [waitsT] at hw
        | succ f => simp [waitsT, ho2] at hw
      | some o2 => exact waits_listed h f _ hw ⟨o2, ho2, fun e he hb2 => h _ o2 ho2 hl e he hb2⟩
def wpAnyG (P : Program) (ops : Array Oper) (Q : Exit → Act → World → Prop) (S : World → Prop) (late : List Nat) : Nat → Array Bool → Act → World → Prop
  | 0, listed, a, w => Region.ready .any ops listed = [] ∧ Q .normal a w
  | fuel + 1, listed, a, w =>
    (Region.ready .any ops listed = [] → Q .normal a w) ∧
    ∀ i ∈ Region.ready .any ops listed, wpOp P ops Q i (fun a' w' => (late.contains i = false → S w') ∧ wpAnyG P ops Q S late fuel (listed.setIfInBounds i true) a' w') a w
variable {late : List Nat}
theorem wpAny_of_G : ∀ (fuel : Nat) (listed : Array Bool) (a : Act) (w : World), wpAnyG P ops Q S late fuel listed a w → wpAny P .any ops Q fuel listed a w
  | 0, _, _, _, h => h
  | fuel + 1, _, _, _, h => ⟨h.1, fun i hi => wpOp_mono (fun a' w' h' => wpAny_of_G fuel _ a' w' h'.2) (h.2 i hi)⟩
theorem wpAnyG_first {i : Nat} {oi : Oper} {v : Value} (hi : ops[i]? = some oi) (hsel : ∀ (j : Nat) (o : Oper) cs b, ops[j]? = some o → o.op ≠ .select cs b)
    (hQ : ∀ c a w, Q (.panic c) (a.put oi.dst v) w → Q (.panic c) a w) (hlate : ∀ j, late.contains j = true → ∃ f, waitsT ops f j i = true) :
    ∀ (fuel : Nat) (listed : Array Bool) (a : Act) (w : World), DC ops listed →
      (∀ j oj, ops[j]? = some oj → j ≠ i → listed.getD j true = false → (∀ e ∈ oj.after, Region.binds .any e = true → e.on ≠ i) → oi.apart ops oj = true) →
      i ∈ Region.ready .any ops listed → YieldsIf P ops S oi v a → S w →
      wpAnyG P ops Q S late fuel (listed.setIfInBounds i true) (a.put oi.dst v) w → wpAnyG P ops Q S late (fuel + 1) listed a w := by
  intro fuel
  induction fuel with
  | zero =>
    intro listed a w hdc hfree hr hy hS H
    refine ⟨fun h => (by rw [h] at hr; cases hr), fun j hj => ?_⟩
    by_cases hji : j = i
    · subst hji; exact hy.wpOp hi hS ⟨fun _ => hS, H⟩
    · have := ready_mono hj hji
      rw [H.1] at this
      cases this
  | succ fuel ih =>
    intro listed a w hdc hfree hr hy hS H
    refine ⟨fun h => (by rw [h] at hr; cases hr), fun j hj => ?_⟩
    by_cases hji : j = i
    · subst hji; exact hy.wpOp hi hS ⟨fun _ => hS, H⟩
    · have h1 := H.2 j (ready_mono hj hji)
      obtain ⟨hjun, oj, hoj, hall⟩ := mem_ready.1 hj
      have hiun := (mem_ready.1 hr).1
      have hif : listed.getD i false = false := getD_both hiun
      have hnl : late.contains j = false := by
        cases hc : late.contains j with
        | false => rfl
        | true =>
          obtain ⟨f, hw⟩ := hlate j hc
          have := waits_listed hdc f j hw ⟨oj, hoj, hall⟩
          rw [hif] at this; cases this
      have hnot : ∀ e ∈ oj.after, Region.binds .any e = true → e.on ≠ i := fun e he hb heq => by
        have h1 := hall e he hb
        rw [heq, hif] at h1; cases h1
      have h2 := wpOp_putIf hoj (hfree j oj hoj hji hjun hnot) (fun cs b => hsel i oi cs b hi) (fun cs b => hsel j oj cs b hoj) hQ hy h1
      have hfree' : ∀ k ok, ops[k]? = some ok → k ≠ i → (listed.setIfInBounds j true).getD k true = false →
          (∀ e ∈ ok.after, Region.binds .any e = true → e.on ≠ i) → oi.apart ops ok = true := fun k ok hk hki hun hno => by
        refine hfree k ok hk hki ?_ hno
        by_cases hjk : j = k
        · subst hjk; exact hjun
        · rw [getD_set_ne true hjk] at hun; exact hun
      refine wpOp_mono (fun a' w' h3 => ⟨h3.2.1, ih (listed.setIfInBounds j true) a' w' (hdc.set hj) hfree' (ready_mono hr (Ne.symm hji)) h3.1 (h3.2.1 hnl) ?_⟩) h2
      rw [Array.setIfInBounds_comm _ _ hji]
      exact h3.2.2
/-- the forced end -/
def wpPt (P : Program) (ops : Array Oper) (Q : Exit → Act → World → Prop) : List Nat → Act → World → Prop
  | [], a, w => Q .normal a w
  | i :: r, a, w => ∀ o, ops[i]? = some o → ∀ K : Act → World → Prop, (∀ a' w', wpPt P ops Q r a' w' → K a' w') → Region.wanted o (yielded ops a.tmps) = true ∧ o.wp P a w K Q
def tailB (ops : Array Oper) : List Nat → Array Bool → Bool
  | [], L => (Region.ready .any ops L).isEmpty
  | i :: r, L => decide (Region.ready .any ops L = [i]) && tailB ops r (L.setIfInBounds i true)
theorem wpAnyG_tail : ∀ (l : List Nat) (listed : Array Bool) (a : Act) (w : World), (∀ i ∈ l, late.contains i = true) → tailB ops l listed = true → wpPt P ops Q l a w → ∀ fuel, l.length ≤ fuel → wpAnyG P ops Q S late fuel listed a w
  | [], listed, a, w, _, hB, h, 0, _ => ⟨by simpa [tailB] using hB, h⟩
  | [], listed, a, w, _, hB, h, fuel + 1, _ => ⟨fun _ => h, fun i hi => absurd hi (by rw [show Region.ready .any ops listed = [] by simpa [tailB] using hB]; simp)⟩
  | i :: r, listed, a, w, _, hB, h, 0, hf => by simp at hf
  | i :: r, listed, a, w, hl, hB, h, fuel + 1, hf => by
    simp only [tailB, Bool.and_eq_true, decide_eq_true_eq] at hB
    refine ⟨fun h0 => (by rw [h0] at hB; simp at hB), fun j hj => ?_⟩
    rw [hB.1] at hj
    obtain rfl : j = i := by simpa using hj
    have hm : j ∈ Region.ready .any ops listed := by rw [hB.1]; simp
    obtain ⟨_, o, ho, _⟩ := mem_ready.1 hm
    obtain ⟨hw, hx⟩ := h o ho (fun a' w' => (late.contains j = false → S w') ∧ wpAnyG P ops Q S late fuel (listed.setIfInBounds j true) a' w') (fun a' w' hr => ⟨fun hc => (by rw [hl j (by simp)] at hc; cases hc), wpAnyG_tail r _ a' w' (fun i hi => hl i (by simp [hi])) hB.2 hr fuel (by simpa using hf)⟩)
    unfold wpOp
    simp only [ho]
    rw [if_pos hw]
    exact .inl hx
def planT (ops : Array Oper) (tl : List Nat) : List (Nat × Bool) → Array Bool → Bool
  | [], listed => tailB ops tl listed
  | (i, true) :: r, listed => (match ops[i]? with | some o => isV o.op | none => false) && (Region.ready .any ops listed).contains i && Region.free .any ops listed i && tl.all (fun j => waitsT ops ops.size j i) && planT ops tl r (listed.setIfInBounds i true)
  | (i, false) :: r, listed => decide (Region.ready .any ops listed = [i]) && !tl.contains i && planT ops tl r (listed.setIfInBounds i true)
def wpPh (P : Program) (ops : Array Oper) (Q : Exit → Act → World → Prop) (S : World → Prop) (tl : List Nat) : List (Nat × Bool) → Act → World → Prop
  | [], a, w => wpPt P ops Q tl a w
  | (i, true) :: r, a, w => ∀ o, ops[i]? = some o → ∃ v, ((Region.wanted o (yielded ops a.tmps) = true ∧ ∀ w, S w → o.quietAt P a (clsS S) w v) ∨ (Region.wanted o (yielded ops a.tmps) = false ∧ v = undef)) ∧ wpPh P ops Q S tl r (a.put o.dst v) w
  | (i, false) :: r, a, w => ∀ o, ops[i]? = some o → ∀ K : Act → World → Prop, (∀ a' w', S w' → wpPh P ops Q S tl r a' w' → K a' w') → Region.wanted o (yielded ops a.tmps) = true ∧ o.wp P a w K Q
theorem wpAnyG_of_plan {tl : List Nat} (hs : Region.noSelect ops = true) (hQ : ∀ c a w, ¬ Q (.panic c) a w) : ∀ (l : List (Nat × Bool)) (listed : Array Bool) (a : Act) (w : World), DC ops listed → S w → planT ops tl l listed = true → wpPh P ops Q S tl l a w → ∀ fuel, l.length + tl.length ≤ fuel → wpAnyG P ops Q S tl fuel listed a w
  | [], listed, a, w, _, _, hB, h, fuel, hf => wpAnyG_tail tl listed a w (fun i hi => by simpa using hi) hB h fuel (by simpa using hf)
  | (i, true) :: r, listed, a, w, hdc, hS, hB, h, 0, hf => by simp at hf
  | (i, false) :: r, listed, a, w, hdc, hS, hB, h, 0, hf => by simp at hf
  | (i, true) :: r, listed, a, w, hdc, hS, hB, h, fuel + 1, hf => by
    simp only [planT, Bool.and_eq_true] at hB
    obtain ⟨⟨⟨⟨h1, h2⟩, h3⟩, h5⟩, h4⟩ := hB
    have h2' : i ∈ Region.ready .any ops listed := by simpa using h2
    cases ho : ops[i]? with
    | none => rw [ho] at h1; cases h1
    | some o =>
      rw [ho] at h1
      obtain ⟨v, hy, hr⟩ := h o ho
      refine wpAnyG_first ho (Region.noSelect_spec hs) (fun c a w hq => absurd hq (hQ _ _ _)) (fun j hj => ⟨ops.size, by rw [List.all_eq_true] at h5; exact h5 j (by simpa using hj)⟩) fuel listed a w hdc (Region.free_spec ho h3) h2' (v := v) ?_ hS (wpAnyG_of_plan hs hQ r _ _ w (hdc.set h2') hS h4 hr fuel (by simp at hf; omega))
      rcases hy with ⟨hw, hy⟩ | hy
      · refine .inl ⟨hw, fun w' hS' => ?_⟩
        have h5 := hy w' hS'
        unfold Oper.quietAt at h5
        cases hr : (execOp a.eval o).run P w' with
        | ok nx w2 =>
          obtain ⟨u, rfl⟩ := isV_spec h1 hr
          rw [hr] at h5
          simp only [Oper.quietUpon] at h5
          rw [h5.1, h5.2]
        | halt x w2 => rw [hr] at h5; simp only [Oper.quietUpon] at h5
      · exact .inr hy
  | (i, false) :: r, listed, a, w, hdc, hS, hB, h, fuel + 1, hf => by
    simp only [planT, Bool.and_eq_true, decide_eq_true_eq, Bool.not_eq_true'] at hB
    obtain ⟨⟨hB1, hB3⟩, hB2⟩ := hB
    refine ⟨fun h0 => (by rw [h0] at hB1; simp at hB1), fun j hj => ?_⟩
    rw [hB1] at hj
    obtain rfl : j = i := by simpa using hj
    have hm : j ∈ Region.ready .any ops listed := by rw [hB1]; simp
    obtain ⟨_, o, ho, _⟩ := mem_ready.1 hm
    obtain ⟨hw, hx⟩ := h o ho (fun a' w' => (tl.contains j = false → S w') ∧ wpAnyG P ops Q S tl fuel (listed.setIfInBounds j true) a' w') (fun a' w' hS' hr => ⟨fun _ => hS', wpAnyG_of_plan hs hQ r _ a' w' (hdc.set hm) hS' hB2 hr fuel (by simp at hf; omega)⟩)
    unfold wpOp
    simp only [ho]
    rw [if_pos hw]
    exact .inl hx
theorem wp_region_planT {id : Nat} {a : Act} {w : World} {l : List Oper} (S : World → Prop) (pl : List (Nat × Bool)) (tl : List Nat) (hm : P.follows .mixedOrders = true) (hs : Region.noSelect l.toArray = true) (hB : planT l.toArray tl pl (Array.replicate l.length false) = true) (hl : pl.length + tl.length = l.length) (hS : S w.drew)
    (h : wpPh P l.toArray (NoPanic Q) S tl pl a w.drew) : (Code.region id l.toArray true).wp P Q a w := by
  refine wp_region_noPanic (wp_region_any hm (wpAny_of_G (S := S) (late := tl) _ _ _ _ ?_))
  have := wpAnyG_of_plan (P := P) (Q := NoPanic Q) (S := S) (tl := tl) hs (fun c a w h => h) pl (Array.replicate l.length false) a w.drew (DC.start _) hS hB h l.length (by omega)
  simpa using this
/-- a run of operations that only reckon and read -/
theorem wpPh_qs {tl : List Nat} : ∀ (n : Nat) (l : List (Nat × Bool)) (a : Act) (w : World), ((l.take n).all fun x => x.2) = true → ((l.take n).all fun x => (ops[x.1]?).isSome) = true → n ≤ l.length →
    wpQuiet P ops (clsS S) (fun a' => wpPh P ops Q S tl (l.drop n) a' w) ((l.take n).filterMap fun x => ops[x.1]?) a → wpPh P ops Q S tl l a w
  | 0, l, a, w, _, _, _, h => h
  | n + 1, [], a, w, _, _, hn, _ => by simp at hn
  | n + 1, (i, false) :: l, a, w, h1, _, _, _ => by simp at h1
  | n + 1, (i, true) :: l, a, w, h1, h2, hn, h => by
    simp only [List.take_succ_cons, List.all_cons, Bool.and_eq_true] at h1 h2
    intro o ho
    simp only [List.take_succ_cons, List.drop_succ_cons, List.filterMap_cons, ho, wpQuiet] at h
    by_cases hw : Region.wanted o (yielded ops a.tmps) = true
    · rw [if_pos hw] at h
      obtain ⟨v, h3, h4⟩ := h
      exact ⟨v, .inl ⟨hw, fun w' hS => h3 w' ⟨⟨w', hS⟩, rfl⟩⟩, wpPh_qs n l _ w h1.2 h2.2 (by simpa using hn) h4⟩
    · rw [if_neg hw] at h
      exact ⟨undef, .inr ⟨by simpa using hw, rfl⟩, wpPh_qs n l _ w h1.2 h2.2 (by simpa using hn) h⟩
theorem wpPh_e {tl : List Nat} {i : Nat} {r : List (Nat × Bool)} {a : Act} {w : World} (o : Oper) (ho : ops[i]? = some o) (hw : Region.wanted o (yielded ops a.tmps) = true)
    (h : ∀ K : Act → World → Prop, (∀ a' w', S w' → wpPh P ops Q S tl r a' w' → K a' w') → o.wp P a w K Q) : wpPh P ops Q S tl ((i, false) :: r) a w :=
  fun o' ho' K hK => by
    obtain rfl : o = o' := Option.some.inj (ho.symm.trans ho')
    exact ⟨hw, h K hK⟩
theorem wpPt_e {i : Nat} {r : List Nat} {a : Act} {w : World} (o : Oper) (ho : ops[i]? = some o) (hw : Region.wanted o (yielded ops a.tmps) = true)
    (h : ∀ K : Act → World → Prop, (∀ a' w', wpPt P ops Q r a' w' → K a' w') → o.wp P a w K Q) : wpPt P ops Q (i :: r) a w :=
  fun o' ho' K hK => by
    obtain rfl : o = o' := Option.some.inj (ho.symm.trans ho')
    exact ⟨hw, h K hK⟩
end
end Go.Proofs.Ytjaacmecniijgaa
