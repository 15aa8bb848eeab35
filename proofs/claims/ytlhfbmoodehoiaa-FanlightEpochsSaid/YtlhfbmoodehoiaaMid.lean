/- A region that draws its order: reads and quiet calls; ONE call with an effect, which all that stands ahead of it leads to; reads of what it left. -/
import Derived.Test.YtlhfbmoodehoiaaPlan
namespace Go.Proofs.Ytlhfbmoodehoiaa
set_option linter.unusedVariables false
set_option linter.unusedSimpArgs false
open Go.RowKit
section
variable {P : Program} {ops : Array Oper} {Pre Post : World → Prop}
structure Closed (ops : Array Oper) (listed : Array Bool) : Prop where
  size : listed.size = ops.size
  closed : ∀ j oj, ops[j]? = some oj → listed.getD j false = true → ∀ e ∈ oj.after, Region.binds .any e = true → listed.getD e.on false = true
theorem Closed.set {listed : Array Bool} (h : Closed ops listed) {i : Nat} {o : Oper} (ho : ops[i]? = some o) (hr : Ready i o listed) : Closed ops (listed.setIfInBounds i true) := by
  refine ⟨by simp [h.size], fun j oj hj hl e he hb => ?_⟩
  by_cases hij : i = j
  · subst hij
    have : oj = o := Option.some.inj (hj.symm.trans ho)
    subst this
    exact getD_set_true (hr.2 e he hb)
  · rw [getD_set_ne false hij] at hl
    exact getD_set_true (h.closed j oj hj hl e he hb)
theorem Closed.down {listed : Array Bool} (h : Closed ops listed) {n : Nat} (hs : Region.sinkB .any ops n = true) (hn : listed.getD n false = true) : ∀ (d k : Nat), n - k = d → k < n → listed.getD k false = true := by
  intro d
  induction d using Nat.strongRecOn with
  | _ d ih =>
    intro k hd hk
    have h1 := List.all_eq_true.1 hs k (List.mem_range.2 hk)
    obtain ⟨j, hj, hj2⟩ := List.any_eq_true.1 h1
    simp only [Bool.and_eq_true, decide_eq_true_eq] at hj2
    obtain ⟨oj, hoj, e, he, hb, hon⟩ := Region.waitsFor_spec hj2.2
    have hjn : j ≤ n := by have := List.mem_range.1 hj; omega
    have hlj : listed.getD j false = true := by
      by_cases hjn' : j = n
      · rw [hjn']; exact hn
      · exact ih (n - j) (by omega) j rfl (by omega)
    have := h.closed j oj hoj hlj e he hb
    rwa [hon] at this
theorem Closed.up {listed : Array Bool} (h : Closed ops listed) {n : Nat} (hc : gateB .any ops n = true) : ∀ (k : Nat), n < k → k < ops.size → ∀ o, ops[k]? = some o → (∀ e ∈ o.after, Region.binds .any e = true → listed.getD e.on false = true) → listed.getD n false = true := by
  intro k
  induction k using Nat.strongRecOn with
  | _ k ih =>
    intro hnk hks o ho hall
    have h1 := List.all_eq_true.1 hc k (List.mem_range.2 hks)
    simp only [Bool.or_eq_true, decide_eq_true_eq] at h1
    rcases h1 with h1 | h1
    · omega
    · obtain ⟨s, hs1, hs2⟩ := List.any_eq_true.1 h1
      simp only [Bool.and_eq_true, decide_eq_true_eq] at hs2
      obtain ⟨o', ho', e, he, hb, hon⟩ := Region.waitsFor_spec hs2.2
      have : o' = o := Option.some.inj (ho'.symm.trans ho)
      subst this
      have h2 := hall e he hb
      rw [hon] at h2
      have hsk := List.mem_range.1 hs1
      by_cases hsn : s = n
      · rw [← hsn]; exact h2
      · obtain ⟨os, hos⟩ : ∃ os, ops[s]? = some os := ⟨_, Array.getElem?_eq_getElem (by omega)⟩
        exact ih s hsk (by omega) (by omega) os hos (h.closed s os hos h2)
def clsM (ops : Array Oper) (n : Nat) (Pre Post : World → Prop) (listed : Array Bool) (w : World) : Prop :=
  Closed ops listed ∧ (listed.getD n false = false → Pre w) ∧ (listed.getD n false = true → Post w)
theorem YE.pre {n k : Nat} (hs : Region.sinkB .any ops n = true) (hk : k < n) {o : Oper} (ho : ops[k]? = some o) {v : Value} {a : Act} (hy : YieldsIn P ops Pre o v a) : YE P ops (clsM ops n Pre Post) k o v a := by
  have hset : ∀ (listed : Array Bool) (w w' : World), Ready k o listed → clsM ops n Pre Post listed w → Pre w' → clsM ops n Pre Post (listed.setIfInBounds k true) w' := fun listed w w' hr hC hp => by
    have hnf : listed.getD n false = false := by
      cases hl : listed.getD n false with
      | false => rfl
      | true => have := hC.1.down hs hl _ k rfl hk; rw [getD_both hr.1] at this; cases this
    refine ⟨hC.1.set ho hr, fun _ => hp, fun h => ?_⟩
    rw [getD_set_ne false (by omega), hnf] at h
    cases h
  have hpre : ∀ (listed : Array Bool) (w : World), Ready k o listed → clsM ops n Pre Post listed w → Pre w := fun listed w hr hC => hC.2.1 (by
    cases hl : listed.getD n false with
    | false => rfl
    | true => have := hC.1.down hs hl _ k rfl hk; rw [getD_both hr.1] at this; cases this)
  rcases hy with ⟨hw, hy⟩ | ⟨hw, rfl⟩
  · refine .inl ⟨hw, fun listed w hr hC => ?_⟩
    have hp := hpre listed w hr hC
    have h3 := hy w hp
    unfold Oper.quietAt at h3
    generalize (execOp a.eval o).run P w = r at *
    cases r with
    | ok x w' =>
      cases x <;> simp only [Oper.quietUpon] at h3 <;> simp only [effUpon]
      case value u => exact ⟨h3.2, hset listed w w' hr hC (h3.1 ▸ hp)⟩
      case skip => exact ⟨h3.2, hset listed w w' hr hC (h3.1 ▸ hp)⟩
      case enter f args => rw [h3.1]; exact h3.2.mono fun e w'' ⟨he, hw''⟩ => ⟨he, hset listed w w'' hr hC hw''⟩
    | halt x w' => simp only [Oper.quietUpon] at h3
  · exact .inr ⟨hw, rfl, fun listed w hr hC => hset listed w w hr hC (hpre listed w hr hC)⟩
theorem YE.post {n k : Nat} (hc : gateB .any ops n = true) (hk : n < k) {o : Oper} (ho : ops[k]? = some o) {v : Value} {a : Act} (hy : YieldsIn P ops Post o v a) : YE P ops (clsM ops n Pre Post) k o v a := by
  have hks : k < ops.size := (Array.getElem?_eq_some_iff.1 ho).1
  have hset : ∀ (listed : Array Bool) (w w' : World), Ready k o listed → clsM ops n Pre Post listed w → Post w' → clsM ops n Pre Post (listed.setIfInBounds k true) w' := fun listed w w' hr hC hp => by
    have hnt := hC.1.up hc k hk hks o ho hr.2
    refine ⟨hC.1.set ho hr, fun h => ?_, fun _ => hp⟩
    rw [getD_set_ne false (by omega), hnt] at h
    cases h
  have hpost : ∀ (listed : Array Bool) (w : World), Ready k o listed → clsM ops n Pre Post listed w → Post w := fun listed w hr hC => hC.2.2 (hC.1.up hc k hk hks o ho hr.2)
  rcases hy with ⟨hw, hy⟩ | ⟨hw, rfl⟩
  · refine .inl ⟨hw, fun listed w hr hC => ?_⟩
    have hp := hpost listed w hr hC
    have h3 := hy w hp
    unfold Oper.quietAt at h3
    generalize (execOp a.eval o).run P w = r at *
    cases r with
    | ok x w' =>
      cases x <;> simp only [Oper.quietUpon] at h3 <;> simp only [effUpon]
      case value u => exact ⟨h3.2, hset listed w w' hr hC (h3.1 ▸ hp)⟩
      case skip => exact ⟨h3.2, hset listed w w' hr hC (h3.1 ▸ hp)⟩
      case enter f args => rw [h3.1]; exact h3.2.mono fun e w'' ⟨he, hw''⟩ => ⟨he, hset listed w w'' hr hC hw''⟩
    | halt x w' => simp only [Oper.quietUpon] at h3
  · exact .inr ⟨hw, rfl, fun listed w hr hC => hset listed w w hr hC (hpost listed w hr hC)⟩
theorem yieldsIn_of {Q : Act → Prop} {o : Oper} {rest : List Oper} {a : Act} (h : wpQuiet P ops Pre Q (o :: rest) a) : ∃ v, YieldsIn P ops Pre o v a ∧ wpQuiet P ops Pre Q rest (a.put o.dst v) := by
  unfold wpQuiet at h
  split at h
  · rename_i hw; obtain ⟨v, h1, h2⟩ := h; exact ⟨v, .inl ⟨hw, h1⟩, h2⟩
  · rename_i hw; exact ⟨undef, .inr ⟨by simpa using hw, rfl⟩, h⟩
theorem wpE_post {n : Nat} (hc : gateB .any ops n = true) {Q : Act → Prop} : ∀ (l : List Oper) (k : Nat) (a : Act), (∀ j, l[j]? = ops[k + j]?) → n < k → wpQuiet P ops Post Q l a → wpE P ops (clsM ops n Pre Post) Q k l a
  | [], _, _, _, _, h => h
  | o :: l, k, a, hl, hk, h => by
    have h0 : ops[k]? = some o := by simpa using (hl 0).symm
    obtain ⟨v, hy, hr⟩ := yieldsIn_of h
    exact ⟨v, YE.post hc hk h0 hy, wpE_post hc l (k + 1) _ (fun j => by have := hl (j + 1); simpa [Nat.add_assoc, Nat.add_comm 1 j] using this) (by omega) hr⟩
/-- the call itself -/
def MidOp (P : Program) (ops : Array Oper) (Pre Post : World → Prop) (o : Oper) (a : Act) (K : Act → Prop) : Prop :=
  Region.wanted o (yielded ops a.tmps) = true ∧ ∃ v, (∀ t : Tw Pre, ∃ f args, (execOp a.eval o).run P t.w = .ok (.enter f args) t.w ∧ Calls P f args t.w fun e w'' => e = .returned v ∧ Post w'') ∧ K (a.put o.dst v)
theorem wpE_mid {n : Nat} (hs : Region.sinkB .any ops n = true) (hc : gateB .any ops n = true) {o : Oper} (ho : ops[n]? = some o) {Q : Act → Prop} : ∀ (l l2 : List Oper) (k : Nat) (a : Act), (∀ j, (l ++ o :: l2)[j]? = ops[k + j]?) → k + l.length = n →
    wpQuiet P ops Pre (fun a' => MidOp P ops Pre Post o a' fun a2 => wpQuiet P ops Post Q l2 a2) l a → wpE P ops (clsM ops n Pre Post) Q k (l ++ o :: l2) a
  | [], l2, k, a, hl, hk, h => by
    obtain rfl : k = n := by simpa using hk
    obtain ⟨hw, v, h1, h2⟩ := h
    refine ⟨v, .inl ⟨hw, fun listed w hr hC => ?_⟩, wpE_post hc l2 (k + 1) _ (fun j => by have := hl (j + 1); simpa [Nat.add_assoc, Nat.add_comm 1 j] using this) (by omega) h2⟩
    obtain ⟨f, args, hx, hcall⟩ := h1 ⟨w, hC.2.1 (getD_both hr.1)⟩
    have hx' : (execOp a.eval o).run P w = .ok (.enter f args) w := hx
    rw [hx']
    simp only [effUpon]
    refine hcall.mono fun e w'' ⟨he, hp⟩ => ⟨he, hC.1.set ho hr, fun h => ?_, fun _ => hp⟩
    have hks : k < listed.size := by rw [hC.1.size]; exact (Array.getElem?_eq_some_iff.1 ho).1
    have : (listed.setIfInBounds k true).getD k false = true := by simp [hks]
    rw [this] at h; cases h
  | o' :: l, l2, k, a, hl, hk, h => by
    have h0 : ops[k]? = some o' := by simpa using (hl 0).symm
    obtain ⟨v, hy, hr⟩ := yieldsIn_of h
    exact ⟨v, YE.pre hs (by simp only [List.length_cons] at hk; omega) h0 hy, wpE_mid hs hc ho l l2 (k + 1) _ (fun j => by have := hl (j + 1); simpa [Nat.add_assoc, Nat.add_comm 1 j] using this) (by simp only [List.length_cons] at hk; omega) hr⟩
theorem getD_sets_true : ∀ (m k : Nat) (listed : Array Bool), k + m ≤ listed.size → ∀ i, (listed.getD i false = true ∨ k ≤ i ∧ i < k + m) → (sets listed k m).getD i false = true
  | 0, k, listed, _, i, h => by rcases h with h | h; exact h; omega
  | m + 1, k, listed, hs, i, h => by
    refine getD_sets_true m (k + 1) _ (by simp; omega) i ?_
    by_cases hik : i = k
    · subst hik; exact .inl (by simp; omega)
    · rcases h with h | h
      · exact .inl (getD_set_true h)
      · exact .inr (by omega)
/-- reads and quiet calls (class Pre); the call number n (it leaves class Post); reads and quiet calls of Post -/
theorem wp_region_mid {id : Nat} {Q : Exit → Act → World → Prop} {a : Act} {w : World} {l : List Oper} (n : Nat) (o : Oper) (Pre Post : World → Prop) (ho : l.toArray[n]? = some o) (hm : P.follows .mixedOrders = true) (hB : Region.lexB .any l.toArray = true)
    (hs : Region.sinkB .any l.toArray n = true) (hc : gateB .any l.toArray n = true) (hP : Pre w.drew)
    (h0 : wpQuiet P l.toArray (clsS Pre) (fun a' => MidOp P l.toArray Pre Post o a' fun a2 => Nonempty (Tw Post) → wpQuiet P l.toArray (clsS Post) (fun a3 => ∀ t : Tw Post, Q .normal a3 t.w) (l.drop (n + 1)) a2) (l.take n) a) : (Code.region id l.toArray true).wp P Q a w := by
  have hnone : ¬ Nonempty (Tw Post) → ∀ (l2 : List Oper) (a2 : Act), wpQuiet P l.toArray (clsS Post) (fun a3 => ∀ t : Tw Post, Q .normal a3 t.w) l2 a2 := by
    intro hne l2
    induction l2 with
    | nil => exact fun a2 t => absurd ⟨t⟩ hne
    | cons o2 l2 ih =>
      intro a2
      unfold wpQuiet
      split
      · exact ⟨undef, fun w' ⟨t, _⟩ => absurd ⟨t⟩ hne, ih _⟩
      · exact ih _
  have h : wpQuiet P l.toArray (clsS Pre) (fun a' => MidOp P l.toArray Pre Post o a' fun a2 => wpQuiet P l.toArray (clsS Post) (fun a3 => ∀ t : Tw Post, Q .normal a3 t.w) (l.drop (n + 1)) a2) (l.take n) a := by
    have hm2 : ∀ (l1 : List Oper) (a1 : Act), wpQuiet P l.toArray (clsS Pre) (fun a' => MidOp P l.toArray Pre Post o a' fun a2 => Nonempty (Tw Post) → wpQuiet P l.toArray (clsS Post) (fun a3 => ∀ t : Tw Post, Q .normal a3 t.w) (l.drop (n + 1)) a2) l1 a1 →
        wpQuiet P l.toArray (clsS Pre) (fun a' => MidOp P l.toArray Pre Post o a' fun a2 => wpQuiet P l.toArray (clsS Post) (fun a3 => ∀ t : Tw Post, Q .normal a3 t.w) (l.drop (n + 1)) a2) l1 a1 := by
      intro l1
      induction l1 with
      | nil => exact fun a1 ⟨h1, v, h2, h3⟩ => ⟨h1, v, h2, (Classical.em (Nonempty (Tw Post))).elim h3 (fun hn => hnone hn _ _)⟩
      | cons o2 l2 ih =>
        intro a2 h
        unfold wpQuiet at h ⊢
        split
        · rename_i hw; rw [if_pos hw] at h; exact Oper.quiet_mono (fun a h => ih a h) h
        · rename_i hw; rw [if_neg hw] at h; exact ih _ h
    exact hm2 _ _ h0
  have hn : n < l.length := by simpa using (Array.getElem?_eq_some_iff.1 ho).1
  have hcl : ∀ S : World → Prop, clsS S = S := fun S => by
    funext w'; apply propext; constructor
    · rintro ⟨t, rfl⟩; exact t.h
    · intro h; exact ⟨⟨w', h⟩, rfl⟩
  rw [hcl Pre, hcl Post] at h
  refine wp_region_E (clsM l.toArray n Pre Post) hm hB ⟨⟨by simp, fun j oj _ hl => by rw [getD_replicate_false] at hl; cases hl⟩, fun _ => hP, fun h => by rw [getD_replicate_false] at h; cases h⟩ ?_
  have hsplit : l = l.take n ++ o :: l.drop (n + 1) := by
    have e1 : l[n]? = some o := by simpa using ho
    have e2 := List.getElem_of_getElem? e1
    obtain ⟨hn', e3⟩ := e2
    rw [← e3, ← List.drop_eq_getElem_cons hn', List.take_append_drop]
  have hfin : ∀ a3, (∀ t : Tw Post, Q .normal a3 t.w) → ∀ w', clsM l.toArray n Pre Post (sets (Array.replicate l.length false) 0 l.length) w' → Q .normal a3 w' := fun a3 hq w' hC =>
    hq ⟨w', hC.2.2 (getD_sets_true _ _ _ (by simp) n (.inr ⟨by omega, by omega⟩))⟩
  have hmono : ∀ (l2 : List Oper) (a2 : Act), wpQuiet P l.toArray Post (fun a3 => ∀ t : Tw Post, Q .normal a3 t.w) l2 a2 → wpQuiet P l.toArray Post (fun a3 => ∀ w', clsM l.toArray n Pre Post (sets (Array.replicate l.length false) 0 l.length) w' → Q .normal a3 w') l2 a2 := by
    intro l2
    induction l2 with
    | nil => exact fun a2 h => hfin a2 h
    | cons o2 l2 ih =>
      intro a2 h
      unfold wpQuiet at h ⊢
      split
      · rename_i hw; rw [if_pos hw] at h; exact Oper.quiet_mono (fun a h => ih a h) h
      · rename_i hw; rw [if_neg hw] at h; exact ih _ h
  have hmono2 : ∀ (l1 : List Oper) (a1 : Act), wpQuiet P l.toArray Pre (fun a' => MidOp P l.toArray Pre Post o a' fun a2 => wpQuiet P l.toArray Post (fun a3 => ∀ t : Tw Post, Q .normal a3 t.w) (l.drop (n + 1)) a2) l1 a1 →
      wpQuiet P l.toArray Pre (fun a' => MidOp P l.toArray Pre Post o a' fun a2 => wpQuiet P l.toArray Post (fun a3 => ∀ w', clsM l.toArray n Pre Post (sets (Array.replicate l.length false) 0 l.length) w' → Q .normal a3 w') (l.drop (n + 1)) a2) l1 a1 := by
    intro l1
    induction l1 with
    | nil => exact fun a1 ⟨h1, v, h2, h3⟩ => ⟨h1, v, h2, hmono _ _ h3⟩
    | cons o2 l2 ih =>
      intro a2 h
      unfold wpQuiet at h ⊢
      split
      · rename_i hw; rw [if_pos hw] at h; exact Oper.quiet_mono (fun a h => ih a h) h
      · rename_i hw; rw [if_neg hw] at h; exact ih _ h
  have := wpE_mid (P := P) (Pre := Pre) (Post := Post) hs hc ho (Q := fun a3 => ∀ w', clsM l.toArray n Pre Post (sets (Array.replicate l.length false) 0 l.length) w' → Q .normal a3 w') (l.take n) (l.drop (n + 1)) 0 a
    (fun j => by rw [← hsplit]; simp) (by rw [List.length_take]; omega) (hmono2 _ _ h)
  rwa [← hsplit] at this
end
end Go.Proofs.Ytlhfbmoodehoiaa
