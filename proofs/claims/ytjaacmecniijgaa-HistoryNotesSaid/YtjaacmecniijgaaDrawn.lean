/- A region that draws its order and has effects of its own: one walk in the order of the text, over classes of worlds that say what is done by then. -/
import Derived.Test.YtjaacmecniijgaaQuiet
import Derived.StillTailTactics
namespace Go.Proofs.Ytjaacmecniijgaa
set_option linter.unusedVariables false
set_option linter.unusedSimpArgs false
open Go.RowKit
section
variable {P : Program} {ops : Array Oper} {C : Array Bool → World → Prop}
def effUpon (P : Program) (C : World → Prop) (v : Value) : Result Next → Prop
  | .ok (.value u) w' => u = v ∧ C w'
  | .ok .skip w' => v = undef ∧ C w'
  | .ok (.enter f args) w' => Calls P f args w' (fun e w'' => e = .returned v ∧ C w'')
  | _ => False
def Ready (i : Nat) (o : Oper) (listed : Array Bool) : Prop := listed.getD i true = false ∧ ∀ e ∈ o.after, Region.binds .any e = true → listed.getD e.on false = true
def eff (P : Program) (C : Array Bool → World → Prop) (i : Nat) (o : Oper) (a : Act) (v : Value) : Prop :=
  ∀ listed w, Ready i o listed → C listed w → effUpon P (C (listed.setIfInBounds i true)) v ((execOp a.eval o).run P w)
def YE (P : Program) (ops : Array Oper) (C : Array Bool → World → Prop) (i : Nat) (o : Oper) (v : Value) (a : Act) : Prop :=
  (Region.wanted o (yielded ops a.tmps) = true ∧ eff P C i o a v) ∨
  (Region.wanted o (yielded ops a.tmps) = false ∧ v = undef ∧ ∀ listed w, Ready i o listed → C listed w → C (listed.setIfInBounds i true) w)
def eOp (P : Program) (ops : Array Oper) (C : Array Bool → World → Prop) (i : Nat) (K : Act → Prop) (a : Act) : Prop :=
  match ops[i]? with
  | none => K a
  | some o => ∃ v, YE P ops C i o v a ∧ K (a.put o.dst v)
def wpAnyE (P : Program) (ops : Array Oper) (C : Array Bool → World → Prop) (Q : Array Bool → Act → Prop) : Nat → Array Bool → Act → Prop
  | 0, listed, a => Region.ready .any ops listed = [] ∧ Q listed a
  | fuel + 1, listed, a =>
    (Region.ready .any ops listed = [] → Q listed a) ∧
    ∀ i ∈ Region.ready .any ops listed, eOp P ops C i (wpAnyE P ops C Q fuel (listed.setIfInBounds i true)) a
theorem eOp_mono {i : Nat} {a : Act} {K K' : Act → Prop} (h : ∀ a, K a → K' a) (hh : eOp P ops C i K a) : eOp P ops C i K' a := by
  unfold eOp at *
  split
  · exact h _ (by simpa [*] using hh)
  · rename_i o ho
    simp only [ho] at hh
    obtain ⟨v, h1, h2⟩ := hh
    exact ⟨v, h1, h _ h2⟩
theorem wpOp_of_eOp {i : Nat} {a : Act} {K : Act → Prop} {K' : Act → World → Prop} {Q' : Exit → Act → World → Prop} {w : World} {listed : Array Bool} (hi : i ∈ Region.ready .any ops listed) (hC : C listed w)
    (h : ∀ a w', C (listed.setIfInBounds i true) w' → K a → K' a w') (hh : eOp P ops C i K a) : wpOp P ops Q' i K' a w := by
  obtain ⟨h1, o, ho, h2⟩ := mem_ready.1 hi
  have hr : Ready i o listed := ⟨h1, h2⟩
  unfold eOp at hh
  simp only [ho] at hh
  obtain ⟨v, hy, hK⟩ := hh
  unfold wpOp
  simp only [ho]
  rcases hy with ⟨hw, he⟩ | ⟨hw, rfl, he⟩
  · simp only [hw, if_true]
    left
    have h3 := he listed w hr hC
    unfold Oper.wp
    generalize (execOp a.eval o).run P w = r at *
    cases r with
    | ok n w' =>
      cases n <;> simp only [effUpon] at h3 <;> simp only [Oper.upon]
      case value u =>
        obtain ⟨e1, e2⟩ := h3
        rw [e1]
        exact h _ _ e2 hK
      case skip =>
        obtain ⟨e1, e2⟩ := h3
        rw [← e1]
        exact h _ _ e2 hK
      case enter f args => exact h3.mono fun e w'' ⟨he, hw''⟩ => by subst he; exact h _ _ hw'' hK
    | halt x w' => simp only [effUpon] at h3
  · simp only [hw, Bool.false_eq_true, if_false]
    exact h _ _ (he listed w hr hC) hK
theorem wpAny_of_E {Q : Array Bool → Act → Prop} {Q' : Exit → Act → World → Prop} (hQ : ∀ listed a w, C listed w → Q listed a → Q' .normal a w) : ∀ (fuel : Nat) (listed : Array Bool) (a : Act) (w : World), C listed w →
    wpAnyE P ops C Q fuel listed a → wpAny P .any ops Q' fuel listed a w
  | 0, _, _, _, hw, h => ⟨h.1, hQ _ _ _ hw h.2⟩
  | fuel + 1, _, _, _, hw, h => ⟨fun h0 => hQ _ _ _ hw (h.1 h0), fun i hi => wpOp_of_eOp hi hw (fun a' w' hw' => wpAny_of_E hQ fuel _ a' w' hw') (h.2 i hi)⟩
theorem YE.of_same {i : Nat} {o : Oper} {v : Value} {a a' : Act} (hy : YE P ops C i o v a) (he : execOp a'.eval o = execOp a.eval o)
    (hw : Region.wanted o (yielded ops a'.tmps) = Region.wanted o (yielded ops a.tmps)) : YE P ops C i o v a' := by
  unfold YE eff at *
  rw [he, hw]
  exact hy
theorem eOp_put {i j : Nat} {oi oj : Oper} {v : Value} (hj : ops[j]? = some oj) (hap : oi.apart ops oj = true)
    (hsi : ∀ cs b, oi.op ≠ .select cs b) (hsj : ∀ cs b, oj.op ≠ .select cs b) {K : Act → Prop} {a : Act}
    (hy : YE P ops C i oi v a) (h : eOp P ops C j K (a.put oi.dst v)) :
    eOp P ops C j (fun a' => YE P ops C i oi v a' ∧ K (a'.put oi.dst v)) a := by
  obtain ⟨h1, h2, h3⟩ := Oper.apart_spec hap
  have keep : ∀ (a : Act), YE P ops C i oi v a → ∀ u, YE P ops C i oi v (a.put oj.dst u) := fun a hy u =>
    hy.of_same (execOp_put oi hsi a oj.dst u h3) (wanted_put oi a oj.dst u h3)
  unfold eOp at *
  simp only [hj] at *
  obtain ⟨u, hu, hn⟩ := h
  refine ⟨u, ?_, keep a hy u, by rw [← Act.put_comm a v u h2]; exact hn⟩
  exact hu.of_same (execOp_put oj hsj a oi.dst v h1).symm (wanted_put oj a oi.dst v h1).symm
theorem wpAnyE_first {Q : Array Bool → Act → Prop} {i : Nat} {oi : Oper} {v : Value} (hi : ops[i]? = some oi) (hsel : ∀ (j : Nat) (o : Oper) cs b, ops[j]? = some o → o.op ≠ .select cs b) :
    ∀ (fuel : Nat) (listed : Array Bool) (a : Act),
      (∀ j oj, ops[j]? = some oj → j ≠ i → listed.getD j true = false → (∀ e ∈ oj.after, Region.binds .any e = true → e.on ≠ i) → oi.apart ops oj = true) →
      i ∈ Region.ready .any ops listed → YE P ops C i oi v a →
      wpAnyE P ops C Q fuel (listed.setIfInBounds i true) (a.put oi.dst v) → wpAnyE P ops C Q (fuel + 1) listed a := by
  intro fuel
  have hdo : ∀ {listed : Array Bool} {a : Act} {K : Act → Prop}, YE P ops C i oi v a → K (a.put oi.dst v) → eOp P ops C i K a := fun hy hK => by
    unfold eOp; simp only [hi]; exact ⟨v, hy, hK⟩
  induction fuel with
  | zero =>
    intro listed a _ hr hy H
    refine ⟨fun h => (by rw [h] at hr; cases hr), fun j hj => ?_⟩
    by_cases hji : j = i
    · subst hji; exact hdo (listed := listed) hy H
    · have := ready_mono hj hji
      rw [H.1] at this
      cases this
  | succ fuel ih =>
    intro listed a hfree hr hy H
    refine ⟨fun h => (by rw [h] at hr; cases hr), fun j hj => ?_⟩
    by_cases hji : j = i
    · subst hji; exact hdo (listed := listed) hy H
    · have h1 := H.2 j (ready_mono hj hji)
      obtain ⟨hjun, oj, hoj, hall⟩ := mem_ready.1 hj
      have hnot : ∀ e ∈ oj.after, Region.binds .any e = true → e.on ≠ i := fun e he hb heq => by
        have h1 := hall e he hb
        have h0 := (mem_ready.1 hr).1
        rw [heq] at h1
        rcases Nat.lt_or_ge i listed.size with h' | h'
        · simp [h'] at h0 h1; rw [h0] at h1; cases h1
        · simp [Array.getElem?_eq_none h'] at h1
      have h2 := eOp_put hoj (hfree j oj hoj hji hjun hnot) (fun cs b => hsel i oi cs b hi) (fun cs b => hsel j oj cs b hoj) hy h1
      have hfree' : ∀ k ok, ops[k]? = some ok → k ≠ i → (listed.setIfInBounds j true).getD k true = false →
          (∀ e ∈ ok.after, Region.binds .any e = true → e.on ≠ i) → oi.apart ops ok = true := fun k ok hk hki hun hno => by
        refine hfree k ok hk hki ?_ hno
        by_cases hjk : j = k
        · subst hjk; exact hjun
        · rw [getD_set_ne true hjk] at hun; exact hun
      refine eOp_mono (fun a' h3 => ih (listed.setIfInBounds j true) a' hfree' (ready_mono hr (Ne.symm hji)) h3.1 ?_) h2
      rw [Array.setIfInBounds_comm _ _ hji]
      exact h3.2
/-- the walk in the order of the text -/
def wpE (P : Program) (ops : Array Oper) (C : Array Bool → World → Prop) (Q : Act → Prop) : Nat → List Oper → Act → Prop
  | _, [], a => Q a
  | k, o :: l, a => ∃ v, YE P ops C k o v a ∧ wpE P ops C Q (k + 1) l (a.put o.dst v)
def sets : Array Bool → Nat → Nat → Array Bool
  | listed, _, 0 => listed
  | listed, k, n + 1 => sets (listed.setIfInBounds k true) (k + 1) n
theorem wpAnyE_lex {Q : Array Bool → Act → Prop} (hs : Region.noSelect ops = true) : ∀ (l : List Oper) (k : Nat) (listed : Array Bool) (a : Act), (∀ j, l[j]? = ops[k + j]?) →
    Region.lexFrom .any ops l.length k listed = true → wpE P ops C (Q (sets listed k l.length)) k l a → wpAnyE P ops C Q l.length listed a
  | [], _, _, _, _, hB, h => ⟨by simpa [Region.lexFrom] using hB, h⟩
  | o :: l, k, listed, a, hl, hB, h => by
    have h0 : ops[k]? = some o := by simpa using (hl 0).symm
    simp only [List.length_cons, Region.lexFrom, Bool.and_eq_true] at hB
    obtain ⟨⟨hr, hf⟩, hB'⟩ := hB
    obtain ⟨v, hy, hK⟩ := h
    exact wpAnyE_first h0 (Region.noSelect_spec hs) l.length listed a (Region.free_spec h0 hf) (by simpa using hr) hy
      (wpAnyE_lex hs l (k + 1) _ _ (fun j => by have := hl (j + 1); simpa [Nat.add_assoc, Nat.add_comm 1 j] using this) hB' hK)
theorem wp_region_E {id : Nat} {Q : Exit → Act → World → Prop} {a : Act} {w : World} {l : List Oper} (C : Array Bool → World → Prop) (hm : P.follows .mixedOrders = true) (hB : Region.lexB .any l.toArray = true) (hC : C (Array.replicate l.length false) w.drew)
    (h : wpE P l.toArray C (fun a' => ∀ w', C (sets (Array.replicate l.length false) 0 l.length) w' → Q .normal a' w') 0 l a) : (Code.region id l.toArray true).wp P Q a w := by
  simp only [Region.lexB, Bool.and_eq_true] at hB
  refine wp_region_any hm (wpAny_of_E (Q := fun L a' => ∀ w', C L w' → Q .normal a' w') (C := C) (fun _ _ w' hw' h => h w' hw') _ _ _ _ (by simpa using hC) ?_)
  have := wpAnyE_lex (C := C) (Q := fun L a' => ∀ w', C L w' → Q .normal a' w') hB.1 l 0 (Array.replicate l.toArray.size false) a (by simp) (by simpa using hB.2) (by simpa using h)
  simpa using this
def isV : Op → Bool
  | .move _ | .assign _ | .pick .. | .load .. | .binOp .. | .unOp .. | .convert .. | .slice .. | .fieldAddr .. | .field .. | .indexAddr .. | .index .. | .extract .. | .build .. | .nilCheck _ => true
  | .call c => match c.callee with
    | .builtin .len | .builtin .cap | .builtin .min | .builtin .max => true
    | _ => false
  | _ => false
theorem andThen_ok' {α β : Type} {r : Result α} {f : α → World → Result β} {n : β} {w' : World} (h : r.andThen f = .ok n w') : ∃ u w1, r = .ok u w1 ∧ f u w1 = .ok n w' := by
  cases r with
  | ok u w1 => exact ⟨u, w1, rfl, by simpa using h⟩
  | halt x w1 => simp [Result.andThen] at h
theorem nilCheck_spec {x : Operand} {ρ : Operand → Value} {w w' : World} {n : Next} {o : Oper} (ho : o.op = .nilCheck x) (h : (execOp ρ o).run P w = .ok n w') : ∃ u, n = .value u := by
  unfold execOp at h
  simp only [ho] at h
  split at h
  · simp [runtimePanic] at h
  · simp [runtimePanic] at h
  · simp [runtimePanic] at h
  · split at h
    · simp [runtimePanic] at h
    · simp only [Sem.run_bind] at h
      obtain ⟨_, _, _, h⟩ := andThen_ok' h
      obtain ⟨_, _, _, h⟩ := andThen_ok' h
      split at h
      · obtain ⟨_, _, _, h⟩ := andThen_ok' (by simpa only [Sem.run_bind] using h)
        simp only [Sem.run_pure, Result.ok.injEq] at h; exact ⟨_, h.1.symm⟩
      · simp only [Sem.run_pure, Result.ok.injEq] at h; exact ⟨_, h.1.symm⟩
    · simp only [Sem.run_pure, Result.ok.injEq] at h; exact ⟨_, h.1.symm⟩
  · simp only [Sem.run_pure, Result.ok.injEq] at h; exact ⟨_, h.1.symm⟩
theorem isV_spec {o : Oper} {ρ : Operand → Value} {w w' : World} {n : Next} (hv : isV o.op = true) (h : (execOp ρ o).run P w = .ok n w') : ∃ u, n = .value u := by
  have key : ∀ (s : Sem Value), (do pure (Next.value (← s)) : Sem Next).run P w = .ok n w' → ∃ u, n = .value u := fun s hs => by
    simp only [Sem.run_bind] at hs
    cases hr : s.run P w with
    | ok u w1 => rw [hr] at hs; simp only [Result.andThen_ok, Sem.run_pure, Result.ok.injEq] at hs; exact ⟨u, hs.1.symm⟩
    | halt x w1 => rw [hr] at hs; simp [Result.andThen] at hs
  have hn : ∀ x, o.op = .nilCheck x → ∃ u, n = .value u := fun x ho => nilCheck_spec ho h
  unfold execOp at h
  cases ho : o.op <;> rw [ho] at hv <;> simp only [isV, Bool.false_eq_true] at hv <;> simp only [ho] at h
  case nilCheck x => exact hn x ho
  case move x => simp only [Sem.run_pure, Result.ok.injEq] at h; exact ⟨_, h.1.symm⟩
  case assign x => simp only [Sem.run_pure, Result.ok.injEq] at h; exact ⟨_, h.1.symm⟩
  case pick c x y =>
    simp only [Sem.run_bind] at h
    cases hr : (asBool (ρ c)).run P w with
    | ok u w1 => rw [hr] at h; simp only [Result.andThen_ok, Sem.run_pure, Result.ok.injEq] at h; exact ⟨_, h.1.symm⟩
    | halt x w1 => rw [hr] at h; simp [Result.andThen] at h
  case call c =>
    unfold resolve at h
    cases hc : c.callee with
    | builtin b =>
      cases b <;> simp only [hc, Bool.false_eq_true] at hv <;> simp only [hc, Sem.run_bind, Sem.run_pure, Result.andThen_ok, invoke, builtin] at h <;> exact key _ (by simpa only [Sem.run_bind, Sem.run_pure] using h)
    | _ => simp only [hc, Bool.false_eq_true] at hv
  all_goals exact key _ h
/-- operations that only reckon and read, one value each in all the worlds of D -/
theorem wpE_qs {D : World → Prop} {Q : Act → Prop} (hD : ∀ listed w, C listed w → D w) : ∀ (n : Nat) (l : List Oper) (k : Nat) (a : Act),
    ((l.take n).all fun o => isV o.op) = true → n ≤ l.length → (∀ i, k ≤ i → i < k + n → ∀ listed w, C listed w → C (listed.setIfInBounds i true) w) →
    wpQuiet P ops D (fun a' => wpE P ops C Q (k + n) (l.drop n) a') (l.take n) a → wpE P ops C Q k l a
  | 0, l, k, a, _, _, _, h => h
  | n + 1, [], k, a, _, hn, _, _ => by simp at hn
  | n + 1, o :: l, k, a, hv, hn, hk, h => by
    simp only [List.take_succ_cons, List.all_cons, Bool.and_eq_true] at hv
    simp only [List.take_succ_cons, List.drop_succ_cons, wpQuiet] at h
    have ih := fun a' h' => wpE_qs (Q := Q) hD n l (k + 1) a' hv.2 (by simpa using hn) (fun i h1 h2 => hk i (by omega) (by omega)) h'
    rw [show k + (n + 1) = k + 1 + n by omega] at h
    have hk0 := hk k (Nat.le_refl _) (by omega)
    by_cases hw : Region.wanted o (yielded ops a.tmps) = true
    · rw [if_pos hw] at h
      obtain ⟨v, h1, h2⟩ := h
      refine ⟨v, .inl ⟨hw, fun listed w hr hC => ?_⟩, ih _ h2⟩
      have h3 := h1 w (hD _ _ hC)
      unfold Oper.quietAt at h3
      cases hr : (execOp a.eval o).run P w with
      | ok nx w' =>
        obtain ⟨u, rfl⟩ := isV_spec hv.1 hr
        rw [hr] at h3
        simp only [Oper.quietUpon] at h3
        simp only [effUpon]
        exact ⟨h3.2, by rw [h3.1]; exact hk0 _ _ hC⟩
      | halt x w' => rw [hr] at h3; simp only [Oper.quietUpon] at h3
    · rw [if_neg hw] at h
      exact ⟨undef, .inr ⟨by simpa using hw, rfl, fun listed w _ hC => hk0 _ _ hC⟩, ih _ h⟩
/-- one operation with an effect, or a call -/
theorem wpE_do {Q : Act → Prop} {o : Oper} {l : List Oper} {k : Nat} {a : Act} (hw : Region.wanted o (yielded ops a.tmps) = true) (v : Value)
    (h : ∀ K : Act → Prop, (∀ a, wpE P ops C Q (k + 1) l a → K a) → eff P C k o a v ∧ K (a.put o.dst v)) : wpE P ops C Q k (o :: l) a :=
  ⟨v, .inl ⟨hw, (h _ fun _ h => h).1⟩, (h _ fun _ h => h).2⟩
end
theorem drewN_setCell_ (w : World) (n : Nat) (a : Addr) (v : Value) : (w.drewN n).setCell a v = (w.setCell a v).drewN n := rfl
theorem drewN_alloc_ (w : World) (n : Nat) (o : Obj) : (w.drewN n).alloc o = (w.alloc o).drewN n := rfl
attribute [go_sem] drewN_setCell_ drewN_alloc_
section
variable {P : Program} {ops : Array Oper} {md : Region.Mode} {w : World}
/-- all operations behind number n wait for it, or for one that does -/
def gateB (md : Region.Mode) (ops : Array Oper) (n : Nat) : Bool :=
  (List.range ops.size).all fun t => decide (t ≤ n) || (List.range t).any fun s => decide (n ≤ s) && Region.waitsFor md ops t s
theorem gate_waits {n : Nat} {listed : Array Bool} (hs : Region.sinkB md ops n = true) (hc : gateB md ops n = true) (hn : n < ops.size) (inv : HeadInv md ops n listed) :
    ∀ (d i : Nat), n - i = d → i < n → listed.getD i true = false → ∀ t, n ≤ t → t ∉ Region.ready md ops listed := by
  intro d
  induction d using Nat.strongRecOn with
  | _ d ih =>
    intro i hd hi hun t ht hr
    obtain ⟨_, ot, hot, hall⟩ := mem_ready.1 hr
    have htlt : t < ops.size := (Array.getElem?_eq_some_iff.1 hot).1
    by_cases htn : t = n
    · subst htn
      have h1 := List.all_eq_true.1 hs i (List.mem_range.2 hi)
      obtain ⟨j, hj, hj2⟩ := List.any_eq_true.1 h1
      simp only [Bool.and_eq_true, decide_eq_true_eq] at hj2
      obtain ⟨oj, hoj, e, he, hb, hon⟩ := Region.waitsFor_spec hj2.2
      have hjle : j ≤ t := by have := List.mem_range.1 hj; omega
      by_cases hjt : j = t
      · subst hjt
        have : oj = ot := Option.some.inj (hoj.symm.trans hot)
        subst this
        have h2 := hall e he hb
        rw [hon, getD_both hun] at h2
        cases h2
      · cases hl : listed.getD j false with
        | true =>
          have h2 := inv.closed j oj hoj hl e he hb
          rw [hon, getD_both hun] at h2
          cases h2
        | false =>
          have hjs : j < listed.size := by rw [inv.size]; omega
          exact ih (t - j) (by omega) j rfl (by omega) (getD_in hjs hl) t (Nat.le_refl _) hr
    · have h1 := List.all_eq_true.1 hc t (List.mem_range.2 htlt)
      simp only [Bool.or_eq_true, decide_eq_true_eq] at h1
      rcases h1 with h1 | h1
      · omega
      · obtain ⟨s, hs1, hs2⟩ := List.any_eq_true.1 h1
        simp only [Bool.and_eq_true, decide_eq_true_eq] at hs2
        obtain ⟨o', ho', e, he, hb, hon⟩ := Region.waitsFor_spec hs2.2
        have : o' = ot := Option.some.inj (ho'.symm.trans hot)
        subst this
        have h2 := hall e he hb
        have := List.mem_range.1 hs1
        rw [hon, getD_both (inv.tail s hs2.1 (by omega))] at h2
        cases h2
theorem gate_first {n i : Nat} {oi : Oper} {v : Value} {L : Array Bool → Act → Prop} (hi : ops[i]? = some oi) (hsel : ∀ (j : Nat) (o : Oper) cs b, ops[j]? = some o → o.op ≠ .select cs b)
    (hs : Region.sinkB md ops n = true) (hc : gateB md ops n = true) (hn : n < ops.size) (hin : i < n)
    (hdone : ∀ listed a, L listed a → ∀ j ∈ Region.ready md ops listed, n ≤ j) :
    ∀ (f : Nat) (listed : Array Bool) (a : Act), HeadInv md ops n listed →
      (∀ j oj, ops[j]? = some oj → j ≠ i → listed.getD j true = false → (∀ e ∈ oj.after, Region.binds md e = true → e.on ≠ i) → oi.apart ops oj = true) →
      i ∈ Region.ready md ops listed → YieldsAt P ops w oi v a →
      wpAnyL P md ops w n L f (listed.setIfInBounds i true) (a.put oi.dst v) → wpAnyL P md ops w n L (f + 1) listed a := by
  intro f
  induction f with
  | zero =>
    intro listed a inv _ hr hy H
    have hun := (mem_ready.1 hr).1
    refine ⟨fun h => (by rw [h] at hr; cases hr), fun j hj => ?_⟩
    have hjn : j < n := by
      rcases Nat.lt_or_ge j n with h | h
      · exact h
      · exact absurd hj (gate_waits hs hc hn inv _ i rfl hin hun j h)
    refine ⟨hjn, ?_⟩
    by_cases hji : j = i
    · subst hji; exact hy.stOp hi H
    · have := hdone _ _ H j (ready_mono hj hji)
      omega
  | succ f ih =>
    intro listed a inv hfree hr hy H
    have hun := (mem_ready.1 hr).1
    refine ⟨fun h => (by rw [h] at hr; cases hr), fun j hj => ?_⟩
    have hjn : j < n := by
      rcases Nat.lt_or_ge j n with h | h
      · exact h
      · exact absurd hj (gate_waits hs hc hn inv _ i rfl hin hun j h)
    refine ⟨hjn, ?_⟩
    by_cases hji : j = i
    · subst hji; exact hy.stOp hi H
    · have h1 := (H.2 j (ready_mono hj hji)).2
      obtain ⟨hjun, oj, hoj, hall⟩ := mem_ready.1 hj
      have hnot : ∀ e ∈ oj.after, Region.binds md e = true → e.on ≠ i := fun e he hb heq => by
        have h1 := hall e he hb
        rw [heq, getD_both hun] at h1
        cases h1
      have h2 := stOp_put hoj (hfree j oj hoj hji hjun hnot) (fun cs b => hsel i oi cs b hi) (fun cs b => hsel j oj cs b hoj) hy h1
      have hfree' : ∀ k ok, ops[k]? = some ok → k ≠ i → (listed.setIfInBounds j true).getD k true = false →
          (∀ e ∈ ok.after, Region.binds md e = true → e.on ≠ i) → oi.apart ops ok = true := fun k ok hk hki hun hno => by
        refine hfree k ok hk hki ?_ hno
        by_cases hjk : j = k
        · subst hjk; exact hjun
        · rw [getD_set_ne true hjk] at hun; exact hun
      refine stOp_mono (fun a' h3 => ih (listed.setIfInBounds j true) a' (inv.set hj hjn) hfree' (ready_mono hr (Ne.symm hji)) h3.1 ?_) h2
      rw [Array.setIfInBounds_comm _ _ hji]
      exact h3.2
/-- the heads in the order of the text; then number n alone may come; then the rest in the order of the text -/
def gateHead (md : Region.Mode) (ops : Array Oper) : Nat → Nat → Array Bool → Bool
  | 0, k, listed => decide (Region.ready md ops listed = [k]) && Region.lexFrom md ops (ops.size - (k + 1)) (k + 1) (listed.setIfInBounds k true)
  | f + 1, k, listed => (Region.ready md ops listed).contains k && Region.free md ops listed k && gateHead md ops f (k + 1) (listed.setIfInBounds k true)
theorem gate_lex {n : Nat} {Lq : Act → Prop} (hsel : Region.noSelect ops = true) (hs : Region.sinkB md ops n = true) (hc : gateB md ops n = true) (hn : n < ops.size) :
    ∀ (l : List Oper) (k : Nat) (listed : Array Bool) (a : Act), (∀ j, j < l.length → l[j]? = ops[k + j]?) → k + l.length = n → HeadInv md ops n listed →
    gateHead md ops l.length k listed = true → wpStill P ops w Lq l a →
    wpAnyL P md ops w n (fun listed' a' => gateHead md ops 0 n listed' = true ∧ Lq a') l.length listed a
  | [], k, listed, a, _, hk, _, hB, h => by
    have : k = n := by simpa using hk
    subst this
    exact ⟨hB, h⟩
  | o :: l, k, listed, a, hl, hk, inv, hB, h => by
    have h0 : ops[k]? = some o := by simpa using (hl 0 (by simp)).symm
    simp only [List.length_cons, gateHead, Bool.and_eq_true] at hB
    obtain ⟨⟨hr, hf⟩, hB'⟩ := hB
    have hkn : k < n := by simp only [List.length_cons] at hk; omega
    have hr' : k ∈ Region.ready md ops listed := by simpa using hr
    have hst : stOp P ops w k (wpStill P ops w Lq l) a := by unfold stOp; simp only [h0]; exact h
    obtain ⟨v, hy, hK⟩ := yieldsAt_of_stOp h0 hst
    refine gate_first h0 (Region.noSelect_spec hsel) hs hc hn hkn (fun listed' a' hL j hj => ?_) l.length listed a inv (Region.free_spec h0 hf) hr' hy
      (gate_lex hsel hs hc hn l (k + 1) _ _ (fun j hj => by have := hl (j + 1) (by simp; omega); simpa [Nat.add_assoc, Nat.add_comm 1 j] using this) (by simp only [List.length_cons] at hk; omega) (inv.set hr' hkn) hB' hK)
    have := hL.1
    simp only [gateHead, Bool.and_eq_true, decide_eq_true_eq] at this
    rw [this.1] at hj
    have : j = n := by simpa using hj
    omega
def pivotB (ops : Array Oper) (n : Nat) : Bool :=
  Region.noSelect ops && decide (n < ops.size) && Region.sinkB .any ops n && gateB .any ops n && gateHead .any ops n 0 (Array.replicate ops.size false)
/-- reads, ONE operation with an effect that all the others wait for or are waited for by, reads of what it left -/
theorem wp_region_pivot {id : Nat} {Q : Exit → Act → World → Prop} {a : Act} {w : World} {l : List Oper} (n : Nat) (o : Oper) (ho : l.toArray[n]? = some o) (hm : P.follows .mixedOrders = true) (hB : pivotB l.toArray n = true) (hg : o.guard = none)
    (h : wpStill P l.toArray w.drew (fun a' => ∀ K : Act → World → Prop, (∀ a'' w'', wpQuiet P l.toArray (fun w' => ∃ m, w' = w''.drewN m) (fun a3 => ∀ w', (∃ m, w' = w''.drewN m) → Q .normal a3 w') (l.drop (n + 1)) a'' → K a'' w'') → o.wp P a' w.drew K Q) (l.take n) a) : (Code.region id l.toArray true).wp P Q a w := by
  simp only [pivotB, Bool.and_eq_true, decide_eq_true_eq] at hB
  obtain ⟨⟨⟨⟨hsel, hn⟩, hs⟩, hc⟩, hlex⟩ := hB
  have hn' : n < l.length := by simpa using hn
  have htl : (l.take n).length = n := by simp; omega
  have inv0 : HeadInv .any l.toArray n (Array.replicate l.toArray.size false) :=
    ⟨by simp, fun j oj _ hl => (by rw [getD_replicate_false] at hl; cases hl), fun t _ ht => getD_in (by simpa using ht) (getD_replicate_false _ _)⟩
  have H := gate_lex (md := .any) hsel hs hc hn (l.take n) 0 _ a (fun j hj => by
    have hj' : j < n := by rw [htl] at hj; exact hj
    simp [hj']) (by simpa using htl) inv0 (by rw [htl]; exact hlex) h
  refine wp_region_any hm ?_
  have := wpAny_of_head (Q' := Q) (g := l.toArray.size - n) (fun listed a' hL => by
    obtain ⟨hL1, hL2⟩ := hL
    simp only [gateHead, Bool.and_eq_true, decide_eq_true_eq] at hL1
    obtain ⟨hr, hlx⟩ := hL1
    have e : l.toArray.size - n = (l.toArray.size - (n + 1)) + 1 := by omega
    rw [e]
    refine ⟨fun h0 => (by rw [hr] at h0; cases h0), fun i hi => ?_⟩
    rw [hr] at hi
    have hi' : i = n := by simpa using hi
    subst hi'
    unfold wpOp
    have hw : Region.wanted o (yielded l.toArray a'.tmps) = true := by unfold Region.wanted; rw [hg]
    simp only [ho]
    rw [if_pos hw]
    left
    refine hL2 _ fun a'' w'' hq => ?_
    have hlen : (l.drop (i + 1)).length = l.toArray.size - (i + 1) := by simp
    have := wpAnyQ_lex (P := P) (C := fun w' => ∃ m, w' = w''.drewN m) (md := .any) (Q := fun a3 => ∀ w', (∃ m, w' = w''.drewN m) → Q .normal a3 w') hsel (l.drop (i + 1)) (i + 1) (listed.setIfInBounds i true) a'' (fun j => by simp [List.getElem?_drop]) (by rw [hlen]; exact hlx) hq
    rw [hlen] at this
    exact wpAny_of_quiet (fun a3 w' hw' h3 => h3 w' hw') _ _ _ _ ⟨0, rfl⟩ this) _ _ _ H
  have e2 : (l.take n).length + (l.toArray.size - n) = l.toArray.size := by rw [htl]; omega
  rw [e2] at this
  exact this
end
/-- which of two effects are done -/
def cd : Bool → Bool → Nat
  | false, false => 0
  | true, false => 1
  | false, true => 2
  | true, true => 3
/-- two effects, i ahead of j -/
def cls2 (i j : Nat) (F : Nat → World) (listed : Array Bool) (w : World) : Prop := (listed.getD j false = true → listed.getD i false = true) ∧ ∃ m, w = (F (cd (listed.getD i false) (listed.getD j false))).drewN m
/-- two effects in any order -/
def cls2f (i j : Nat) (F : Nat → World) (listed : Array Bool) (w : World) : Prop := ∃ m, w = (F (cd (listed.getD i false) (listed.getD j false))).drewN m
/-- one effect -/
def cls1 (i : Nat) (F : Nat → World) (listed : Array Bool) (w : World) : Prop := ∃ m, w = (F (cd (listed.getD i false) false)).drewN m
structure Tm where
  t : Nat
  m : Nat
instance : Inhabited Tm := ⟨⟨0, 0⟩⟩
def dom2 (F : Nat → World) (w : World) : Prop := ∃ q : Tm, w = (F q.t).drewN q.m
def four (W0 W1 W2 W3 : World) : Nat → World
  | 0 => W0
  | 1 => W1
  | 2 => W2
  | _ => W3
theorem four_all {W0 W1 W2 W3 : World} {p : World → Prop} (h0 : p W0) (h1 : p W1) (h2 : p W2) (h3 : p W3) (t : Nat) : p (four W0 W1 W2 W3 t) := by
  match t with
  | 0 => exact h0
  | 1 => exact h1
  | 2 => exact h2
  | _ + 3 => exact h3
section
variable {i j k : Nat} {F : Nat → World} {listed : Array Bool} {w : World}
theorem getD_both_ {listed : Array Bool} {i : Nat} (h : listed.getD i true = false) : listed.getD i false = false := by
  rcases Nat.lt_or_ge i listed.size with h' | h'
  · simp [h'] at h ⊢; exact h
  · simp [Array.getElem?_eq_none h'] at h
theorem getD_self {listed : Array Bool} {i : Nat} (h : listed.getD i true = false) : (listed.setIfInBounds i true).getD i false = true := by
  rcases Nat.lt_or_ge i listed.size with h' | h'
  · simp [h']
  · simp [Array.getElem?_eq_none h'] at h
theorem cls2.dom (h : cls2 i j F listed w) : dom2 F w := let ⟨_, m, e⟩ := h; ⟨⟨_, m⟩, e⟩
theorem cls2f.dom (h : cls2f i j F listed w) : dom2 F w := let ⟨m, e⟩ := h; ⟨⟨_, m⟩, e⟩
theorem cls1.dom (h : cls1 i F listed w) : dom2 F w := let ⟨m, e⟩ := h; ⟨⟨_, m⟩, e⟩
theorem cls2.form (h : cls2 i j F listed w) : ∃ t m, w = (F t).drewN m := ⟨_, h.2⟩
theorem cls2f.form (h : cls2f i j F listed w) : ∃ t m, w = (F t).drewN m := ⟨_, h⟩
theorem cls1.form (h : cls1 i F listed w) : ∃ t m, w = (F t).drewN m := ⟨_, h⟩
theorem cls2.keep (h : cls2 i j F listed w) (h1 : k ≠ i) (h2 : k ≠ j) : cls2 i j F (listed.setIfInBounds k true) w := by
  unfold cls2 at *; rw [getD_set_ne false h1, getD_set_ne false h2]; exact h
theorem cls2f.keep (h : cls2f i j F listed w) (h1 : k ≠ i) (h2 : k ≠ j) : cls2f i j F (listed.setIfInBounds k true) w := by
  unfold cls2f at *; rw [getD_set_ne false h1, getD_set_ne false h2]; exact h
theorem cls1.keep (h : cls1 i F listed w) (h1 : k ≠ i) (_ : k ≠ i) : cls1 i F (listed.setIfInBounds k true) w := by
  unfold cls1 at *; rw [getD_set_ne false h1]; exact h
theorem cls2.at1 (h : cls2 i j F listed w) (hr : listed.getD i true = false) : ∃ m, w = (F 0).drewN m := by
  obtain ⟨h1, m, h2⟩ := h
  have e := getD_both_ hr
  rw [e] at h1 h2
  have e2 : listed.getD j false = false := by cases h : listed.getD j false <;> simp_all
  rw [e2] at h2
  exact ⟨m, h2⟩
theorem cls2.at2 (h : cls2 i j F listed w) (hr : listed.getD j true = false) (hi : listed.getD i false = true) : ∃ m, w = (F 1).drewN m := by
  obtain ⟨h1, m, h2⟩ := h
  rw [hi, getD_both_ hr] at h2
  exact ⟨m, h2⟩
theorem cls2.to1 (hij : i ≠ j) (h : cls2 i j F listed w) (hr : listed.getD i true = false) (m : Nat) : cls2 i j F (listed.setIfInBounds i true) ((F 1).drewN m) := by
  have e2 : listed.getD j false = false := by cases h' : listed.getD j false; rfl; have := h.1 h'; rw [getD_both_ hr] at this; cases this
  unfold cls2; rw [getD_self hr, getD_set_ne false hij, e2]
  exact ⟨fun _ => rfl, m, rfl⟩
theorem cls2.to2 (hij : i ≠ j) (hr : listed.getD j true = false) (hi : listed.getD i false = true) (m : Nat) : cls2 i j F (listed.setIfInBounds j true) ((F 3).drewN m) := by
  unfold cls2; rw [getD_self hr, getD_set_ne false (Ne.symm hij), hi]
  exact ⟨fun _ => rfl, m, rfl⟩
theorem cls2.end_ (h : cls2 i j F listed w) (hi : listed.getD i false = true) (hj : listed.getD j false = true) : ∃ m, w = (F 3).drewN m := by
  obtain ⟨_, m, h2⟩ := h
  rw [hi, hj] at h2; exact ⟨m, h2⟩
theorem cls2f.end_ (h : cls2f i j F listed w) (hi : listed.getD i false = true) (hj : listed.getD j false = true) : ∃ m, w = (F 3).drewN m := by
  obtain ⟨m, h2⟩ := h
  rw [hi, hj] at h2; exact ⟨m, h2⟩
theorem cls1.end_ (h : cls1 i F listed w) (hi : listed.getD i false = true) : ∃ m, w = (F 1).drewN m := by
  obtain ⟨m, h2⟩ := h
  rw [hi] at h2; exact ⟨m, h2⟩
theorem cls1.at1 (h : cls1 i F listed w) (hr : listed.getD i true = false) : ∃ m, w = (F 0).drewN m := by
  obtain ⟨m, h2⟩ := h
  rw [getD_both_ hr] at h2
  exact ⟨m, h2⟩
theorem cls1.to1 (hr : listed.getD i true = false) (m : Nat) : cls1 i F (listed.setIfInBounds i true) ((F 1).drewN m) := by
  unfold cls1; rw [getD_self hr]; exact ⟨m, rfl⟩
theorem cls2f.at1 (h : cls2f i j F listed w) (hr : listed.getD i true = false) : ∃ y m, listed.getD j false = y ∧ w = (F (cd false y)).drewN m := by
  obtain ⟨m, h2⟩ := h
  rw [getD_both_ hr] at h2
  exact ⟨_, m, rfl, h2⟩
theorem cls2f.at2 (h : cls2f i j F listed w) (hr : listed.getD j true = false) : ∃ x m, listed.getD i false = x ∧ w = (F (cd x false)).drewN m := by
  obtain ⟨m, h2⟩ := h
  rw [getD_both_ hr] at h2
  exact ⟨_, m, rfl, h2⟩
theorem cls2f.to1 (hij : i ≠ j) (hr : listed.getD i true = false) {y : Bool} (hy : listed.getD j false = y) (m : Nat) : cls2f i j F (listed.setIfInBounds i true) ((F (cd true y)).drewN m) := by
  unfold cls2f; rw [getD_self hr, getD_set_ne false hij, hy]; exact ⟨m, rfl⟩
theorem cls2f.to2 (hij : i ≠ j) (hr : listed.getD j true = false) {x : Bool} (hx : listed.getD i false = x) (m : Nat) : cls2f i j F (listed.setIfInBounds j true) ((F (cd x true)).drewN m) := by
  unfold cls2f; rw [getD_self hr, getD_set_ne false (Ne.symm hij), hx]; exact ⟨m, rfl⟩
end
end Go.Proofs.Ytjaacmecniijgaa
