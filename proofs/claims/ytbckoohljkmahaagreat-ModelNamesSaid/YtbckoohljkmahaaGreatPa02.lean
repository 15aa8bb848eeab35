/- What the laws' proofs lean on: plain facts and contracts of the program's functions, laid together (2). -/
import Derived.Test.YtbckoohljkmahaaGreatPa01
import Derived.StillTailTactics
import Derived.Test.YtbckoohljkmahaaGreatProg
import Derived.Deep.RegionHeld3
namespace Go.Proofs.YtbckoohljkmahaaGreat
set_option linter.unusedVariables false
set_option linter.unusedSimpArgs false
open Go.RowKit
section
variable {P : Program} {ops : Array Oper} {C : Array Bool → World → Prop}
def effUpon (P : Program) (C : World → Prop) (v : Value) : Result Next → Prop
  | .ok (.value u) w' => u = v ∧ C w'
  | .ok .skip w' => v = undef ∧ C w'
  | .ok (.enter f args) w' => Calls P f args w' (fun e w'' => e = .returned v ∧ C w'')
  | _ => False
def Ready (i : Nat) (o : Oper) (listed : Array Bool) : Prop := listed.getD i true = false ∧ ∀ e ∈ o.after, Region.binds .any e = true → listed.getD e.on false = true
def eff (P : Program) (C : Array Bool → World → Prop) (i : Nat) (o : Oper) (a : Act) (v : Value) : Prop :=
  ∀ listed w, Ready i o listed → C listed w → effUpon P (C (listed.setIfInBounds i true)) v ((execOp a.eval o).run P w)
def YE (P : Program) (ops : Array Oper) (C : Array Bool → World → Prop) (i : Nat) (o : Oper) (v : Value) (a : Act) : Prop :=
  (Region.wanted o (yielded ops a.tmps) = true ∧ eff P C i o a v) ∨
  (Region.wanted o (yielded ops a.tmps) = false ∧ v = undef ∧ ∀ listed w, Ready i o listed → C listed w → C (listed.setIfInBounds i true) w)
def eOp (P : Program) (ops : Array Oper) (C : Array Bool → World → Prop) (i : Nat) (K : Act → Prop) (a : Act) : Prop :=
  match ops[i]? with
  | none => K a
  | some o => ∃ v, YE P ops C i o v a ∧ K (a.put o.dst v)
def wpAnyE (P : Program) (ops : Array Oper) (C : Array Bool → World → Prop) (Q : Array Bool → Act → Prop) : Nat → Array Bool → Act → Prop
  | 0, listed, a => Region.ready .any ops listed = [] ∧ Q listed a
  | fuel + 1, listed, a =>
    (Region.ready .any ops listed = [] → Q listed a) ∧
    ∀ i ∈ Region.ready .any ops listed, eOp P ops C i (wpAnyE P ops C Q fuel (listed.setIfInBounds i true)) a
theorem eOp_mono {i : Nat} {a : Act} {K K' : Act → Prop} (h : ∀ a, K a → K' a) (hh : eOp P ops C i K a) : eOp P ops C i K' a := by
  unfold eOp at *
  split
  · exact h _ (by simpa [*] using hh)
  · rename_i o ho
    simp only [ho] at hh
    obtain ⟨v, h1, h2⟩ := hh
    exact ⟨v, h1, h _ h2⟩
theorem wpOp_of_eOp {i : Nat} {a : Act} {K : Act → Prop} {K' : Act → World → Prop} {Q' : Exit → Act → World → Prop} {w : World} {listed : Array Bool} (hi : i ∈ Region.ready .any ops listed) (hC : C listed w)
    (h : ∀ a w', C (listed.setIfInBounds i true) w' → K a → K' a w') (hh : eOp P ops C i K a) : wpOp P ops Q' i K' a w := by
  obtain ⟨h1, o, ho, h2⟩ := mem_ready.1 hi
  have hr : Ready i o listed := ⟨h1, h2⟩
  unfold eOp at hh
  simp only [ho] at hh
  obtain ⟨v, hy, hK⟩ := hh
  unfold wpOp
  simp only [ho]
  rcases hy with ⟨hw, he⟩ | ⟨hw, rfl, he⟩
  · simp only [hw, if_true]
    left
    have h3 := he listed w hr hC
    unfold Oper.wp
    generalize (execOp a.eval o).run P w = r at *
    cases r with
    | ok n w' =>
      cases n <;> simp only [effUpon] at h3 <;> simp only [Oper.upon]
      case value u =>
        obtain ⟨e1, e2⟩ := h3
        rw [e1]
        exact h _ _ e2 hK
      case skip =>
        obtain ⟨e1, e2⟩ := h3
        rw [← e1]
        exact h _ _ e2 hK
      case enter f args => exact h3.mono fun e w'' ⟨he, hw''⟩ => by subst he; exact h _ _ hw'' hK
    | halt x w' => simp only [effUpon] at h3
  · simp only [hw, Bool.false_eq_true, if_false]
    exact h _ _ (he listed w hr hC) hK
theorem wpAny_of_E {Q : Array Bool → Act → Prop} {Q' : Exit → Act → World → Prop} (hQ : ∀ listed a w, C listed w → Q listed a → Q' .normal a w) : ∀ (fuel : Nat) (listed : Array Bool) (a : Act) (w : World), C listed w →
    wpAnyE P ops C Q fuel listed a → wpAny P .any ops Q' fuel listed a w
  | 0, _, _, _, hw, h => ⟨h.1, hQ _ _ _ hw h.2⟩
  | fuel + 1, _, _, _, hw, h => ⟨fun h0 => hQ _ _ _ hw (h.1 h0), fun i hi => wpOp_of_eOp hi hw (fun a' w' hw' => wpAny_of_E hQ fuel _ a' w' hw') (h.2 i hi)⟩
theorem YE.of_same {i : Nat} {o : Oper} {v : Value} {a a' : Act} (hy : YE P ops C i o v a) (he : execOp a'.eval o = execOp a.eval o)
    (hw : Region.wanted o (yielded ops a'.tmps) = Region.wanted o (yielded ops a.tmps)) : YE P ops C i o v a' := by
  unfold YE eff at *
  rw [he, hw]
  exact hy
theorem eOp_put {i j : Nat} {oi oj : Oper} {v : Value} (hj : ops[j]? = some oj) (hap : oi.apart ops oj = true)
    (hsi : ∀ cs b, oi.op ≠ .select cs b) (hsj : ∀ cs b, oj.op ≠ .select cs b) {K : Act → Prop} {a : Act}
    (hy : YE P ops C i oi v a) (h : eOp P ops C j K (a.put oi.dst v)) :
    eOp P ops C j (fun a' => YE P ops C i oi v a' ∧ K (a'.put oi.dst v)) a := by
  obtain ⟨h1, h2, h3⟩ := Oper.apart_spec hap
  have keep : ∀ (a : Act), YE P ops C i oi v a → ∀ u, YE P ops C i oi v (a.put oj.dst u) := fun a hy u =>
    hy.of_same (execOp_put oi hsi a oj.dst u h3) (wanted_put oi a oj.dst u h3)
  unfold eOp at *
  simp only [hj] at *
  obtain ⟨u, hu, hn⟩ := h
  refine ⟨u, ?_, keep a hy u, by rw [← Act.put_comm a v u h2]; exact hn⟩
  exact hu.of_same (execOp_put oj hsj a oi.dst v h1).symm (wanted_put oj a oi.dst v h1).symm
theorem wpAnyE_first {Q : Array Bool → Act → Prop} {i : Nat} {oi : Oper} {v : Value} (hi : ops[i]? = some oi) (hsel : ∀ (j : Nat) (o : Oper) cs b, ops[j]? = some o → o.op ≠ .select cs b) :
    ∀ (fuel : Nat) (listed : Array Bool) (a : Act),
      (∀ j oj, ops[j]? = some oj → j ≠ i → listed.getD j true = false → (∀ e ∈ oj.after, Region.binds .any e = true → e.on ≠ i) → oi.apart ops oj = true) →
      i ∈ Region.ready .any ops listed → YE P ops C i oi v a →
      wpAnyE P ops C Q fuel (listed.setIfInBounds i true) (a.put oi.dst v) → wpAnyE P ops C Q (fuel + 1) listed a := by
  intro fuel
  have hdo : ∀ {listed : Array Bool} {a : Act} {K : Act → Prop}, YE P ops C i oi v a → K (a.put oi.dst v) → eOp P ops C i K a := fun hy hK => by
    unfold eOp; simp only [hi]; exact ⟨v, hy, hK⟩
  induction fuel with
  | zero =>
    intro listed a _ hr hy H
    refine ⟨fun h => (by rw [h] at hr; cases hr), fun j hj => ?_⟩
    by_cases hji : j = i
    · subst hji; exact hdo (listed := listed) hy H
    · have := ready_mono hj hji
      rw [H.1] at this
      cases this
  | succ fuel ih =>
    intro listed a hfree hr hy H
    refine ⟨fun h => (by rw [h] at hr; cases hr), fun j hj => ?_⟩
    by_cases hji : j = i
    · subst hji; exact hdo (listed := listed) hy H
    · have h1 := H.2 j (ready_mono hj hji)
      obtain ⟨hjun, oj, hoj, hall⟩ := mem_ready.1 hj
      have hnot : ∀ e ∈ oj.after, Region.binds .any e = true → e.on ≠ i := fun e he hb heq => by
        have h1 := hall e he hb
        have h0 := (mem_ready.1 hr).1
        rw [heq] at h1
        rcases Nat.lt_or_ge i listed.size with h' | h'
        · simp [h'] at h0 h1; rw [h0] at h1; cases h1
        · simp [Array.getElem?_eq_none h'] at h1
      have h2 := eOp_put hoj (hfree j oj hoj hji hjun hnot) (fun cs b => hsel i oi cs b hi) (fun cs b => hsel j oj cs b hoj) hy h1
      have hfree' : ∀ k ok, ops[k]? = some ok → k ≠ i → (listed.setIfInBounds j true).getD k true = false →
          (∀ e ∈ ok.after, Region.binds .any e = true → e.on ≠ i) → oi.apart ops ok = true := fun k ok hk hki hun hno => by
        refine hfree k ok hk hki ?_ hno
        by_cases hjk : j = k
        · subst hjk; exact hjun
        · rw [getD_set_ne true hjk] at hun; exact hun
      refine eOp_mono (fun a' h3 => ih (listed.setIfInBounds j true) a' hfree' (ready_mono hr (Ne.symm hji)) h3.1 ?_) h2
      rw [Array.setIfInBounds_comm _ _ hji]
      exact h3.2
/-- the walk in the order of the text -/
def wpE (P : Program) (ops : Array Oper) (C : Array Bool → World → Prop) (Q : Act → Prop) : Nat → List Oper → Act → Prop
  | _, [], a => Q a
  | k, o :: l, a => ∃ v, YE P ops C k o v a ∧ wpE P ops C Q (k + 1) l (a.put o.dst v)
def sets : Array Bool → Nat → Nat → Array Bool
  | listed, _, 0 => listed
  | listed, k, n + 1 => sets (listed.setIfInBounds k true) (k + 1) n
theorem wpAnyE_lex {Q : Array Bool → Act → Prop} (hs : Region.noSelect ops = true) : ∀ (l : List Oper) (k : Nat) (listed : Array Bool) (a : Act), (∀ j, l[j]? = ops[k + j]?) →
    Region.lexFrom .any ops l.length k listed = true → wpE P ops C (Q (sets listed k l.length)) k l a → wpAnyE P ops C Q l.length listed a
  | [], _, _, _, _, hB, h => ⟨by simpa [Region.lexFrom] using hB, h⟩
  | o :: l, k, listed, a, hl, hB, h => by
    have h0 : ops[k]? = some o := by simpa using (hl 0).symm
    simp only [List.length_cons, Region.lexFrom, Bool.and_eq_true] at hB
    obtain ⟨⟨hr, hf⟩, hB'⟩ := hB
    obtain ⟨v, hy, hK⟩ := h
    exact wpAnyE_first h0 (Region.noSelect_spec hs) l.length listed a (Region.free_spec h0 hf) (by simpa using hr) hy
      (wpAnyE_lex hs l (k + 1) _ _ (fun j => by have := hl (j + 1); simpa [Nat.add_assoc, Nat.add_comm 1 j] using this) hB' hK)
theorem wp_region_E {id : Nat} {Q : Exit → Act → World → Prop} {a : Act} {w : World} {l : List Oper} (C : Array Bool → World → Prop) (hm : P.follows .mixedOrders = true) (hB : Region.lexB .any l.toArray = true) (hC : C (Array.replicate l.length false) w.drew)
    (h : wpE P l.toArray C (fun a' => ∀ w', C (sets (Array.replicate l.length false) 0 l.length) w' → Q .normal a' w') 0 l a) : (Code.region id l.toArray true).wp P Q a w := by
  simp only [Region.lexB, Bool.and_eq_true] at hB
  refine wp_region_any hm (wpAny_of_E (Q := fun L a' => ∀ w', C L w' → Q .normal a' w') (C := C) (fun _ _ w' hw' h => h w' hw') _ _ _ _ (by simpa using hC) ?_)
  have := wpAnyE_lex (C := C) (Q := fun L a' => ∀ w', C L w' → Q .normal a' w') hB.1 l 0 (Array.replicate l.toArray.size false) a (by simp) (by simpa using hB.2) (by simpa using h)
  simpa using this
def isV : Op → Bool
  | .move _ | .assign _ | .pick .. | .load .. | .binOp .. | .unOp .. | .convert .. | .slice .. | .fieldAddr .. | .field .. | .indexAddr .. | .index .. | .extract .. | .build .. | .nilCheck _ => true
  | .call c => match c.callee with
    | .builtin .len | .builtin .cap | .builtin .min | .builtin .max => true
    | _ => false
  | _ => false
theorem andThen_ok' {α β : Type} {r : Result α} {f : α → World → Result β} {n : β} {w' : World} (h : r.andThen f = .ok n w') : ∃ u w1, r = .ok u w1 ∧ f u w1 = .ok n w' := by
  cases r with
  | ok u w1 => exact ⟨u, w1, rfl, by simpa using h⟩
  | halt x w1 => simp [Result.andThen] at h
theorem nilCheck_spec {x : Operand} {ρ : Operand → Value} {w w' : World} {n : Next} {o : Oper} (ho : o.op = .nilCheck x) (h : (execOp ρ o).run P w = .ok n w') : ∃ u, n = .value u := by
  unfold execOp at h
  simp only [ho] at h
  split at h
  · simp [runtimePanic] at h
  · simp [runtimePanic] at h
  · simp [runtimePanic] at h
  · split at h
    · simp [runtimePanic] at h
    · simp only [Sem.run_bind] at h
      obtain ⟨_, _, _, h⟩ := andThen_ok' h
      obtain ⟨_, _, _, h⟩ := andThen_ok' h
      split at h
      · obtain ⟨_, _, _, h⟩ := andThen_ok' (by simpa only [Sem.run_bind] using h)
        simp only [Sem.run_pure, Result.ok.injEq] at h; exact ⟨_, h.1.symm⟩
      · simp only [Sem.run_pure, Result.ok.injEq] at h; exact ⟨_, h.1.symm⟩
    · simp only [Sem.run_pure, Result.ok.injEq] at h; exact ⟨_, h.1.symm⟩
  · simp only [Sem.run_pure, Result.ok.injEq] at h; exact ⟨_, h.1.symm⟩
theorem isV_spec {o : Oper} {ρ : Operand → Value} {w w' : World} {n : Next} (hv : isV o.op = true) (h : (execOp ρ o).run P w = .ok n w') : ∃ u, n = .value u := by
  have key : ∀ (s : Sem Value), (do pure (Next.value (← s)) : Sem Next).run P w = .ok n w' → ∃ u, n = .value u := fun s hs => by
    simp only [Sem.run_bind] at hs
    cases hr : s.run P w with
    | ok u w1 => rw [hr] at hs; simp only [Result.andThen_ok, Sem.run_pure, Result.ok.injEq] at hs; exact ⟨u, hs.1.symm⟩
    | halt x w1 => rw [hr] at hs; simp [Result.andThen] at hs
  have hn : ∀ x, o.op = .nilCheck x → ∃ u, n = .value u := fun x ho => nilCheck_spec ho h
  unfold execOp at h
  cases ho : o.op <;> rw [ho] at hv <;> simp only [isV, Bool.false_eq_true] at hv <;> simp only [ho] at h
  case nilCheck x => exact hn x ho
  case move x => simp only [Sem.run_pure, Result.ok.injEq] at h; exact ⟨_, h.1.symm⟩
  case assign x => simp only [Sem.run_pure, Result.ok.injEq] at h; exact ⟨_, h.1.symm⟩
  case pick c x y =>
    simp only [Sem.run_bind] at h
    cases hr : (asBool (ρ c)).run P w with
    | ok u w1 => rw [hr] at h; simp only [Result.andThen_ok, Sem.run_pure, Result.ok.injEq] at h; exact ⟨_, h.1.symm⟩
    | halt x w1 => rw [hr] at h; simp [Result.andThen] at h
  case call c =>
    unfold resolve at h
    cases hc : c.callee with
    | builtin b =>
      cases b <;> simp only [hc, Bool.false_eq_true] at hv <;> simp only [hc, Sem.run_bind, Sem.run_pure, Result.andThen_ok, invoke, builtin] at h <;> exact key _ (by simpa only [Sem.run_bind, Sem.run_pure] using h)
    | _ => simp only [hc, Bool.false_eq_true] at hv
  all_goals exact key _ h
/-- operations that only reckon and read, one value each in all the worlds of D -/
theorem wpE_qs {D : World → Prop} {Q : Act → Prop} (hD : ∀ listed w, C listed w → D w) : ∀ (n : Nat) (l : List Oper) (k : Nat) (a : Act),
    ((l.take n).all fun o => isV o.op) = true → n ≤ l.length → (∀ i, k ≤ i → i < k + n → ∀ listed w, C listed w → C (listed.setIfInBounds i true) w) →
    wpQuiet P ops D (fun a' => wpE P ops C Q (k + n) (l.drop n) a') (l.take n) a → wpE P ops C Q k l a
  | 0, l, k, a, _, _, _, h => h
  | n + 1, [], k, a, _, hn, _, _ => by simp at hn
  | n + 1, o :: l, k, a, hv, hn, hk, h => by
    simp only [List.take_succ_cons, List.all_cons, Bool.and_eq_true] at hv
    simp only [List.take_succ_cons, List.drop_succ_cons, wpQuiet] at h
    have ih := fun a' h' => wpE_qs (Q := Q) hD n l (k + 1) a' hv.2 (by simpa using hn) (fun i h1 h2 => hk i (by omega) (by omega)) h'
    rw [show k + (n + 1) = k + 1 + n by omega] at h
    have hk0 := hk k (Nat.le_refl _) (by omega)
    by_cases hw : Region.wanted o (yielded ops a.tmps) = true
    · rw [if_pos hw] at h
      obtain ⟨v, h1, h2⟩ := h
      refine ⟨v, .inl ⟨hw, fun listed w hr hC => ?_⟩, ih _ h2⟩
      have h3 := h1 w (hD _ _ hC)
      unfold Oper.quietAt at h3
      cases hr : (execOp a.eval o).run P w with
      | ok nx w' =>
        obtain ⟨u, rfl⟩ := isV_spec hv.1 hr
        rw [hr] at h3
        simp only [Oper.quietUpon] at h3
        simp only [effUpon]
        exact ⟨h3.2, by rw [h3.1]; exact hk0 _ _ hC⟩
      | halt x w' => rw [hr] at h3; simp only [Oper.quietUpon] at h3
    · rw [if_neg hw] at h
      exact ⟨undef, .inr ⟨by simpa using hw, rfl, fun listed w _ hC => hk0 _ _ hC⟩, ih _ h⟩
/-- one operation with an effect, or a call -/
theorem wpE_do {Q : Act → Prop} {o : Oper} {l : List Oper} {k : Nat} {a : Act} (hw : Region.wanted o (yielded ops a.tmps) = true) (v : Value)
    (h : ∀ K : Act → Prop, (∀ a, wpE P ops C Q (k + 1) l a → K a) → eff P C k o a v ∧ K (a.put o.dst v)) : wpE P ops C Q k (o :: l) a :=
  ⟨v, .inl ⟨hw, (h _ fun _ h => h).1⟩, (h _ fun _ h => h).2⟩
end
theorem drewN_setCell_ (w : World) (n : Nat) (a : Addr) (v : Value) : (w.drewN n).setCell a v = (w.setCell a v).drewN n := rfl
theorem drewN_alloc_ (w : World) (n : Nat) (o : Obj) : (w.drewN n).alloc o = (w.alloc o).drewN n := rfl
attribute [go_sem] drewN_setCell_ drewN_alloc_
section
variable {P : Program} {ops : Array Oper} {md : Region.Mode} {w : World}
end
/-- which of two effects are done -/
def cd : Bool → Bool → Nat
  | false, false => 0
  | true, false => 1
  | false, true => 2
  | true, true => 3
/-- two effects, i ahead of j -/
def cls2 (i j : Nat) (F : Nat → World) (listed : Array Bool) (w : World) : Prop := (listed.getD j false = true → listed.getD i false = true) ∧ ∃ m, w = (F (cd (listed.getD i false) (listed.getD j false))).drewN m
/-- two effects in any order -/
def cls2f (i j : Nat) (F : Nat → World) (listed : Array Bool) (w : World) : Prop := ∃ m, w = (F (cd (listed.getD i false) (listed.getD j false))).drewN m
/-- one effect -/
def cls1 (i : Nat) (F : Nat → World) (listed : Array Bool) (w : World) : Prop := ∃ m, w = (F (cd (listed.getD i false) false)).drewN m
structure Tm where
  t : Nat
  m : Nat
instance : Inhabited Tm := ⟨⟨0, 0⟩⟩
def dom2 (F : Nat → World) (w : World) : Prop := ∃ q : Tm, w = (F q.t).drewN q.m
def four (W0 W1 W2 W3 : World) : Nat → World
  | 0 => W0
  | 1 => W1
  | 2 => W2
  | _ => W3
theorem four_all {W0 W1 W2 W3 : World} {p : World → Prop} (h0 : p W0) (h1 : p W1) (h2 : p W2) (h3 : p W3) (t : Nat) : p (four W0 W1 W2 W3 t) := by
  match t with
  | 0 => exact h0
  | 1 => exact h1
  | 2 => exact h2
  | _ + 3 => exact h3
section
variable {i j k : Nat} {F : Nat → World} {listed : Array Bool} {w : World}
theorem getD_both_ {listed : Array Bool} {i : Nat} (h : listed.getD i true = false) : listed.getD i false = false := by
  rcases Nat.lt_or_ge i listed.size with h' | h'
  · simp [h'] at h ⊢; exact h
  · simp [Array.getElem?_eq_none h'] at h
theorem getD_self {listed : Array Bool} {i : Nat} (h : listed.getD i true = false) : (listed.setIfInBounds i true).getD i false = true := by
  rcases Nat.lt_or_ge i listed.size with h' | h'
  · simp [h']
  · simp [Array.getElem?_eq_none h'] at h
theorem cls2.dom (h : cls2 i j F listed w) : dom2 F w := let ⟨_, m, e⟩ := h; ⟨⟨_, m⟩, e⟩
theorem cls2f.dom (h : cls2f i j F listed w) : dom2 F w := let ⟨m, e⟩ := h; ⟨⟨_, m⟩, e⟩
theorem cls1.dom (h : cls1 i F listed w) : dom2 F w := let ⟨m, e⟩ := h; ⟨⟨_, m⟩, e⟩
theorem cls2.form (h : cls2 i j F listed w) : ∃ t m, w = (F t).drewN m := ⟨_, h.2⟩
theorem cls2f.form (h : cls2f i j F listed w) : ∃ t m, w = (F t).drewN m := ⟨_, h⟩
theorem cls1.form (h : cls1 i F listed w) : ∃ t m, w = (F t).drewN m := ⟨_, h⟩
theorem cls2.keep (h : cls2 i j F listed w) (h1 : k ≠ i) (h2 : k ≠ j) : cls2 i j F (listed.setIfInBounds k true) w := by
  unfold cls2 at *; rw [getD_set_ne false h1, getD_set_ne false h2]; exact h
theorem cls2f.keep (h : cls2f i j F listed w) (h1 : k ≠ i) (h2 : k ≠ j) : cls2f i j F (listed.setIfInBounds k true) w := by
  unfold cls2f at *; rw [getD_set_ne false h1, getD_set_ne false h2]; exact h
theorem cls1.keep (h : cls1 i F listed w) (h1 : k ≠ i) (_ : k ≠ i) : cls1 i F (listed.setIfInBounds k true) w := by
  unfold cls1 at *; rw [getD_set_ne false h1]; exact h
theorem cls2.at1 (h : cls2 i j F listed w) (hr : listed.getD i true = false) : ∃ m, w = (F 0).drewN m := by
  obtain ⟨h1, m, h2⟩ := h
  have e := getD_both_ hr
  rw [e] at h1 h2
  have e2 : listed.getD j false = false := by cases h : listed.getD j false <;> simp_all
  rw [e2] at h2
  exact ⟨m, h2⟩
theorem cls2.at2 (h : cls2 i j F listed w) (hr : listed.getD j true = false) (hi : listed.getD i false = true) : ∃ m, w = (F 1).drewN m := by
  obtain ⟨h1, m, h2⟩ := h
  rw [hi, getD_both_ hr] at h2
  exact ⟨m, h2⟩
theorem cls2.to1 (hij : i ≠ j) (h : cls2 i j F listed w) (hr : listed.getD i true = false) (m : Nat) : cls2 i j F (listed.setIfInBounds i true) ((F 1).drewN m) := by
  have e2 : listed.getD j false = false := by cases h' : listed.getD j false; rfl; have := h.1 h'; rw [getD_both_ hr] at this; cases this
  unfold cls2; rw [getD_self hr, getD_set_ne false hij, e2]
  exact ⟨fun _ => rfl, m, rfl⟩
theorem cls2.to2 (hij : i ≠ j) (hr : listed.getD j true = false) (hi : listed.getD i false = true) (m : Nat) : cls2 i j F (listed.setIfInBounds j true) ((F 3).drewN m) := by
  unfold cls2; rw [getD_self hr, getD_set_ne false (Ne.symm hij), hi]
  exact ⟨fun _ => rfl, m, rfl⟩
theorem cls2.end_ (h : cls2 i j F listed w) (hi : listed.getD i false = true) (hj : listed.getD j false = true) : ∃ m, w = (F 3).drewN m := by
  obtain ⟨_, m, h2⟩ := h
  rw [hi, hj] at h2; exact ⟨m, h2⟩
theorem cls2f.end_ (h : cls2f i j F listed w) (hi : listed.getD i false = true) (hj : listed.getD j false = true) : ∃ m, w = (F 3).drewN m := by
  obtain ⟨m, h2⟩ := h
  rw [hi, hj] at h2; exact ⟨m, h2⟩
theorem cls1.end_ (h : cls1 i F listed w) (hi : listed.getD i false = true) : ∃ m, w = (F 1).drewN m := by
  obtain ⟨m, h2⟩ := h
  rw [hi] at h2; exact ⟨m, h2⟩
theorem cls1.at1 (h : cls1 i F listed w) (hr : listed.getD i true = false) : ∃ m, w = (F 0).drewN m := by
  obtain ⟨m, h2⟩ := h
  rw [getD_both_ hr] at h2
  exact ⟨m, h2⟩
theorem cls1.to1 (hr : listed.getD i true = false) (m : Nat) : cls1 i F (listed.setIfInBounds i true) ((F 1).drewN m) := by
  unfold cls1; rw [getD_self hr]; exact ⟨m, rfl⟩
theorem cls2f.at1 (h : cls2f i j F listed w) (hr : listed.getD i true = false) : ∃ y m, listed.getD j false = y ∧ w = (F (cd false y)).drewN m := by
  obtain ⟨m, h2⟩ := h
  rw [getD_both_ hr] at h2
  exact ⟨_, m, rfl, h2⟩
theorem cls2f.at2 (h : cls2f i j F listed w) (hr : listed.getD j true = false) : ∃ x m, listed.getD i false = x ∧ w = (F (cd x false)).drewN m := by
  obtain ⟨m, h2⟩ := h
  rw [getD_both_ hr] at h2
  exact ⟨_, m, rfl, h2⟩
theorem cls2f.to1 (hij : i ≠ j) (hr : listed.getD i true = false) {y : Bool} (hy : listed.getD j false = y) (m : Nat) : cls2f i j F (listed.setIfInBounds i true) ((F (cd true y)).drewN m) := by
  unfold cls2f; rw [getD_self hr, getD_set_ne false hij, hy]; exact ⟨m, rfl⟩
theorem cls2f.to2 (hij : i ≠ j) (hr : listed.getD j true = false) {x : Bool} (hx : listed.getD i false = x) (m : Nat) : cls2f i j F (listed.setIfInBounds j true) ((F (cd x true)).drewN m) := by
  unfold cls2f; rw [getD_self hr, getD_set_ne false (Ne.symm hij), hx]; exact ⟨m, rfl⟩
end
end Go.Proofs.YtbckoohljkmahaaGreat
namespace Go.Proofs.YtbckoohljkmahaaGreat
set_option linter.unusedVariables false
set_option linter.unusedSimpArgs false
open Go.RowKit
def Hd.val (h : Hd) : Value := .agg #[.int .i64 h.size, .int .i64 h.len, .int .i64 h.ttl, .int .i64 h.proto, .int .u32 h.src, .int .u32 h.dst]
theorem u32_shl_or (a b : Int) (h0 : 0 ≤ a ∧ a < 16777216) (h1 : 0 ≤ b ∧ b ≤ 255) : bits .or .u32 (a * 256) b = a * 256 + b := by
  rw [u32_or _ _ (by omega) (by omega) (by omega) (by omega)]
  have : (a * 256).toNat ||| b.toNat = (a * 256).toNat + b.toNat := by
    have e : (a * 256).toNat = 2 ^ 8 * a.toNat := by omega
    rw [e, Nat.two_pow_add_eq_or_of_lt (by omega)]
  rw [this]; omega
set_option maxHeartbeats 400000 in
theorem num_any (l : List Int) (A : Option Addr) (len c B : Nat) (w : World) (hl : len ≤ 4) (hr : Rd .u8 w B A len l) :
    Calls Tryz.prog 114 #[.slice A len c] w fun e w' => e = .returned (.int .u32 (numOf l)) ∧ w = w' := by
  have hlen := Lib.hid hr.len
  have hB := numOf_bd l (fun x hx => inr_u8 (hr.rng x hx))
  go_enter Tryz.func114, Tryz.ntmps114
  go_wp2
  go_loop [3, 8, 5] (fun n i c => ∃ k : Nat, k ≤ len ∧ i = .int .i64 k ∧ n = .int .u32 (numOf (l.take k))) (fun _ i _ => len - (intOf i).toNat)
  case atStart => exact ⟨0, by omega, rfl, by simp [numOf]⟩
  case round =>
    obtain ⟨k, hk, rfl, rfl⟩ := hrel
    by_cases hlt : k < len
    · obtain ⟨b, o, rfl, hbl, hc, hx⟩ := hr.at_ hlt
      have hx := inr_u8 hx
      have hb := hB k (by rw [hlen.out]; omega)
      have hb2 : numOf (l.take k) < 16777216 := by
        have : (256 : Int) ^ k ≤ 256 ^ 3 := by
          have h4 : k = 0 ∨ k = 1 ∨ k = 2 ∨ k = 3 := by omega
          rcases h4 with rfl | rfl | rfl | rfl <;> decide
        omega
      have hor := u32_shl_or (numOf (l.take k)) (l.getD k 0) (by omega) hx
      have HS : Hid (numOf (l.take (k + 1)) = numOf (l.take k) * 256 + l.getD k 0) := by
        have : k < l.length := by rw [hlen.out]; exact hlt
        show _ = _
        rw [List.take_succ_eq_append_getElem this, numOf_snoc, List.getD_eq_getElem?_getD, List.getElem?_eq_getElem this]; rfl
      replace hb := hb.1
      obtain ⟨x, hxe⟩ : ∃ x, x = l.getD k 0 := ⟨_, rfl⟩
      rw [← hxe] at hc hx hor HS
      obtain ⟨N, hN⟩ : ∃ N, N = numOf (l.take k) := ⟨_, rfl⟩
      rw [← hN] at hb hb2 hor HS ⊢
      clear hxe hN hB hlen
      have hd : decide (k < len) = true := by simpa using hlt
      go_wp2
      exact ⟨⟨k + 1, by omega, by go_num, by rw [HS.out]⟩, by simp [intOf]; omega⟩
    · have hke : k = len := by omega
      have hd : decide (k < len) = false := by simpa using hlt
      clear hB
      go_wp2
      go_ret
      exact ⟨by rw [List.take_of_length_le (by rw [hlen.out]; omega)]; rfl, rfl⟩
theorem Rd.sub {k : IntKind} {w : World} {B b o n : Nat} {l : List Int} (h : Rd k w B (some ⟨b, o, none⟩) n l) (i m : Nat) (hi : i + m ≤ n) : Rd k w B (some ⟨b, o + i, none⟩) m (seg l i m) := by
  have hl := h.len
  refine ⟨seg_length _ _ _ (by omega), fun x hx => h.rng x (seg_mem hx), fun h0 => ?_⟩
  obtain ⟨b', o', e, hb, hc⟩ := h.cel (by omega)
  simp only [Option.some.injEq, Addr.mk.injEq, and_true] at e
  obtain ⟨rfl, rfl⟩ := e
  refine ⟨_, _, rfl, hb, fun j hj => ?_⟩
  rw [Nat.add_assoc, hc (i + j) (by omega)]
  simp [seg, List.getD_eq_getElem?_getD, hj]
theorem Rd.form {k : IntKind} {w : World} {B n : Nat} {A : Option Addr} {l : List Int} (h : Rd k w B A n l) (hn : 0 < n) : ∃ b o, A = some ⟨b, o, none⟩ := by
  obtain ⟨b, o, e, _⟩ := h.cel hn; exact ⟨b, o, e⟩
theorem Rd.cell {k : IntKind} {w : World} {B b o n : Nat} {l : List Int} (h : Rd k w B (some ⟨b, o, none⟩) n l) (j : Nat) (hj : j < n) : w.cell? ⟨b, o + j, none⟩ = some (.int k (l.getD j 0)) ∧ inr k (l.getD j 0) := by
  obtain ⟨b', o', e, _, h1, h2⟩ := h.at_ hj
  simp only [Option.some.injEq, Addr.mk.injEq, and_true] at e
  obtain ⟨rfl, rfl⟩ := e
  exact ⟨h1, h2⟩
theorem Rd.cell0 {k : IntKind} {w : World} {B b o n : Nat} {l : List Int} (h : Rd k w B (some ⟨b, o, none⟩) n l) (hn : 0 < n) : w.cell? ⟨b, o, none⟩ = some (.int k (l.getD 0 0)) ∧ inr k (l.getD 0 0) := h.cell 0 hn
theorem u8_and15 (a : Int) : bits .and .u8 a 15 = a % 16 := and_mask (k := .u8) rfl 4 (by decide) a
theorem u32_and3FFF (a : Int) : bits .and .u32 a 16383 = a % 16384 := and_mask (k := .u32) rfl 14 (by decide) a
attribute [go_sem] u8_and15 u32_and3FFF
theorem Rd.of_cells (k : IntKind) (w : World) (b o : Nat) (l : List Int) (n : Nat) (hl : l.length = n) (hr : ∀ x, x ∈ l → inr k x) (hc : ∀ j, j < n → w.cell? ⟨b, o + j, none⟩ = some (.int k (l.getD j 0))) : Rd k w (b + 1) (some ⟨b, o, none⟩) n l :=
  ⟨hl, hr, fun _ => ⟨b, o, rfl, by omega, hc⟩⟩
theorem num2_cells (b o c : Nat) (x y : Int) (w : World) (hx : 0 ≤ x ∧ x ≤ 255) (hy : 0 ≤ y ∧ y ≤ 255) (h0 : w.cell? ⟨b, o, none⟩ = some (.int .u8 x)) (h1 : w.cell? ⟨b, o + 1, none⟩ = some (.int .u8 y)) :
    Calls Tryz.prog 114 #[.slice (some ⟨b, o, none⟩) 2 c] w fun e w' => e = .returned (.int .u32 (x * 256 + y)) ∧ w = w' := by
  have := num_any [x, y] (some ⟨b, o, none⟩) 2 c (b + 1) w (by omega) (Rd.of_cells .u8 w b o [x, y] 2 rfl (by simp; exact ⟨u8_inr hx, u8_inr hy⟩) (fun j hj => by
    have : j = 0 ∨ j = 1 := by omega
    rcases this with rfl | rfl
    · exact h0
    · exact h1))
  simpa [numOf] using this
set_option maxHeartbeats 2000000 in
set_option maxRecDepth 100000 in
theorem shaped_any (l : List Int) (most : Int) (A : Option Addr) (len c B : Nat) (w : World) (hr : Rd .u8 w B A len l) (hB : B ≤ w.heap.size) (hlc : len ≤ c) (hcm : c ≤ 9223372036854775807) :
    Calls Tryz.prog 95 #[.slice A len c, .int .i64 most] w fun e w' => e = .returned (.tuple #[(hdIf l (shapeE l most)).val, .int .i64 (shapeE l most)]) ∧ Below w.heap.size w w' := by
  have hcs := shape_cases l most
  rw [hr.len] at hcs
  rcases hcs with ⟨e, h1⟩ | hcs
  · rw [e]; clear e
    go_enter Tryz.func95, Tryz.ntmps95
    go_wp2
    exact bodyPost_ret (v := .tuple #[Hd.z.val, .int .i64 2]) (by simp [results, Tryz.results95, go_sem, Hd.val, Hd.z]) rfl ⟨rfl, (Below.refl _ _).alloc (Nat.le_refl _) _⟩
  have h20 : 20 ≤ len := by rcases hcs with ⟨_, h, _⟩ | ⟨_, h, _⟩ | ⟨_, h, _⟩ | ⟨_, h, _⟩ | ⟨_, h, _⟩ | ⟨_, h, _⟩ <;> exact h
  obtain ⟨b, o, rfl⟩ := hr.form (by omega)
  obtain ⟨c0, x0⟩ := hr.cell0 (by omega)
  replace x0 := inr_u8 x0
  have rd2 := hr.sub 2 2 (by omega)
  have hN := n2_bd (fun x hx => inr_u8 (hr.rng x hx)) (i := 2) (by rw [hr.len]; omega)
  obtain ⟨f0, hf0⟩ : ∃ x, x = l.getD 0 0 := ⟨_, rfl⟩
  rw [← hf0] at hcs c0 x0
  obtain ⟨c2, x2⟩ := hr.cell 2 (by omega)
  obtain ⟨c3, x3⟩ := hr.cell 3 (by omega)
  replace x2 := inr_u8 x2
  replace x3 := inr_u8 x3
  rw [n2_eq l 2 (by rw [hr.len]; omega)] at hcs hN
  simp only [Nat.reduceAdd] at hcs hN
  obtain ⟨f2, hf2⟩ : ∃ x, x = l.getD 2 0 := ⟨_, rfl⟩
  obtain ⟨f3, hf3⟩ : ∃ x, x = l.getD 3 0 := ⟨_, rfl⟩
  rw [← hf2] at hcs hN c2 x2
  rw [← hf3] at hcs hN c3 x3
  replace hf0 := Lib.hid hf0
  replace hf2 := Lib.hid hf2
  replace hf3 := Lib.hid hf3
  obtain ⟨W0, hW0⟩ : ∃ W, W = w.alloc (.cells #[.int .i64 0, .int .i64 0, .int .i64 0, .int .i64 0, .int .u32 0, .int .u32 0] 105) := ⟨_, rfl⟩
  obtain ⟨W1, hW1⟩ : ∃ W, W = W0.alloc (.cells #[.int .i64 0, .int .i64 0, .int .i64 0, .int .i64 0, .int .u32 0, .int .u32 0] 105) := ⟨_, rfl⟩
  obtain ⟨W3, hW3⟩ : ∃ W, W = W0.alloc (.cells #[.int .i64 (4 * (f0 % 16)), .int .i64 (f2 * 256 + f3), .int .i64 0, .int .i64 0, .int .u32 0, .int .u32 0] 105) := ⟨_, rfl⟩
  obtain ⟨F, hF⟩ : ∃ F, F = four W0 W1 W1 W3 := ⟨_, rfl⟩
  have Fc : ∀ p : Addr, ∀ v, w.cell? p = some v → ∀ t, (F t).cell? p = some v := by
    intro p v hp t
    have := cell_lt hp
    rw [hF, hW1, hW3, hW0]
    refine four_all (p := fun w' => w'.cell? p = some v) ?_ ?_ ?_ ?_ t <;> simp [World.cell?_alloc_lt, this, hp, Nat.lt_succ_of_lt]
  have F0 := Fc _ _ c0
  have F2 := Fc _ _ c2
  have F3 := Fc _ _ c3
  clear Fc
  replace hF := Lib.hid hF
  replace hW0 := Lib.hid hW0
  replace hW1 := Lib.hid hW1
  replace hW3 := Lib.hid hW3
  obtain ⟨E, hE⟩ : ∃ E, E = shapeE l most := ⟨_, rfl⟩
  rw [← hE] at hcs ⊢
  replace hE := Lib.hid hE
  replace hcs := Lib.hid hcs
  go_enter Tryz.func95, Tryz.ntmps95
  go_wp2_with fail
  refine wp_region_E (cls2 11 12 F) (by kernel_rfl) (by kernel_rfl) ⟨by simp, 1, by rw [hF.out]; show _ = W0.drew; rw [hW0.out]⟩ ?_
  refine wpE_qs (D := dom2 F) (fun _ _ h => h.dom) 8 _ _ _ (by kernel_rfl) (by simp) (fun i h1 h2 _ _ h => h.keep (by omega) (by omega)) ?_
  unfold dom2
  simp only [List.take_succ_cons, List.take_zero, List.drop_succ_cons, List.drop_zero]
  repeat (first
    | go_big_quiet_skip
    | (go_big_quiet_want; go_big_quiet_op; go_big_quiet_on))
  refine wpQuiet_nil ?_
  refine wpE_do (by kernel_rfl) (.int .u32 (f2 * 256 + f3)) (fun K hK => ⟨fun listed w' hrd hC => ?_, ?_⟩)
  · obtain ⟨t, m, rfl⟩ := hC.form
    go_simp
    refine (num2_cells b (o + 2) _ f2 f3 _ x2 x3 ?_ ?_).mono ?_
    · simp [F2]
    · simp [F3]
    · rintro e w' ⟨rfl, rfl⟩; exact ⟨rfl, hC.keep (by omega) (by omega)⟩
  go_simp; refine hK _ ?_; clear hK K
  refine wpE_qs (D := dom2 F) (fun _ _ h => h.dom) 2 _ _ _ (by kernel_rfl) (by simp) (fun i h1 h2 _ _ h => h.keep (by omega) (by omega)) ?_
  unfold dom2
  simp only [List.take_succ_cons, List.take_zero, List.drop_succ_cons, List.drop_zero]
  repeat (first
    | go_big_quiet_skip
    | (go_big_quiet_want; go_big_quiet_op; go_big_quiet_on))
  refine wpQuiet_nil ?_
  refine wpE_do (by kernel_rfl) (.pointer (some ⟨w.heap.size + 1, 0, none⟩)) (fun K hK => ⟨fun listed w' hrd hC => ?_, ?_⟩)
  · obtain ⟨m, rfl⟩ := hC.at1 hrd.1
    have := hC.to1 (by decide) hrd.1 m
    have e0 : F 0 = W0 := by rw [hF.out]; rfl
    have e1 : F 1 = W1 := by rw [hF.out]; rfl
    rw [e1, hW1.out, hW0.out] at this
    rw [e0, hW0.out]
    clear e0 e1 hC
    go_simp
    exact ⟨rfl, this⟩
  go_simp; refine hK _ ?_; clear hK K
  refine wpE_do (by kernel_rfl) (undef) (fun K hK => ⟨fun listed w' hrd hC => ?_, ?_⟩)
  · obtain ⟨m, rfl⟩ := hC.at2 hrd.1 (hrd.2 ⟨11, .data⟩ (by simp) rfl)
    have := cls2.to2 (F := F) (i := 11) (by decide) hrd.1 (hrd.2 ⟨11, .data⟩ (by simp) rfl) m
    have e0 : F 1 = W1 := by rw [hF.out]; rfl
    have e1 : F 3 = W3 := by rw [hF.out]; rfl
    rw [e1, hW3.out, hW0.out] at this
    rw [e0, hW1.out, hW0.out]
    clear e0 e1 hC
    go_simp
    exact ⟨rfl, this⟩
  go_simp; refine hK _ ?_; clear hK K
  intro w' hw'
  obtain ⟨m, rfl⟩ := cls2.end_ (F := F) hw' (by kernel_rfl) (by kernel_rfl)
  have e1 : F 3 = W3 := by rw [hF.out]; rfl
  rw [e1, hW3.out, hW0.out]
  clear hw' e1 F0 F2 F3 hF hW3 hW1 hW0
  have bel : Below w.heap.size w (((w.alloc (Obj.cells #[.int .i64 0, .int .i64 0, .int .i64 0, .int .i64 0, .int .u32 0, .int .u32 0] 105)).alloc (Obj.cells #[.int .i64 (4 * (f0 % 16)), .int .i64 (f2 * 256 + f3), .int .i64 0, .int .i64 0, .int .u32 0, .int .u32 0] 105)).drewN m) :=
    below_drewN (((Below.refl _ _).alloc (Nat.le_refl _) _).alloc (by simp) _) m
  have hb := cell_lt c0
  simp only at hb
  have hb0 : b ≠ w.heap.size := by omega
  have hb1 : b ≠ w.heap.size + 1 := by omega
  rcases hcs.out with ⟨e, _, h1, h2⟩ | ⟨e, _, h1, h2⟩ | ⟨e, _, h1, h2, h3⟩ | ⟨e, _, h1, h2, h3, h4⟩ | ⟨e, _, h1, h2, h3, h4, h5⟩ | ⟨e, _, h1, h2, h3, h4, h5⟩
  all_goals
    replace e := Lib.hid e
    clear hcs
  · go_wp2
    exact bodyPost_ret (v := .tuple #[Hd.z.val, .int .i64 3]) (by simp [results, Tryz.results95, go_sem, Hd.val, Hd.z]) rfl ⟨by rw [e.out]; rfl, bel⟩
  · go_wp2
    exact bodyPost_ret (v := .tuple #[Hd.z.val, .int .i64 3]) (by simp [results, Tryz.results95, go_sem, Hd.val, Hd.z]) rfl ⟨by rw [e.out]; rfl, bel⟩
  · go_wp2
    exact bodyPost_ret (v := .tuple #[Hd.z.val, .int .i64 2]) (by simp [results, Tryz.results95, go_sem, Hd.val, Hd.z]) rfl ⟨by rw [e.out]; rfl, bel⟩
  · go_wp2
    exact bodyPost_ret (v := .tuple #[Hd.z.val, .int .i64 3]) (by simp [results, Tryz.results95, go_sem, Hd.val, Hd.z]) rfl ⟨by rw [e.out]; rfl, bel⟩
  · go_wp2
    exact bodyPost_ret (v := .tuple #[Hd.z.val, .int .i64 3]) (by simp [results, Tryz.results95, go_sem, Hd.val, Hd.z]) rfl ⟨by rw [e.out]; rfl, bel⟩
  obtain ⟨c8, x8⟩ := hr.cell 8 (by omega)
  obtain ⟨c9, x9⟩ := hr.cell 9 (by omega)
  replace x8 := inr_u8 x8
  replace x9 := inr_u8 x9
  obtain ⟨f8, hf8⟩ : ∃ x, x = l.getD 8 0 := ⟨_, rfl⟩
  obtain ⟨f9, hf9⟩ : ∃ x, x = l.getD 9 0 := ⟨_, rfl⟩
  rw [← hf8] at c8 x8
  rw [← hf9] at c9 x9
  replace hf8 := Lib.hid hf8
  replace hf9 := Lib.hid hf9
  go_wp2
  obtain ⟨F, hF⟩ : ∃ F, F = four (((w.alloc (Obj.cells #[.int .i64 0, .int .i64 0, .int .i64 0, .int .i64 0, .int .u32 0, .int .u32 0] 105)).alloc (Obj.cells #[.int .i64 (4 * (f0 % 16)), .int .i64 (f2 * 256 + f3), .int .i64 0, .int .i64 0, .int .u32 0, .int .u32 0] 105))) (((w.alloc (Obj.cells #[.int .i64 0, .int .i64 0, .int .i64 0, .int .i64 0, .int .u32 0, .int .u32 0] 105)).alloc (Obj.cells #[.int .i64 (4 * (f0 % 16)), .int .i64 (f2 * 256 + f3), .int .i64 f8, .int .i64 0, .int .u32 0, .int .u32 0] 105))) (((w.alloc (Obj.cells #[.int .i64 0, .int .i64 0, .int .i64 0, .int .i64 0, .int .u32 0, .int .u32 0] 105)).alloc (Obj.cells #[.int .i64 (4 * (f0 % 16)), .int .i64 (f2 * 256 + f3), .int .i64 0, .int .i64 f9, .int .u32 0, .int .u32 0] 105))) (((w.alloc (Obj.cells #[.int .i64 0, .int .i64 0, .int .i64 0, .int .i64 0, .int .u32 0, .int .u32 0] 105)).alloc (Obj.cells #[.int .i64 (4 * (f0 % 16)), .int .i64 (f2 * 256 + f3), .int .i64 f8, .int .i64 f9, .int .u32 0, .int .u32 0] 105))) := ⟨_, rfl⟩
  have Fc : ∀ p : Addr, ∀ v, w.cell? p = some v → ∀ t, (F t).cell? p = some v := by
    intro p v hp t
    have := cell_lt hp
    rw [hF]
    refine four_all (p := fun w' => w'.cell? p = some v) ?_ ?_ ?_ ?_ t <;> simp [World.cell?_alloc_lt, this, hp, Nat.lt_succ_of_lt]
  have F8 := Fc _ _ c8
  have F9 := Fc _ _ c9
  clear Fc
  replace hF := Lib.hid hF
  refine wp_region_E (cls2f 9 11 F) (by kernel_rfl) (by kernel_rfl) ⟨m + 1, by rw [hF.out]; rfl⟩ ?_
  refine wpE_qs (D := dom2 F) (fun _ _ h => h.dom) 9 _ _ _ (by kernel_rfl) (by simp) (fun i h1 h2 _ _ h => h.keep (by omega) (by omega)) ?_
  unfold dom2
  simp only [List.take_succ_cons, List.take_zero, List.drop_succ_cons, List.drop_zero]
  repeat (first
    | go_big_quiet_skip
    | (go_big_quiet_want; go_big_quiet_op; go_big_quiet_on))
  refine wpQuiet_nil ?_
  refine wpE_do (by kernel_rfl) (undef) (fun K hK => ⟨fun listed w' hrd hC => ?_, ?_⟩)
  · obtain ⟨y, m, hy, rfl⟩ := cls2f.at1 (F := F) hC hrd.1
    have hnx := cls2f.to1 (F := F) (i := 9) (j := 11) (by decide) hrd.1 hy m
    replace hF := hF.out
    clear hC
    subst hF
    cases y <;> simp only [cd, four] at hnx ⊢ <;> go_simp <;> exact ⟨rfl, hnx⟩
  go_simp; refine hK _ ?_; clear hK K
  refine wpE_qs (D := dom2 F) (fun _ _ h => h.dom) 1 _ _ _ (by kernel_rfl) (by simp) (fun i h1 h2 _ _ h => h.keep (by omega) (by omega)) ?_
  unfold dom2
  simp only [List.take_succ_cons, List.take_zero, List.drop_succ_cons, List.drop_zero]
  repeat (first
    | go_big_quiet_skip
    | (go_big_quiet_want; go_big_quiet_op; go_big_quiet_on))
  refine wpQuiet_nil ?_
  refine wpE_do (by kernel_rfl) (undef) (fun K hK => ⟨fun listed w' hrd hC => ?_, ?_⟩)
  · obtain ⟨y, m, hy, rfl⟩ := cls2f.at2 (F := F) hC hrd.1
    have hnx := cls2f.to2 (F := F) (i := 9) (j := 11) (by decide) hrd.1 hy m
    replace hF := hF.out
    clear hC
    subst hF
    cases y <;> simp only [cd, four] at hnx ⊢ <;> go_simp <;> exact ⟨rfl, hnx⟩
  go_simp; refine hK _ ?_; clear hK K
  intro w' hw'
  obtain ⟨m, rfl⟩ := cls2f.end_ (F := F) hw' (by kernel_rfl) (by kernel_rfl)
  replace hF := hF.out
  clear hw'
  subst hF
  simp only [four]
  clear F8 F9
  have rd12 := (hr.more hB).sub 12 4 (by omega)
  have rd16 := (hr.more hB).sub 16 4 (by omega)
  obtain ⟨N12, hN12⟩ : ∃ x, x = numOf (seg l 12 4) := ⟨_, rfl⟩
  obtain ⟨N16, hN16⟩ : ∃ x, x = numOf (seg l 16 4) := ⟨_, rfl⟩
  replace hN12 := Lib.hid hN12
  replace hN16 := Lib.hid hN16
  go_wp2
  obtain ⟨F, hF⟩ : ∃ F, F = four (((w.alloc (Obj.cells #[.int .i64 0, .int .i64 0, .int .i64 0, .int .i64 0, .int .u32 0, .int .u32 0] 105)).alloc (Obj.cells #[.int .i64 (4 * (f0 % 16)), .int .i64 (f2 * 256 + f3), .int .i64 f8, .int .i64 f9, .int .u32 0, .int .u32 0] 105))) (((w.alloc (Obj.cells #[.int .i64 0, .int .i64 0, .int .i64 0, .int .i64 0, .int .u32 0, .int .u32 0] 105)).alloc (Obj.cells #[.int .i64 (4 * (f0 % 16)), .int .i64 (f2 * 256 + f3), .int .i64 f8, .int .i64 f9, .int .u32 N12, .int .u32 0] 105))) (((w.alloc (Obj.cells #[.int .i64 0, .int .i64 0, .int .i64 0, .int .i64 0, .int .u32 0, .int .u32 0] 105)).alloc (Obj.cells #[.int .i64 (4 * (f0 % 16)), .int .i64 (f2 * 256 + f3), .int .i64 f8, .int .i64 f9, .int .u32 0, .int .u32 N16] 105))) (((w.alloc (Obj.cells #[.int .i64 0, .int .i64 0, .int .i64 0, .int .i64 0, .int .u32 0, .int .u32 0] 105)).alloc (Obj.cells #[.int .i64 (4 * (f0 % 16)), .int .i64 (f2 * 256 + f3), .int .i64 f8, .int .i64 f9, .int .u32 N12, .int .u32 N16] 105))) := ⟨_, rfl⟩
  have FR : ∀ t, Below w.heap.size w (F t) := fun t => by
    rw [hF]
    refine four_all (p := fun w' => Below w.heap.size w w') ?_ ?_ ?_ ?_ t <;> exact ((Below.refl _ _).alloc (Nat.le_refl _) _).alloc (by simp) _
  replace FR := Lib.hid FR
  replace hF := Lib.hid hF
  refine wp_region_E (cls2f 7 9 F) (by kernel_rfl) (by kernel_rfl) ⟨m + 1, by rw [hF.out]; rfl⟩ ?_
  refine wpE_qs (D := dom2 F) (fun _ _ h => h.dom) 2 _ _ _ (by kernel_rfl) (by simp) (fun i h1 h2 _ _ h => h.keep (by omega) (by omega)) ?_
  unfold dom2
  simp only [List.take_succ_cons, List.take_zero, List.drop_succ_cons, List.drop_zero]
  repeat (first
    | go_big_quiet_skip
    | (go_big_quiet_want; go_big_quiet_op; go_big_quiet_on))
  refine wpQuiet_nil ?_
  refine wpE_do (by kernel_rfl) (.int .u32 N12) (fun K hK => ⟨fun listed w' hrd hC => ?_, ?_⟩)
  · obtain ⟨t, m, rfl⟩ := hC.form
    go_simp
    refine (num_any _ _ _ _ _ _ (by omega) ((rd12.below (FR.out t)).drewN m)).mono ?_
    rintro e w' ⟨rfl, rfl⟩; exact ⟨by rw [hN12.out], hC.keep (by omega) (by omega)⟩
  go_simp; refine hK _ ?_; clear hK K
  refine wpE_qs (D := dom2 F) (fun _ _ h => h.dom) 2 _ _ _ (by kernel_rfl) (by simp) (fun i h1 h2 _ _ h => h.keep (by omega) (by omega)) ?_
  unfold dom2
  simp only [List.take_succ_cons, List.take_zero, List.drop_succ_cons, List.drop_zero]
  repeat (first
    | go_big_quiet_skip
    | (go_big_quiet_want; go_big_quiet_op; go_big_quiet_on))
  refine wpQuiet_nil ?_
  refine wpE_do (by kernel_rfl) (.int .u32 N16) (fun K hK => ⟨fun listed w' hrd hC => ?_, ?_⟩)
  · obtain ⟨t, m, rfl⟩ := hC.form
    go_simp
    refine (num_any _ _ _ _ _ _ (by omega) ((rd16.below (FR.out t)).drewN m)).mono ?_
    rintro e w' ⟨rfl, rfl⟩; exact ⟨by rw [hN16.out], hC.keep (by omega) (by omega)⟩
  go_simp; refine hK _ ?_; clear hK K
  refine wpE_qs (D := dom2 F) (fun _ _ h => h.dom) 1 _ _ _ (by kernel_rfl) (by simp) (fun i h1 h2 _ _ h => h.keep (by omega) (by omega)) ?_
  unfold dom2
  simp only [List.take_succ_cons, List.take_zero, List.drop_succ_cons, List.drop_zero]
  repeat (first
    | go_big_quiet_skip
    | (go_big_quiet_want; go_big_quiet_op; go_big_quiet_on))
  refine wpQuiet_nil ?_
  refine wpE_do (by kernel_rfl) (undef) (fun K hK => ⟨fun listed w' hrd hC => ?_, ?_⟩)
  · obtain ⟨y, m, hy, rfl⟩ := cls2f.at1 (F := F) hC hrd.1
    have hnx := cls2f.to1 (F := F) (i := 7) (j := 9) (by decide) hrd.1 hy m
    replace hF := hF.out
    clear hC
    subst hF
    cases y <;> simp only [cd, four] at hnx ⊢ <;> go_simp <;> exact ⟨rfl, hnx⟩
  go_simp; refine hK _ ?_; clear hK K
  refine wpE_qs (D := dom2 F) (fun _ _ h => h.dom) 1 _ _ _ (by kernel_rfl) (by simp) (fun i h1 h2 _ _ h => h.keep (by omega) (by omega)) ?_
  unfold dom2
  simp only [List.take_succ_cons, List.take_zero, List.drop_succ_cons, List.drop_zero]
  repeat (first
    | go_big_quiet_skip
    | (go_big_quiet_want; go_big_quiet_op; go_big_quiet_on))
  refine wpQuiet_nil ?_
  refine wpE_do (by kernel_rfl) (undef) (fun K hK => ⟨fun listed w' hrd hC => ?_, ?_⟩)
  · obtain ⟨y, m, hy, rfl⟩ := cls2f.at2 (F := F) hC hrd.1
    have hnx := cls2f.to2 (F := F) (i := 7) (j := 9) (by decide) hrd.1 hy m
    replace hF := hF.out
    clear hC
    subst hF
    cases y <;> simp only [cd, four] at hnx ⊢ <;> go_simp <;> exact ⟨rfl, hnx⟩
  go_simp; refine hK _ ?_; clear hK K
  intro w' hw'
  obtain ⟨m, rfl⟩ := cls2f.end_ (F := F) hw' (by kernel_rfl) (by kernel_rfl)
  replace hF := hF.out
  clear hw'
  subst hF
  simp only [four]
  go_wp2
  exact bodyPost_ret (v := .tuple #[.agg #[.int .i64 (4 * (f0 % 16)), .int .i64 (f2 * 256 + f3), .int .i64 f8, .int .i64 f9, .int .u32 N12, .int .u32 N16], .int .i64 0]) (by simp [results, Tryz.results95, go_sem]) rfl
    ⟨by rw [e.out]; unfold hdIf hdOf Hd.val; rw [if_pos rfl, hN12.out, hN16.out, hf8.out, hf9.out, hf0.out, n2_eq l 2 (by rw [hr.len]; omega), hf2.out, hf3.out, Int.mul_comm]; rfl, below_drewN (((Below.refl _ _).alloc (Nat.le_refl _) _).alloc (by simp) _) m⟩
end Go.Proofs.YtbckoohljkmahaaGreat
namespace Go.Proofs.YtbckoohljkmahaaGreat
set_option linter.unusedVariables false
set_option linter.unusedSimpArgs false
open Go.RowKit
def selH (e : Int) (h : Hd) : Hd := if e = 0 then h else Hd.z
theorem wholeE_cases (l : List Int) : (wholeE l = 0 ∧ (n2 l 6 % 16384 != 0) = false) ∨ (wholeE l = 5 ∧ (n2 l 6 % 16384 != 0) = true) := by
  unfold wholeE
  by_cases h : n2 l 6 % 16384 = 0
  · left; rw [if_neg (by simpa using h)]; exact ⟨rfl, by simpa using h⟩
  · right; rw [if_pos h]; exact ⟨rfl, by simpa using h⟩
set_option maxHeartbeats 1000000 in
theorem whole_any (h : Hd) (l : List Int) (A : Option Addr) (len c B : Nat) (w : World) (hr : Rd .u8 w B A len l) (hB : B ≤ w.heap.size) (hlc : len ≤ c) (hcm : c ≤ 9223372036854775807) (h20 : 20 ≤ len) :
    Calls Tryz.prog 97 #[h.val, .slice A len c] w fun e w' => e = .returned (.tuple #[(selH (wholeE l) h).val, .int .i64 (wholeE l)]) ∧ Below w.heap.size w w' := by
  obtain ⟨b, o, rfl⟩ := hr.form (by omega)
  have rd6 := (hr.more hB).sub 6 2 (by omega)
  have hcs := wholeE_cases l
  have hnb := n2_bd (fun x hx => inr_u8 (hr.rng x hx)) (i := 6) (by rw [hr.len]; omega)
  unfold n2 at hcs hnb
  obtain ⟨N, hN⟩ : ∃ x, x = numOf (seg l 6 2) := ⟨_, rfl⟩
  rw [← hN] at hcs hnb
  replace hN := Lib.hid hN
  obtain ⟨x0, x1, x2, x3, x4, x5⟩ := h
  obtain ⟨E, hE⟩ : ∃ E, E = wholeE l := ⟨_, rfl⟩
  rw [← hE] at hcs ⊢
  replace hE := Lib.hid hE
  unfold Hd.val
  have bel : ∀ u v, Below w.heap.size w ((w.alloc (.cells #[.int .i64 x0, .int .i64 x1, .int .i64 x2, .int .i64 x3, .int .u32 x4, .int .u32 x5] u)).alloc v) := fun u v => ((Below.refl _ _).alloc (Nat.le_refl _) _).alloc (by simp) _
  replace bel := Lib.hid bel
  rcases hcs with ⟨he, hd⟩ | ⟨he, hd⟩ <;> replace he := Lib.hid he
  all_goals
    go_enter Tryz.func97, Tryz.ntmps97
    go_wp2_with (go_at_call 114; refine (num_any _ _ _ _ _ _ (by omega) (rd6.below (bel.out _ _))).mono ?_; rw [← hN.out]; rintro e w' ⟨rfl, rfl⟩)
  · exact bodyPost_ret (v := .tuple #[.agg #[.int .i64 x0, .int .i64 x1, .int .i64 x2, .int .i64 x3, .int .u32 x4, .int .u32 x5], .int .i64 0]) (by simp [results, Tryz.results97, go_sem]) rfl ⟨by rw [he.out]; rfl, bel.out _ _⟩
  · exact bodyPost_ret (v := .tuple #[Hd.z.val, .int .i64 5]) (by simp [results, Tryz.results97, go_sem, Hd.val, Hd.z]) rfl ⟨by rw [he.out]; rfl, bel.out _ _⟩
theorem getE_cases (l : List Int) :
    ((shapeE l 1500 = 2 ∨ shapeE l 1500 = 3) ∧ getE l = shapeE l 1500) ∨
    (shapeE l 1500 = 0 ∧ 20 ≤ l.length ∧ 20 ≤ l.getD 0 0 % 16 * 4 ∧ l.getD 0 0 % 16 * 4 ≤ l.length ∧ (l.length : Int) < n2 l 2 ∧ getE l = 2) ∨
    (shapeE l 1500 = 0 ∧ 20 ≤ l.length ∧ 20 ≤ l.getD 0 0 % 16 * 4 ∧ l.getD 0 0 % 16 * 4 ≤ l.length ∧ n2 l 2 ≤ l.length ∧ (sumOf (l.take (l.getD 0 0 % 16 * 4).toNat) != 0) = true ∧ getE l = 4) ∨
    (shapeE l 1500 = 0 ∧ 20 ≤ l.length ∧ 20 ≤ l.getD 0 0 % 16 * 4 ∧ l.getD 0 0 % 16 * 4 ≤ l.length ∧ n2 l 2 ≤ l.length ∧ (sumOf (l.take (l.getD 0 0 % 16 * 4).toNat) != 0) = false ∧ getE l = wholeE l) := by
  have h0 : shapeE l 1500 = 0 → 20 ≤ l.length ∧ 20 ≤ l.getD 0 0 % 16 * 4 ∧ l.getD 0 0 % 16 * 4 ≤ l.length := fun h => by
    rcases shape_cases l 1500 with h' | h' | h' | h' | h' | h' | h' <;> (try (have := h'.1; omega))
  have h1 : shapeE l 1500 = 0 ∨ shapeE l 1500 = 2 ∨ shapeE l 1500 = 3 := by
    rcases shape_cases l 1500 with h' | h' | h' | h' | h' | h' | h' <;> (have := h'.1; omega)
  unfold getE
  rcases h1 with h | h | h
  · obtain ⟨a, b, c⟩ := h0 h
    rw [if_neg (by simpa using h)]
    by_cases h2 : (l.length : Int) < n2 l 2
    · rw [if_pos h2]; exact .inr (.inl ⟨h, a, b, c, h2, rfl⟩)
    · rw [if_neg h2]
      by_cases h3 : sumOf (l.take (l.getD 0 0 % 16 * 4).toNat) = 0
      · rw [if_neg (by simpa using h3)]; exact .inr (.inr (.inr ⟨h, a, b, c, by omega, by simpa using h3, rfl⟩))
      · rw [if_pos h3]; exact .inr (.inr (.inl ⟨h, a, b, c, by omega, by simpa using h3, rfl⟩))
  · rw [if_pos (by omega)]; exact .inl ⟨.inl h, rfl⟩
  · rw [if_pos (by omega)]; exact .inl ⟨.inr h, rfl⟩
theorem shaped_err (l : List Int) (most : Int) (A : Option Addr) (len c B : Nat) (w : World) (hr : Rd .u8 w B A len l) (hB : B ≤ w.heap.size) (hlc : len ≤ c) (hcm : c ≤ 9223372036854775807) (h : shapeE l most ≠ 0) :
    Calls Tryz.prog 95 #[.slice A len c, .int .i64 most] w fun e w' => e = .returned (.tuple #[.agg #[.int .i64 0, .int .i64 0, .int .i64 0, .int .i64 0, .int .u32 0, .int .u32 0], .int .i64 (shapeE l most)]) ∧ Below w.heap.size w w' :=
  (shaped_any l most A len c B w hr hB hlc hcm).mono fun e w' ⟨h1, h2⟩ => ⟨by rw [h1]; unfold hdIf; rw [if_neg h]; rfl, h2⟩
theorem shaped_ok (l : List Int) (most : Int) (A : Option Addr) (len c B : Nat) (w : World) (hr : Rd .u8 w B A len l) (hB : B ≤ w.heap.size) (hlc : len ≤ c) (hcm : c ≤ 9223372036854775807) (h : shapeE l most = 0) (h0 h1 h2 h3 h4 h5 : Int) (hh : hdOf l = ⟨h0, h1, h2, h3, h4, h5⟩) :
    Calls Tryz.prog 95 #[.slice A len c, .int .i64 most] w fun e w' => e = .returned (.tuple #[.agg #[.int .i64 h0, .int .i64 h1, .int .i64 h2, .int .i64 h3, .int .u32 h4, .int .u32 h5], .int .i64 0]) ∧ Below w.heap.size w w' :=
  (shaped_any l most A len c B w hr hB hlc hcm).mono fun e w' ⟨e1, h2⟩ => ⟨by rw [e1]; unfold hdIf; rw [h, if_pos rfl, hh]; rfl, h2⟩
theorem whole_hd (l : List Int) (A : Option Addr) (len c B : Nat) (w : World) (hr : Rd .u8 w B A len l) (hB : B ≤ w.heap.size) (hlc : len ≤ c) (hcm : c ≤ 9223372036854775807) (h20 : 20 ≤ len)
    (h0 h1 h2 h3 h4 h5 y0 y1 y2 y3 y4 y5 E : Int) (hh : hdOf l = ⟨h0, h1, h2, h3, h4, h5⟩) (hy : hdIf l (wholeE l) = ⟨y0, y1, y2, y3, y4, y5⟩) (hE : wholeE l = E) :
    Calls Tryz.prog 97 #[.agg #[.int .i64 h0, .int .i64 h1, .int .i64 h2, .int .i64 h3, .int .u32 h4, .int .u32 h5], .slice A len c] w fun e w' => e = .returned (.tuple #[.agg #[.int .i64 y0, .int .i64 y1, .int .i64 y2, .int .i64 y3, .int .u32 y4, .int .u32 y5], .int .i64 E]) ∧ Below w.heap.size w w' := by
  have := whole_any (hdOf l) l A len c B w hr hB hlc hcm h20
  have e : selH (wholeE l) (hdOf l) = ⟨y0, y1, y2, y3, y4, y5⟩ := hy
  rw [e, hh, hE] at this
  exact this
set_option maxRecDepth 100000 in
set_option maxHeartbeats 2000000 in
theorem Get_any (l : List Int) (A : Option Addr) (len c B : Nat) (w : World) (hr : Rd .u8 w B A len l) (hB : B ≤ w.heap.size) (hlc : len ≤ c) (hcm : c ≤ 9223372036854775807) (hl : len ≤ 100000) :
    Calls Tryz.prog 68 #[.slice A len c] w fun e w' => e = .returned (.tuple #[(hdIf l (getE l)).val, .int .i64 (getE l)]) ∧ Below w.heap.size w w' := by
  have hcs := getE_cases l
  rw [hr.len] at hcs
  have hrB := hr.more hB
  have hdz : ∀ x : Int, x ≠ 0 → (hdIf l x).val = Hd.z.val := fun x hx => by unfold hdIf; rw [if_neg hx]
  replace hdz := Lib.hid hdz
  have hh : hdOf l = ⟨l.getD 0 0 % 16 * 4, n2 l 2, l.getD 8 0, l.getD 9 0, n4 l 12, n4 l 16⟩ := rfl
  rcases hcs with ⟨h, e⟩ | ⟨h, h20, h1, h2, h3, e⟩ | ⟨h, h20, h1, h2, h3, hs, e⟩ | ⟨h, h20, h1, h2, h3, hs, e⟩
  · have hsh := fun W' hr => shaped_err l 1500 A len c _ W' hr (Nat.le_refl _) hlc hcm (by omega)
    rw [e]
    replace hdz := hdz.out _ (show shapeE l 1500 ≠ 0 by omega)
    rw [hdz]
    clear hdz e hh
    have hb : (shapeE l 1500 != 0) = true := by simp; omega
    obtain ⟨E, hE⟩ : ∃ E, E = shapeE l 1500 := ⟨_, rfl⟩
    rw [← hE] at hb hsh ⊢
    replace hsh := Lib.hid hsh
    clear h hE
    go_enter Tryz.func68, Tryz.ntmps68
    go_wp2_with (go_at_call 95; refine (hsh.out _ (hrB.alloc (Nat.le_refl _) _ |>.more (by simp))).mono ?_; rintro e w1 ⟨rfl, hb1⟩; obtain ⟨hc, hf⟩ := bcell hb1; have hz : w.heap.size < w1.heap.size := (by have := hb1.size; simp at this; omega))
    exact bodyPost_ret (v := .tuple #[Hd.z.val, .int .i64 E]) (by simp [results, Tryz.results68, go_sem, Hd.val, Hd.z, hc, hf, hz]) rfl ⟨rfl, by
      have hb0 : Below w.heap.size w w1 := bel_after (bel_alloc _ _) hb1
      (repeat (first | (with_reducible exact hb0) | (with_reducible refine Below.setCell ?_ ?_ _; rotate_left; · (first | omega | (simp; done) | (simp; omega) | (have hsz := Below.size hb0; omega) | (have hsz := Below.size hb0; simp; omega))) | (with_reducible refine Below.alloc ?_ ?_ _; rotate_left; · (first | omega | (simp; done) | (simp; omega) | (have hsz := Below.size hb0; omega) | (have hsz := Below.size hb0; simp; omega))) | (with_reducible refine below_drewN ?_ _) | (with_reducible refine Below.drew ?_)))⟩
  all_goals
    have hsh := fun W' hr => shaped_ok l 1500 A len c _ W' hr (Nat.le_refl _) hlc hcm h _ _ _ _ _ _ hh
    obtain ⟨y0, y1, y2, y3, y4, y5, hy⟩ : ∃ y0 y1 y2 y3 y4 y5 : Int, hdIf l (wholeE l) = ⟨y0, y1, y2, y3, y4, y5⟩ := ⟨_, _, _, _, _, _, rfl⟩
    obtain ⟨E, hE⟩ : ∃ E, wholeE l = E := ⟨_, rfl⟩
    have hwh := fun W' hr => whole_hd l A len c _ W' hr (Nat.le_refl _) hlc hcm h20 _ _ _ _ _ _ _ _ _ _ _ _ _ hh hy hE
    replace hy := Lib.hid hy
    replace hE := Lib.hid hE
    have hof := fun W' k hr => Of_any (l.take (l.getD 0 0 % 16 * 4).toNat) A (l.getD 0 0 % 16 * 4).toNat c k W' (by omega) hr
    obtain ⟨k, hk⟩ : ∃ k : Nat, l.getD 0 0 % 16 * 4 = (k : Int) := ⟨(l.getD 0 0 % 16 * 4).toNat, by omega⟩
    have hrk := hrB.take (m := k) (by omega)
    rw [hk] at h1 h2 hsh hof hwh
    try rw [hk] at hs
    rw [Int.toNat_natCast] at hof
    try rw [Int.toNat_natCast] at hs
    obtain ⟨N, hN⟩ : ∃ N, N = n2 l 2 := ⟨_, rfl⟩
    rw [← hN] at h3 hsh hwh
    obtain ⟨f8, hf8⟩ : ∃ N, N = l.getD 8 0 := ⟨_, rfl⟩
    rw [← hf8] at hsh hwh
    obtain ⟨f9, hf9⟩ : ∃ N, N = l.getD 9 0 := ⟨_, rfl⟩
    rw [← hf9] at hsh hwh
    obtain ⟨f12, hf12⟩ : ∃ N, N = n4 l 12 := ⟨_, rfl⟩
    rw [← hf12] at hsh hwh
    obtain ⟨f16, hf16⟩ : ∃ N, N = n4 l 16 := ⟨_, rfl⟩
    rw [← hf16] at hsh hwh
    obtain ⟨S, hS⟩ : ∃ S, S = sumOf (l.take k) := ⟨_, rfl⟩
    rw [← hS] at hof
    try rw [← hS] at hs
    replace hsh := Lib.hid hsh
    replace hwh := Lib.hid hwh
    replace hof := Lib.hid hof
    replace hh := Lib.hid hh
    replace hk := Lib.hid hk
    rw [e]
    clear h e hN hf8 hf9 hf12 hf16 hS
  · rw [hdz.out 2 (by decide)]
    go_enter Tryz.func68, Tryz.ntmps68
    go_wp2_with (go_at_call 95; refine (hsh.out _ (hrB.alloc (Nat.le_refl _) _ |>.more (by simp))).mono ?_; rintro e w1 ⟨rfl, hb1⟩; obtain ⟨hc, hf⟩ := bcell hb1; have hz : w.heap.size < w1.heap.size := (by have := hb1.size; simp at this; omega))
    exact bodyPost_ret (v := .tuple #[Hd.z.val, .int .i64 2]) (by simp [results, Tryz.results68, go_sem, Hd.val, Hd.z, hc, hf, hz]) rfl ⟨rfl, by
      have hb0 : Below w.heap.size w w1 := bel_after (bel_alloc _ _) hb1
      (repeat (first | (with_reducible exact hb0) | (with_reducible refine Below.setCell ?_ ?_ _; rotate_left; · (first | omega | (simp; done) | (simp; omega) | (have hsz := Below.size hb0; omega) | (have hsz := Below.size hb0; simp; omega))) | (with_reducible refine Below.alloc ?_ ?_ _; rotate_left; · (first | omega | (simp; done) | (simp; omega) | (have hsz := Below.size hb0; omega) | (have hsz := Below.size hb0; simp; omega))) | (with_reducible refine below_drewN ?_ _) | (with_reducible refine Below.drew ?_)))⟩
  · rw [hdz.out 4 (by decide)]
    go_enter Tryz.func68, Tryz.ntmps68
    go_wp2_with (first | (go_at_call 95; refine (hsh.out _ (hrB.alloc (Nat.le_refl _) _ |>.more (by simp))).mono ?_; rintro e w1 ⟨rfl, hb1⟩; obtain ⟨hc, hf⟩ := bcell hb1; have hz : w.heap.size < w1.heap.size := (by have := hb1.size; simp at this; omega); have hb0 : Below w.heap.size w w1 := bel_after (bel_alloc _ _) hb1) | (go_at_call 96; refine (hof.out _ w.heap.size (hrk.below (by (repeat (first | (with_reducible exact hb0) | (with_reducible refine Below.setCell ?_ ?_ _; rotate_left; · (first | omega | (simp; done) | (simp; omega) | (have hsz := Below.size hb0; omega) | (have hsz := Below.size hb0; simp; omega))) | (with_reducible refine Below.alloc ?_ ?_ _; rotate_left; · (first | omega | (simp; done) | (simp; omega) | (have hsz := Below.size hb0; omega) | (have hsz := Below.size hb0; simp; omega))) | (with_reducible refine below_drewN ?_ _) | (with_reducible refine Below.drew ?_)))))).mono ?_; rintro e w2 ⟨rfl, rfl⟩))
    exact bodyPost_ret (v := .tuple #[Hd.z.val, .int .i64 4]) (by simp [results, Tryz.results68, go_sem, Hd.val, Hd.z, hc, hf, hz]) rfl ⟨rfl, by (repeat (first | (with_reducible exact hb0) | (with_reducible refine Below.setCell ?_ ?_ _; rotate_left; · (first | omega | (simp; done) | (simp; omega) | (have hsz := Below.size hb0; omega) | (have hsz := Below.size hb0; simp; omega))) | (with_reducible refine Below.alloc ?_ ?_ _; rotate_left; · (first | omega | (simp; done) | (simp; omega) | (have hsz := Below.size hb0; omega) | (have hsz := Below.size hb0; simp; omega))) | (with_reducible refine below_drewN ?_ _) | (with_reducible refine Below.drew ?_)))⟩
  · go_enter Tryz.func68, Tryz.ntmps68
    go_wp2_with (first | (go_at_call 95; refine (hsh.out _ (hrB.alloc (Nat.le_refl _) _ |>.more (by simp))).mono ?_; rintro e w1 ⟨rfl, hb1⟩; obtain ⟨hc, hf⟩ := bcell hb1; have hz : w.heap.size < w1.heap.size := (by have := hb1.size; simp at this; omega); have hb0 : Below w.heap.size w w1 := bel_after (bel_alloc _ _) hb1) | (go_at_call 96; refine (hof.out _ w.heap.size (hrk.below (by (repeat (first | (with_reducible exact hb0) | (with_reducible refine Below.setCell ?_ ?_ _; rotate_left; · (first | omega | (simp; done) | (simp; omega) | (have hsz := Below.size hb0; omega) | (have hsz := Below.size hb0; simp; omega))) | (with_reducible refine Below.alloc ?_ ?_ _; rotate_left; · (first | omega | (simp; done) | (simp; omega) | (have hsz := Below.size hb0; omega) | (have hsz := Below.size hb0; simp; omega))) | (with_reducible refine below_drewN ?_ _) | (with_reducible refine Below.drew ?_)))))).mono ?_; rintro e w2 ⟨rfl, rfl⟩))
    refine (hwh.out _ ((hrB.below (by (repeat (first | (with_reducible exact hb0) | (with_reducible refine Below.setCell ?_ ?_ _; rotate_left; · (first | omega | (simp; done) | (simp; omega) | (have hsz := Below.size hb0; omega) | (have hsz := Below.size hb0; simp; omega))) | (with_reducible refine Below.alloc ?_ ?_ _; rotate_left; · (first | omega | (simp; done) | (simp; omega) | (have hsz := Below.size hb0; omega) | (have hsz := Below.size hb0; simp; omega))) | (with_reducible refine below_drewN ?_ _) | (with_reducible refine Below.drew ?_))))).more ?hle)).mono ?_
    · simp; omega
    rintro e w2 ⟨rfl, hb2⟩
    have hb3 : Below w.heap.size w w2 := bel_after (by (repeat (first | (with_reducible exact hb0) | (with_reducible refine Below.setCell ?_ ?_ _; rotate_left; · (first | omega | (simp; done) | (simp; omega) | (have hsz := Below.size hb0; omega) | (have hsz := Below.size hb0; simp; omega))) | (with_reducible refine Below.alloc ?_ ?_ _; rotate_left; · (first | omega | (simp; done) | (simp; omega) | (have hsz := Below.size hb0; omega) | (have hsz := Below.size hb0; simp; omega))) | (with_reducible refine below_drewN ?_ _) | (with_reducible refine Below.drew ?_)))) hb2
    obtain ⟨hc2, hf2⟩ := bcell hb2
    have hz2 : w.heap.size < w2.heap.size := (by have := hb2.size; simp at this; omega)
    have hz3 : w.heap.size < w1.heap.size + 1 := by omega
    clear hb1
    go_wp2
    exact bodyPost_ret (v := .tuple #[.agg #[.int .i64 y0, .int .i64 y1, .int .i64 y2, .int .i64 y3, .int .u32 y4, .int .u32 y5], .int .i64 E]) (by simp [results, Tryz.results68, go_sem, hc2, hf2, hz2, hz3, hc, hf, hz]) rfl ⟨by rw [hy.out, hE.out]; rfl, by (repeat (first | (with_reducible exact hb3) | (with_reducible refine Below.setCell ?_ ?_ _; rotate_left; · (first | omega | (simp; done) | (simp; omega) | (have hsz := Below.size hb3; omega) | (have hsz := Below.size hb3; simp; omega))) | (with_reducible refine Below.alloc ?_ ?_ _; rotate_left; · (first | omega | (simp; done) | (simp; omega) | (have hsz := Below.size hb3; omega) | (have hsz := Below.size hb3; simp; omega))) | (with_reducible refine below_drewN ?_ _) | (with_reducible refine Below.drew ?_)))⟩
theorem partE_cases (l : List Int) :
    ((shapeE l 65535 = 2 ∨ shapeE l 65535 = 3) ∧ partE l = shapeE l 65535) ∨ (shapeE l 65535 = 0 ∧ 20 ≤ l.length ∧ partE l = wholeE l) := by
  have h0 : shapeE l 65535 = 0 → 20 ≤ l.length := fun h => by
    rcases shape_cases l 65535 with h' | h' | h' | h' | h' | h' | h' <;> (have := h'.1; omega)
  have h1 : shapeE l 65535 = 0 ∨ shapeE l 65535 = 2 ∨ shapeE l 65535 = 3 := by
    rcases shape_cases l 65535 with h' | h' | h' | h' | h' | h' | h' <;> (have := h'.1; omega)
  unfold partE
  rcases h1 with h | h | h
  · rw [if_neg (by simpa using h)]; exact .inr ⟨h, h0 h, rfl⟩
  · rw [if_pos (by omega)]; exact .inl ⟨.inl h, rfl⟩
  · rw [if_pos (by omega)]; exact .inl ⟨.inr h, rfl⟩
set_option maxRecDepth 100000 in
set_option maxHeartbeats 2000000 in
theorem Part_any (l : List Int) (A : Option Addr) (len c B : Nat) (w : World) (hr : Rd .u8 w B A len l) (hB : B ≤ w.heap.size) (hlc : len ≤ c) (hcm : c ≤ 9223372036854775807) :
    Calls Tryz.prog 141 #[.slice A len c] w fun e w' => e = .returned (.tuple #[(hdIf l (partE l)).val, .int .i64 (partE l)]) ∧ Below w.heap.size w w' := by
  have hcs := partE_cases l
  rw [hr.len] at hcs
  have hrB := hr.more hB
  have hh : hdOf l = ⟨l.getD 0 0 % 16 * 4, n2 l 2, l.getD 8 0, l.getD 9 0, n4 l 12, n4 l 16⟩ := rfl
  rcases hcs with ⟨h, e⟩ | ⟨h, h20, e⟩
  · have hsh := fun W' hr => shaped_err l 65535 A len c _ W' hr (Nat.le_refl _) hlc hcm (by omega)
    have hdz : (hdIf l (shapeE l 65535)).val = Hd.z.val := by unfold hdIf; rw [if_neg (by omega)]
    rw [e, hdz]
    clear hdz e hh
    have hb : (shapeE l 65535 != 0) = true := by simp; omega
    obtain ⟨E, hE⟩ : ∃ E, E = shapeE l 65535 := ⟨_, rfl⟩
    rw [← hE] at hb hsh ⊢
    replace hsh := Lib.hid hsh
    clear h hE
    go_enter Tryz.func141, Tryz.ntmps141
    go_wp2_with (go_at_call 95; refine (hsh.out _ (hrB.alloc (Nat.le_refl _) _ |>.more (by simp))).mono ?_; rintro e w1 ⟨rfl, hb1⟩; obtain ⟨hc, hf⟩ := bcell hb1; have hz : w.heap.size < w1.heap.size := (by have := hb1.size; simp at this; omega); have hb0 : Below w.heap.size w w1 := bel_after (bel_alloc _ _) hb1)
    exact bodyPost_ret (v := .tuple #[Hd.z.val, .int .i64 E]) (by simp [results, Tryz.results141, go_sem, Hd.val, Hd.z, hc, hf, hz]) rfl ⟨rfl, by (repeat (first | (with_reducible exact hb0) | (with_reducible refine Below.setCell ?_ ?_ _; rotate_left; · (first | omega | (simp; done) | (simp; omega) | (have hsz := Below.size hb0; omega) | (have hsz := Below.size hb0; simp; omega))) | (with_reducible refine Below.alloc ?_ ?_ _; rotate_left; · (first | omega | (simp; done) | (simp; omega) | (have hsz := Below.size hb0; omega) | (have hsz := Below.size hb0; simp; omega))) | (with_reducible refine below_drewN ?_ _) | (with_reducible refine Below.drew ?_)))⟩
  · obtain ⟨y0, y1, y2, y3, y4, y5, hy⟩ : ∃ y0 y1 y2 y3 y4 y5 : Int, hdIf l (wholeE l) = ⟨y0, y1, y2, y3, y4, y5⟩ := ⟨_, _, _, _, _, _, rfl⟩
    obtain ⟨E, hE⟩ : ∃ E, wholeE l = E := ⟨_, rfl⟩
    rw [e, hy, hE]
    unfold Hd.val
    simp only
    obtain ⟨f0, f1, f2, f3, f4, f5, hh⟩ : ∃ y0 y1 y2 y3 y4 y5 : Int, hdOf l = ⟨y0, y1, y2, y3, y4, y5⟩ := ⟨_, _, _, _, _, _, rfl⟩
    have hwh := fun W' hr => whole_hd l A len c _ W' hr (Nat.le_refl _) hlc hcm h20 _ _ _ _ _ _ _ _ _ _ _ _ _ hh hy hE
    have hsh := fun W' hr => shaped_ok l 65535 A len c _ W' hr (Nat.le_refl _) hlc hcm h _ _ _ _ _ _ hh
    replace hsh := Lib.hid hsh
    replace hwh := Lib.hid hwh
    clear hh hy hE h e
    go_enter Tryz.func141, Tryz.ntmps141
    go_wp2_with (go_at_call 95; refine (hsh.out _ (hrB.alloc (Nat.le_refl _) _ |>.more (by simp))).mono ?_; rintro e w1 ⟨rfl, hb1⟩; obtain ⟨hc, hf⟩ := bcell hb1; have hz : w.heap.size < w1.heap.size := (by have := hb1.size; simp at this; omega); have hb0 : Below w.heap.size w w1 := bel_after (bel_alloc _ _) hb1)
    refine (hwh.out _ ((hrB.below (by (repeat (first | (with_reducible exact hb0) | (with_reducible refine Below.setCell ?_ ?_ _; rotate_left; · (first | omega | (simp; done) | (simp; omega) | (have hsz := Below.size hb0; omega) | (have hsz := Below.size hb0; simp; omega))) | (with_reducible refine Below.alloc ?_ ?_ _; rotate_left; · (first | omega | (simp; done) | (simp; omega) | (have hsz := Below.size hb0; omega) | (have hsz := Below.size hb0; simp; omega))) | (with_reducible refine below_drewN ?_ _) | (with_reducible refine Below.drew ?_))))).more ?hle)).mono ?_
    · simp; omega
    rintro e w2 ⟨rfl, hb2⟩
    have hb3 : Below w.heap.size w w2 := bel_after (by (repeat (first | (with_reducible exact hb0) | (with_reducible refine Below.setCell ?_ ?_ _; rotate_left; · (first | omega | (simp; done) | (simp; omega) | (have hsz := Below.size hb0; omega) | (have hsz := Below.size hb0; simp; omega))) | (with_reducible refine Below.alloc ?_ ?_ _; rotate_left; · (first | omega | (simp; done) | (simp; omega) | (have hsz := Below.size hb0; omega) | (have hsz := Below.size hb0; simp; omega))) | (with_reducible refine below_drewN ?_ _) | (with_reducible refine Below.drew ?_)))) hb2
    obtain ⟨hc2, hf2⟩ := bcell hb2
    have hz2 : w.heap.size < w2.heap.size := (by have := hb2.size; simp at this; omega)
    have hz3 : w.heap.size < w1.heap.size + 1 := by omega
    clear hb1
    go_wp2
    exact bodyPost_ret (v := .tuple #[.agg #[.int .i64 y0, .int .i64 y1, .int .i64 y2, .int .i64 y3, .int .u32 y4, .int .u32 y5], .int .i64 E]) (by simp [results, Tryz.results141, go_sem, hc2, hf2, hz2, hz3, hc, hf, hz]) rfl ⟨rfl, by (repeat (first | (with_reducible exact hb3) | (with_reducible refine Below.setCell ?_ ?_ _; rotate_left; · (first | omega | (simp; done) | (simp; omega) | (have hsz := Below.size hb3; omega) | (have hsz := Below.size hb3; simp; omega))) | (with_reducible refine Below.alloc ?_ ?_ _; rotate_left; · (first | omega | (simp; done) | (simp; omega) | (have hsz := Below.size hb3; omega) | (have hsz := Below.size hb3; simp; omega))) | (with_reducible refine below_drewN ?_ _) | (with_reducible refine Below.drew ?_)))⟩
end Go.Proofs.YtbckoohljkmahaaGreat
namespace Go.Proofs.YtbckoohljkmahaaGreat
set_option linter.unusedVariables false
set_option linter.unusedSimpArgs false
end Go.Proofs.YtbckoohljkmahaaGreat
namespace Go.Proofs.YtbckoohljkmahaaGreat
set_option linter.unusedVariables false
set_option linter.unusedSimpArgs false
open Go.RowKit
theorem sb_set (l : List Int) (j : Nat) (x : Int) (hj : j < l.length) : ∀ h, sb h (l.set j x) = sb h l + (x - l.getD j 0) * (if (j % 2 = 0) = (h = true) then 256 else 1) := by
  induction l generalizing j with
  | nil => simp at hj
  | cons y l ih =>
    intro h
    cases j with
    | zero => cases h <;> simp [sb] <;> omega
    | succ j =>
      have := ih j (by simpa using hj)
      cases h
      · simp only [List.set_cons_succ, sb, this true, List.getD_cons_succ]; rcases Nat.mod_two_eq_zero_or_one j with e | e <;> simp [Nat.add_mod, e] <;> omega
      · simp only [List.set_cons_succ, sb, this false, List.getD_cons_succ]; rcases Nat.mod_two_eq_zero_or_one j with e | e <;> simp [Nat.add_mod, e] <;> omega
theorem sumOf_null (l : List Int) (q : Int) (hq : 0 < q) (h : sb true l = 65535 * q) : sumOf l = 0 := by
  unfold sumOf fo; rw [h, if_neg (by omega)]; omega
end Go.Proofs.YtbckoohljkmahaaGreat
namespace Go.Proofs.YtbckoohljkmahaaGreat
set_option linter.unusedVariables false
set_option linter.unusedSimpArgs false
open Go.RowKit
section
variable (t p s d n S : Int) (r : List Int)
theorem hd_len : (hd20 t p s d n S ++ r).length = 20 + r.length := by simp [hd20]; omega
theorem hd_0 : (hd20 t p s d n S ++ r).getD 0 0 = 69 := rfl
theorem hd_n2 : n2 (hd20 t p s d n S ++ r) 2 = n := by
  rw [n2_eq _ _ (by rw [hd_len]; omega)]
  show n / 256 * 256 + n % 256 = n
  omega
theorem hd_take (k : Nat) : (hd20 t p s d n S ++ r).take (20 + k) = hd20 t p s d n S ++ r.take k := by
  rw [List.take_append]
  have : (hd20 t p s d n S).length = 20 := rfl
  rw [this, List.take_of_length_le (by rw [this]; omega)]
  congr 2; omega
theorem hd_shape (most : Int) (h : 20 ≤ n) (hm : n ≤ most) : shapeE (hd20 t p s d n S ++ r) most = 0 := by
  unfold shapeE
  rw [hd_len, hd_0, hd_n2]
  rw [if_neg (by omega), if_neg (by omega), if_neg (by omega), if_neg (by omega)]
theorem hd_whole : wholeE (hd20 t p s d n S ++ r) = 0 := by
  unfold wholeE
  rw [n2_eq _ _ (by rw [hd_len]; omega)]
  rfl
theorem hd_hd (hs : 0 ≤ s ∧ s ≤ 4294967295) (hd : 0 ≤ d ∧ d ≤ 4294967295) : hdOf (hd20 t p s d n S ++ r) = ⟨20, n, t, p, s, d⟩ := by
  unfold hdOf
  rw [hd_0, hd_n2, n4_eq _ _ (by rw [hd_len]; omega), n4_eq _ _ (by rw [hd_len]; omega)]
  have e1 : ((s / 16777216 * 256 + s / 65536 % 256) * 256 + s / 256 % 256) * 256 + s % 256 = s := by omega
  have e2 : ((d / 16777216 * 256 + d / 65536 % 256) * 256 + d / 256 % 256) * 256 + d % 256 = d := by omega
  show (⟨69 % 16 * 4, n, t, p, ((s / 16777216 * 256 + s / 65536 % 256) * 256 + s / 256 % 256) * 256 + s % 256, ((d / 16777216 * 256 + d / 65536 % 256) * 256 + d / 256 % 256) * 256 + d % 256⟩ : Hd) = _
  rw [e1, e2]; rfl
theorem hd_sb : sb true (hd20 t p s d n S) = sb true (hd20 t p s d n 0) + S := by
  simp only [hd20, sb]; omega
theorem hd_bd (ht : 0 ≤ t ∧ t ≤ 255) (hp : 0 ≤ p ∧ p ≤ 255) (hs : 0 ≤ s ∧ s ≤ 4294967295) (hd : 0 ≤ d ∧ d ≤ 4294967295) (hn : 0 ≤ n ∧ n ≤ 65535) (hss : 0 ≤ S ∧ S ≤ 65535) : ∀ x, x ∈ hd20 t p s d n S → 0 ≤ x ∧ x ≤ 255 := by
  intro x hx
  simp only [hd20, List.mem_cons, List.not_mem_nil, or_false] at hx
  omega
theorem hd_take20 : (hd20 t p s d n S ++ r).take 20 = hd20 t p s d n S := by
  have := hd_take t p s d n S r 0
  simpa using this
theorem sumOf_bd {l : List Int} (h : ∀ x, x ∈ l → 0 ≤ x ∧ x ≤ 255) : 0 ≤ sumOf l ∧ sumOf l ≤ 65535 := by
  have := (sb_bd l h true).1; have := fo_bd this; unfold sumOf; omega
/-- the sum that was put in closes the head -/
theorem hd_closed (h0 : 0 ≤ sb true (hd20 t p s d n 0)) : ∃ q : Int, 0 < q ∧ sb true (hd20 t p s d n (sumOf (hd20 t p s d n 0))) = 65535 * q := by
  rw [hd_sb]
  unfold sumOf
  generalize sb true (hd20 t p s d n 0) = A at *
  by_cases h : A = 0
  · subst h; exact ⟨1, by omega, by decide⟩
  · have : fo A = (A - 1) % 65535 + 1 := by unfold fo; rw [if_neg h]
    rw [this]; exact ⟨(A - 1) / 65535 + 1, by omega, by omega⟩
end
section
variable {t p s d : Int} {l r : List Int}
theorem put_eq (l : List Int) : putL t p s d l = hd20 t p s d (20 + l.length) (sumOf (hd20 t p s d (20 + l.length) 0)) ++ l := rfl
theorem put_len : (putL t p s d l).length = 20 + l.length := by rw [put_eq, hd_len]
/-- whole, and whatever behind it -/
theorem put_get (ht : 0 ≤ t ∧ t ≤ 255) (hp : 0 ≤ p ∧ p ≤ 255) (hs : 0 ≤ s ∧ s ≤ 4294967295) (hd : 0 ≤ d ∧ d ≤ 4294967295) (hl : l.length ≤ 1480) (r : List Int) : getE (putL t p s d l ++ r) = 0 ∧ hdOf (putL t p s d l ++ r) = ⟨20, 20 + l.length, t, p, s, d⟩ := by
  have e : putL t p s d l ++ r = hd20 t p s d (20 + l.length) (sumOf (hd20 t p s d (20 + l.length) 0)) ++ (l ++ r) := by rw [put_eq, List.append_assoc]
  rw [e]
  have hb := hd_bd t p s d (20 + l.length) 0 ht hp hs hd (by omega) (by omega)
  obtain ⟨q, hq, hc⟩ := hd_closed t p s d (20 + l.length) (sb_bd _ hb true).1
  refine ⟨?_, hd_hd _ _ _ _ _ _ _ hs hd⟩
  unfold getE
  rw [hd_shape _ _ _ _ _ _ _ 1500 (by omega) (by omega), if_neg (by decide), hd_len, hd_n2, if_neg (by rw [List.length_append]; omega), hd_0]
  rw [show ((69 : Int) % 16 * 4).toNat = 20 from rfl, hd_take20, sumOf_null _ q hq hc, if_neg (by decide), hd_whole]
end
end Go.Proofs.YtbckoohljkmahaaGreat
namespace Go.Proofs.YtbckoohljkmahaaGreat
set_option linter.unusedVariables false
set_option linter.unusedSimpArgs false
open Go.RowKit
/-- the row v of w has become v', which holds l: nothing else that was there has turned -/
structure App (w w' : World) (base : Nat) (v v' : Value) (l : List Int) : Prop where
  own : Own .u8 5 w' base v' l
  upd : Upd (fun k => v.ownBlock = some k) w w'
  blk : ∀ g, v'.ownBlock = some g → v.ownBlock = some g ∨ w.heap.size ≤ g
section
variable {w w1 w2 : World} {base : Nat} {v v1 v2 : Value} {l l1 l2 : List Int}
theorem App.refl (h : Own .u8 5 w base v l) : App w w base v v l := ⟨h, Upd.refl _ _, fun _ h => .inl h⟩
theorem App.trans (h : App w w1 base v v1 l1) (k : App w1 w2 base v1 v2 l2) : App w w2 base v v2 l2 := by
  refine ⟨k.own, ⟨k.upd.os.trans h.upd.os, k.upd.tape.trans h.upd.tape, k.upd.output.trans h.upd.output, Nat.le_trans h.upd.size k.upd.size, fun i hi hS => ?_⟩, fun g hg => ?_⟩
  · refine (k.upd.block i (Nat.lt_of_lt_of_le hi h.upd.size) fun e => ?_).trans (h.upd.block i hi hS)
    rcases h.blk i e with h1 | h1
    · exact hS h1
    · omega
  · rcases k.blk g hg with h1 | h1
    · exact h.blk g h1
    · exact .inr (Nat.le_trans h.upd.size h1)
theorem App.alloc (h : App w w1 base v v1 l) (o : Obj) : App w (w1.alloc o) base v v1 l := ⟨h.own.alloc o, h.upd.alloc o, h.blk⟩
/-- one append -/
theorem App.app (h : App w w1 base v v1 l) (own : Own .u8 5 w2 base v2 l2) (hg : w1.grownBy w2 v1.ownBlock) (hb : v2.ownBlock = v1.ownBlock ∨ v2.ownBlock = some w1.heap.size) : App w w2 base v v2 l2 := by
  refine h.trans ⟨own, Upd.of_grown hg fun g hg => hg, fun g hg' => ?_⟩
  rcases hb with hb | hb
  · left; rw [← hb]; exact hg'
  · right; rw [hb] at hg'; injection hg' with e; omega
theorem App.below (h : App w w1 base v v1 l) {B : Nat} (hB : B ≤ w.heap.size) (hv : ∀ g, v.ownBlock = some g → B ≤ g) : Below B w w1 := h.upd.below hB fun k hk e => by have := hv k e; omega
end
theorem info_u8_ : (Tryz.prog.info? 5).map (fun i => (i.zero, i.size, i.bytes)) = some (some (.int .u8 0), 1, 1) := by kernel_rfl
def be2 (n : Int) : List Int := [n / 256, n % 256]
def be4 (n : Int) : List Int := [n / 16777216, n / 65536 % 256, n / 256 % 256, n % 256]
theorem be2_bd (n : Int) (h : 0 ≤ n ∧ n ≤ 65535) : ∀ x, x ∈ be2 n → 0 ≤ x ∧ x ≤ 255 := by intro x hx; simp [be2] at hx; omega
theorem be4_bd (n : Int) (h : 0 ≤ n ∧ n ≤ 4294967295) : ∀ x, x ∈ be4 n → 0 ≤ x ∧ x ≤ 255 := by intro x hx; simp [be4] at hx; omega
/-- what an appending call leaves -/
def Puts (w : World) (base : Nat) (v : Value) (l : List Int) (e : Ending) (w' : World) : Prop := ∃ v', e = .returned v' ∧ App w w' base v v' l
end Go.Proofs.YtbckoohljkmahaaGreat
namespace Go.Proofs.YtbckoohljkmahaaGreat
set_option linter.unusedVariables false
set_option linter.unusedSimpArgs false
open Go.RowKit
/-- what stands ahead of UDP's and TCP's bytes for their sum -/
def ph (s d p : Int) (n : Nat) : List Int := be4 s ++ be4 d ++ [0, p] ++ be2 n
theorem ph_len (s d p : Int) (n : Nat) : (ph s d p n).length = 12 := rfl
def csum (s d p : Int) (l : List Int) : Int := sumOf (ph s d p l.length ++ l)
theorem ph_bd {s d p : Int} {n : Nat} (hs : 0 ≤ s ∧ s ≤ 4294967295) (hd : 0 ≤ d ∧ d ≤ 4294967295) (hp : 0 ≤ p ∧ p ≤ 255) (hn : n ≤ 65535) : ∀ x, x ∈ ph s d p n → 0 ≤ x ∧ x ≤ 255 := by
  intro x hx
  simp only [ph, List.mem_append] at hx
  rcases hx with ((h | h) | h) | h
  · exact be4_bd s hs x h
  · exact be4_bd d hd x h
  · simp only [List.mem_cons, List.not_mem_nil, or_false] at h; omega
  · exact be2_bd n (by omega) x h
theorem csum_eq (s d p : Int) (l : List Int) : csum s d p l = 65535 - fo (sb true (ph s d p l.length) + sb true l) := by
  unfold csum sumOf
  rw [sb_app _ _ (by rw [ph_len])]
theorem csum_bd {s d p : Int} {l : List Int} (hs : 0 ≤ s ∧ s ≤ 4294967295) (hd : 0 ≤ d ∧ d ≤ 4294967295) (hp : 0 ≤ p ∧ p ≤ 255) (hn : l.length ≤ 65535) (hl : ∀ x, x ∈ l → 0 ≤ x ∧ x ≤ 255) : 0 ≤ csum s d p l ∧ csum s d p l ≤ 65535 :=
  sumOf_bd (fun x hx => by
    rcases List.mem_append.1 hx with h | h
    · exact ph_bd hs hd hp hn x h
    · exact hl x h)
/-- the rows that are laid: with the sum S at its place -/
def udpB (a b : Int) (l : List Int) (S : Int) : List Int := be2 a ++ be2 b ++ be2 (8 + l.length) ++ be2 S ++ l
def tcpB (a b f : Int) (l : List Int) (S : Int) : List Int := be2 a ++ be2 b ++ [0, 0, 0, 0, 0, 0, 0, 0, 80, f % 256, 32, 0] ++ be2 S ++ [0, 0] ++ l
def echoB (k a : Int) (l : List Int) (S : Int) : List Int := [k, 0] ++ be2 S ++ be2 a ++ [0, 0] ++ l
def faultB (k c : Int) (l : List Int) (S : Int) : List Int := [k % 256, c % 256] ++ be2 S ++ [0, 0, 0, 0] ++ l
def fewL (l : List Int) : List Int := l.take 1400
def nev (s : Int) : Int := if s = 0 then 65535 else s
def udpL (s d a b : Int) (l : List Int) : List Int := udpB a b (fewL l) (nev (csum s d 17 (udpB a b (fewL l) 0)))
def tcpL (s d a b f : Int) (l : List Int) : List Int := tcpB a b f (fewL l) (csum s d 6 (tcpB a b f (fewL l) 0))
def echoL (r : Bool) (a : Int) (l : List Int) : List Int := echoB (if r then 0 else 8) a (fewL l) (sumOf (echoB (if r then 0 else 8) a (fewL l) 0))
def faultL (k c : Int) (l : List Int) : List Int := faultB k c (fewL l) (sumOf (faultB k c (fewL l) 0))
/-- what a packet carries -/
structure Pt where
  proto : Int
  src : Int
  dst : Int
  flags : Int
  kind : Int
  code : Int
  err : Bool
  inner : Hd
  pat : Int
  bare : Bool
def Pt.z : Pt := ⟨0, 0, 0, 0, 0, 0, false, Hd.z, 0, false⟩
/-- an error, or a part -/
abbrev PR := Int × Pt
def portsP (p : Pt) (l : List Int) (i j : Nat) : Pt := { p with src := n2 l i, dst := n2 l j }
def udpR (h : Hd) (x : List Int) : PR :=
  if x.length < 8 then (2, Pt.z) else if n2 x 4 ≠ x.length then (3, Pt.z) else
  if n2 x 6 ≠ 0 ∧ csum h.src h.dst 17 x ≠ 0 then (4, Pt.z) else (0, portsP { Pt.z with proto := 17, bare := decide (n2 x 6 = 0) } x 0 2)
def tcpR (h : Hd) (x : List Int) : PR :=
  if x.length < 20 then (2, Pt.z) else if x.getD 12 0 / 16 * 4 < 20 ∨ (x.length : Int) < x.getD 12 0 / 16 * 4 then (3, Pt.z) else
  if csum h.src h.dst 6 x ≠ 0 then (4, Pt.z) else (0, portsP { Pt.z with proto := 6, flags := x.getD 13 0 } x 0 2)
def faultR (p : Pt) (at_ : Int) (b : List Int) : PR :=
  if partE b ≠ 0 then (partE b, Pt.z) else
  if (b.length : Int) - (hdOf b).size < 8 ∨ (hdOf b).len < (hdOf b).size + 8 then (3, Pt.z) else
  if (hdOf b).proto = 17 ∨ (hdOf b).proto = 6 then (0, portsP { p with err := true, inner := hdOf b, pat := at_ } (b.drop (hdOf b).size.toNat) 0 2) else
  if (hdOf b).proto = 1 ∧ ((b.drop (hdOf b).size.toNat).getD 0 0 = 0 ∨ (b.drop (hdOf b).size.toNat).getD 0 0 = 8) then (0, portsP { p with err := true, inner := hdOf b, pat := at_ } (b.drop (hdOf b).size.toNat) 4 4) else (6, Pt.z)
def icmpR (h : Hd) (x : List Int) : PR :=
  if x.length < 8 then (2, Pt.z) else if sumOf x ≠ 0 then (4, Pt.z) else
  if x.getD 0 0 = 0 ∨ x.getD 0 0 = 8 then (if x.getD 1 0 ≠ 0 then (3, Pt.z) else (0, portsP { Pt.z with proto := 1, kind := x.getD 0 0, code := x.getD 1 0 } x 4 4)) else
  if x.getD 0 0 = 3 ∨ x.getD 0 0 = 11 ∨ x.getD 0 0 = 12 then faultR { Pt.z with proto := 1, kind := x.getD 0 0, code := x.getD 1 0 } (h.size + 8) (x.drop 8) else (6, Pt.z)
def getR (h : Hd) (b : List Int) : PR :=
  if h.size < 20 ∨ 60 < h.size ∨ h.len < h.size ∨ (b.length : Int) < h.len then (1, Pt.z) else
  if h.proto = 17 then udpR h (seg b h.size.toNat (h.len - h.size).toNat) else
  if h.proto = 6 then tcpR h (seg b h.size.toNat (h.len - h.size).toNat) else
  if h.proto = 1 then icmpR h (seg b h.size.toNat (h.len - h.size).toNat) else (6, Pt.z)
end Go.Proofs.YtbckoohljkmahaaGreat
namespace Go.Proofs.YtbckoohljkmahaaGreat
set_option linter.unusedVariables false
set_option linter.unusedSimpArgs false
open Go.RowKit
/-- a world that meets S -/
structure Tw (S : World → Prop) where
  w : World
  h : S w
def clsS (S : World → Prop) (w : World) : Prop := ∃ t : Tw S, w = t.w
section
variable {P : Program} {ops : Array Oper} {Q : Exit → Act → World → Prop} {S : World → Prop}
def planB (ops : Array Oper) : List (Nat × Bool) → Array Bool → Bool
  | [], listed => (Region.ready .any ops listed).isEmpty
  | (i, true) :: r, listed => (match ops[i]? with | some o => isV o.op | none => false) && (Region.ready .any ops listed).contains i && Region.free .any ops listed i && planB ops r (listed.setIfInBounds i true)
  | (i, false) :: r, listed => decide (Region.ready .any ops listed = [i]) && planB ops r (listed.setIfInBounds i true)
def wpPl (P : Program) (ops : Array Oper) (Q : Exit → Act → World → Prop) (S : World → Prop) : List (Nat × Bool) → Act → World → Prop
  | [], a, w => Q .normal a w
  | (i, true) :: r, a, w => ∀ o, ops[i]? = some o → ∃ v, ((Region.wanted o (yielded ops a.tmps) = true ∧ ∀ w, S w → o.quietAt P a (clsS S) w v) ∨ (Region.wanted o (yielded ops a.tmps) = false ∧ v = undef)) ∧ wpPl P ops Q S r (a.put o.dst v) w
  | (i, false) :: r, a, w => ∀ o, ops[i]? = some o → ∀ K : Act → World → Prop, (∀ a' w', S w' → wpPl P ops Q S r a' w' → K a' w') → Region.wanted o (yielded ops a.tmps) = true ∧ o.wp P a w K Q
theorem wpAnyH_of_plan (hs : Region.noSelect ops = true) (hQ : ∀ c a w, ¬ Q (.panic c) a w) : ∀ (l : List (Nat × Bool)) (listed : Array Bool) (a : Act) (w : World), S w → planB ops l listed = true → wpPl P ops Q S l a w → ∀ fuel, l.length ≤ fuel → wpAnyH P .any ops Q S fuel listed a w
  | [], listed, a, w, _, hB, h, fuel, _ => wpAnyH_done (by simpa [planB] using hB) h fuel
  | (i, true) :: r, listed, a, w, hS, hB, h, 0, hf => by simp at hf
  | (i, false) :: r, listed, a, w, hS, hB, h, 0, hf => by simp at hf
  | (i, true) :: r, listed, a, w, hS, hB, h, fuel + 1, hf => by
    simp only [planB, Bool.and_eq_true] at hB
    obtain ⟨⟨⟨h1, h2⟩, h3⟩, h4⟩ := hB
    cases ho : ops[i]? with
    | none => rw [ho] at h1; cases h1
    | some o =>
      rw [ho] at h1
      obtain ⟨v, hy, hr⟩ := h o ho
      refine wpAnyH_take ho hs h3 h2 (fun c a w hq => absurd hq (hQ _ _ _)) (v := v) ?_ hS (wpAnyH_of_plan hs hQ r _ _ w hS h4 hr fuel (by simpa using hf))
      rcases hy with ⟨hw, hy⟩ | hy
      · refine .inl ⟨hw, fun w' hS' => ?_⟩
        have h5 := hy w' hS'
        unfold Oper.quietAt at h5
        cases hr : (execOp a.eval o).run P w' with
        | ok nx w2 =>
          obtain ⟨u, rfl⟩ := isV_spec h1 hr
          rw [hr] at h5
          simp only [Oper.quietUpon] at h5
          rw [h5.1, h5.2]
        | halt x w2 => rw [hr] at h5; simp only [Oper.quietUpon] at h5
      · exact .inr hy
  | (i, false) :: r, listed, a, w, hS, hB, h, fuel + 1, hf => by
    simp only [planB, Bool.and_eq_true, decide_eq_true_eq] at hB
    refine wpAnyH_all hB.1 (by simp) fun j hj => ?_
    obtain rfl : j = i := by simpa using hj
    have hm : j ∈ Region.ready .any ops listed := by rw [hB.1]; exact hj
    obtain ⟨_, o, ho, _⟩ := mem_ready.1 hm
    obtain ⟨hw, hx⟩ := h o ho (fun a' w' => S w' ∧ wpAnyH P .any ops Q S fuel (listed.setIfInBounds j true) a' w') (fun a' w' hS' hr => ⟨hS', wpAnyH_of_plan hs hQ r _ a' w' hS' hB.2 hr fuel (by simpa using hf)⟩)
    unfold wpOp
    simp only [ho]
    rw [if_pos hw]
    exact .inl hx
theorem wp_region_plan {id : Nat} {a : Act} {w : World} {l : List Oper} (S : World → Prop) (pl : List (Nat × Bool)) (hm : P.follows .mixedOrders = true) (hs : Region.noSelect l.toArray = true) (hB : planB l.toArray pl (Array.replicate l.length false) = true) (hl : pl.length = l.length) (hS : S w.drew)
    (h : wpPl P l.toArray (NoPanic Q) S pl a w.drew) : (Code.region id l.toArray true).wp P Q a w := by
  refine wp_region_noPanic (wp_region_held (S := S) hm ?_)
  have := wpAnyH_of_plan (P := P) (Q := NoPanic Q) (S := S) hs (fun c a w h => h) pl (Array.replicate l.length false) a w.drew hS hB h l.length (by omega)
  simpa using this
/-- a run of operations that only reckon and read -/
theorem wpPl_qs : ∀ (n : Nat) (l : List (Nat × Bool)) (a : Act) (w : World), ((l.take n).all fun x => x.2) = true → ((l.take n).all fun x => (ops[x.1]?).isSome) = true → n ≤ l.length →
    wpQuiet P ops (clsS S) (fun a' => wpPl P ops Q S (l.drop n) a' w) ((l.take n).filterMap fun x => ops[x.1]?) a → wpPl P ops Q S l a w
  | 0, l, a, w, _, _, _, h => h
  | n + 1, [], a, w, _, _, hn, _ => by simp at hn
  | n + 1, (i, false) :: l, a, w, h1, _, _, _ => by simp at h1
  | n + 1, (i, true) :: l, a, w, h1, h2, hn, h => by
    simp only [List.take_succ_cons, List.all_cons, Bool.and_eq_true] at h1 h2
    intro o ho
    simp only [List.take_succ_cons, List.drop_succ_cons, List.filterMap_cons, ho, wpQuiet] at h
    by_cases hw : Region.wanted o (yielded ops a.tmps) = true
    · rw [if_pos hw] at h
      obtain ⟨v, h3, h4⟩ := h
      exact ⟨v, .inl ⟨hw, fun w' hS => h3 w' ⟨⟨w', hS⟩, rfl⟩⟩, wpPl_qs n l _ w h1.2 h2.2 (by simpa using hn) h4⟩
    · rw [if_neg hw] at h
      exact ⟨undef, .inr ⟨by simpa using hw, rfl⟩, wpPl_qs n l _ w h1.2 h2.2 (by simpa using hn) h⟩
theorem wpPl_e {i : Nat} {r : List (Nat × Bool)} {a : Act} {w : World} (o : Oper) (ho : ops[i]? = some o) (hw : Region.wanted o (yielded ops a.tmps) = true)
    (h : ∀ K : Act → World → Prop, (∀ a' w', S w' → wpPl P ops Q S r a' w' → K a' w') → o.wp P a w K Q) : wpPl P ops Q S ((i, false) :: r) a w :=
  fun o' ho' K hK => by
    obtain rfl : o = o' := Option.some.inj (ho.symm.trans ho')
    exact ⟨hw, h K hK⟩
/-- all operations read, or call what is quiet in the class -/
theorem region_tw {id : Nat} {a : Act} {w : World} {l : List Oper} (S : World → Prop) (hm : P.follows .mixedOrders = true) (hB : Region.lexB .any l.toArray = true) (hS : S w.drew)
    (h : wpQuiet P l.toArray (clsS S) (fun a' => ∀ t : Tw S, Q .normal a' t.w) l a) : (Code.region id l.toArray true).wp P Q a w :=
  wp_region_quiet (C := clsS S) hm hB ⟨⟨w.drew, hS⟩, rfl⟩ (by
    have e : (fun a' => ∀ w', clsS S w' → Q .normal a' w') = fun a' => ∀ t : Tw S, Q .normal a' t.w := by
      funext a'; apply propext; constructor
      · intro h t; exact h _ ⟨t, rfl⟩
      · rintro h w' ⟨t, rfl⟩; exact h t
    rw [e]; simpa using h)
end
end Go.Proofs.YtbckoohljkmahaaGreat
