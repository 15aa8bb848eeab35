/- (Float with a value of the new block given.) A region that draws its order, in which a new block may be laid at any moment beside a chain of effects. -/
import Derived.Test.YtjaacmecniijgaaPlan
namespace Go.Proofs.Ytjaacmecniijgaa
set_option linter.unusedVariables false
set_option linter.unusedSimpArgs false
open Go.RowKit
section
variable {P : Program} {ops : Array Oper} {Q : Exit → Act → World → Prop} {S : World → Prop} {o0 : Obj} {B : Nat} {vf : Nat → Value}
theorem wp_putd {o oa : Oper} (hap : oa.apart ops o = true) (hso : ∀ cs b, o.op ≠ .select cs b) (hQ : ∀ c a w, ¬ Q (.panic c) a w) {K : Act → World → Prop} {a : Act} {w : World} (v : Value)
    (h : o.wp P a w (fun a' w' => K (a'.put oa.dst v) w') Q) : o.wp P (a.put oa.dst v) w K Q := by
  obtain ⟨h1, h2, h3⟩ := Oper.apart_spec hap
  unfold Oper.wp at *
  rw [execOp_put o hso a oa.dst v h1]
  generalize (execOp a.eval o).run P w = r at *
  cases r with
  | ok n w' =>
    cases n <;> simp only [Oper.upon] at h ⊢
    case value u => rw [Act.put_comm a v u h2]; exact h
    case skip => rw [Act.put_comm a v undef h2]; exact h
    case defer d =>
      have e : ({ (a.put oa.dst v) with defers := d :: (a.put oa.dst v).defers } : Act) = ({ a with defers := d :: a.defers } : Act).put oa.dst v := by cases oa.dst <;> rfl
      rw [e, Act.put_comm _ v undef h2]
      exact h
    case enter f args =>
      refine Calls.mono h fun e w'' he => ?_
      cases e with
      | returned u => show K ((a.put oa.dst v).put o.dst u) w''; rw [Act.put_comm a v u h2]; exact he
      | panicked c => exact absurd he (hQ _ _ _)
      | outgrown => exact he
    case row row args => exact Rows.mono h fun u w'' he => by rw [Act.put_comm a v u h2]; exact he
  | halt x w' =>
    cases x <;> simp only [Oper.upon] at h ⊢
    case panic u => exact absurd h (hQ _ _ _)
def KeepO (o0 : Obj) (w w' : World) : Prop := ∀ h : Nat, w.heap[h]? = some o0 → w'.heap[h]? = some o0
def planF (ops : Array Oper) (ia : Nat) (oa : Oper) (tl : List (Nat × Bool)) : List (Nat × Bool) → Array Bool → Bool
  | [], L => decide (Region.ready .any ops L = [ia]) && planB ops tl (L.setIfInBounds ia true)
  | (i, true) :: r, L => (match ops[i]? with | some o => isV o.op && oa.apart ops o | none => false) && i != ia && (Region.ready .any ops L).contains i && Region.free .any ops L i
      && (Region.ready .any ops (L.setIfInBounds ia true)).contains i && Region.free .any ops (L.setIfInBounds ia true) i && planF ops ia oa tl r (L.setIfInBounds i true)
  | (i, false) :: r, L => (match ops[i]? with | some o => oa.apart ops o | none => false) && i != ia && (Region.ready .any ops L).all (fun j => j == i || j == ia) && (Region.ready .any ops L).contains i
      && decide (Region.ready .any ops (L.setIfInBounds ia true) = [i]) && planF ops ia oa tl r (L.setIfInBounds i true)
def wpFl (P : Program) (ops : Array Oper) (Q : Exit → Act → World → Prop) (S : World → Prop) (o0 : Obj) (B : Nat) (vf : Nat → Value) (oa : Oper) (tl : List (Nat × Bool)) : List (Nat × Bool) → Act → World → Prop
  | [], a, w => ∃ J : World → Prop, J w ∧ (∀ w, J w → J (w.alloc o0)) ∧ ∀ (w : World) (h : Nat), J w → S w → B ≤ h → w.heap[h]? = some o0 → wpPl P ops Q S tl (a.put oa.dst (vf h)) w
  | (i, true) :: r, a, w => ∀ o, ops[i]? = some o → ∃ v, ((Region.wanted o (yielded ops a.tmps) = true ∧ ∀ w, S w → o.quietAt P a (clsS S) w v) ∨ (Region.wanted o (yielded ops a.tmps) = false ∧ v = undef)) ∧ wpFl P ops Q S o0 B vf oa tl r (a.put o.dst v) w
  | (i, false) :: r, a, w => ∀ o, ops[i]? = some o → ∃ J : World → Prop, J w ∧ (∀ w, J w → J (w.alloc o0)) ∧ Region.wanted o (yielded ops a.tmps) = true ∧
      ∀ w, J w → S w → ∀ K : Act → World → Prop, (∀ a' w', S w' → KeepO o0 w w' → wpFl P ops Q S o0 B vf oa tl r a' w' → K a' w') → o.wp P a w K Q
theorem wpFl_alloc {oa : Oper} {tl : List (Nat × Bool)} : ∀ (l : List (Nat × Bool)) (a : Act) (w : World), wpFl P ops Q S o0 B vf oa tl l a w → wpFl P ops Q S o0 B vf oa tl l a (w.alloc o0)
  | [], a, w, ⟨J, h1, h2, h3⟩ => ⟨J, h2 _ h1, h2, h3⟩
  | (i, true) :: r, a, w, h => fun o ho => by
    obtain ⟨v, h1, h2⟩ := h o ho
    exact ⟨v, h1, wpFl_alloc r _ _ h2⟩
  | (i, false) :: r, a, w, h => fun o ho => by
    obtain ⟨J, h1, h2, h3⟩ := h o ho
    exact ⟨J, h2 _ h1, h2, h3⟩
theorem yieldsIf_of {o : Oper} {v : Value} {a : Act} (hv : isV o.op = true) (h : (Region.wanted o (yielded ops a.tmps) = true ∧ ∀ w, S w → o.quietAt P a (clsS S) w v) ∨ (Region.wanted o (yielded ops a.tmps) = false ∧ v = undef)) : YieldsIf P ops S o v a := by
  rcases h with ⟨hw, hy⟩ | hy
  · refine .inl ⟨hw, fun w' hS' => ?_⟩
    have h5 := hy w' hS'
    unfold Oper.quietAt at h5
    cases hr : (execOp a.eval o).run P w' with
    | ok nx w2 =>
      obtain ⟨u, rfl⟩ := isV_spec hv hr
      rw [hr] at h5
      simp only [Oper.quietUpon] at h5
      rw [h5.1, h5.2]
    | halt x w2 => rw [hr] at h5; simp only [Oper.quietUpon] at h5
  · exact .inr hy
theorem wpAnyH_done_fl {ia : Nat} {oa : Oper} {tl : List (Nat × Bool)} (hs : Region.noSelect ops = true) (hQ : ∀ c a w, ¬ Q (.panic c) a w) : ∀ (l : List (Nat × Bool)) (L : Array Bool) (a : Act) (w : World) (h : Nat), S w → B ≤ h → w.heap[h]? = some o0 →
    planF ops ia oa tl l L = true → wpFl P ops Q S o0 B vf oa tl l a w → ∀ fuel, l.length + tl.length ≤ fuel → wpAnyH P .any ops Q S fuel (L.setIfInBounds ia true) (a.put oa.dst (vf h)) w
  | [], L, a, w, h, hS, hbB, hb, hB, ⟨J, h1, h2, h3⟩, fuel, hf => by
    simp only [planF, Bool.and_eq_true] at hB
    exact wpAnyH_of_plan hs hQ tl _ _ w hS hB.2 (h3 w h h1 hS hbB hb) fuel (by simpa using hf)
  | (i, true) :: r, L, a, w, h, hS, hbB, hb, hB, hx, 0, hf => by simp at hf
  | (i, false) :: r, L, a, w, h, hS, hbB, hb, hB, hx, 0, hf => by simp at hf
  | (i, true) :: r, L, a, w, h, hS, hbB, hb, hB, hx, fuel + 1, hf => by
    simp only [planF, Bool.and_eq_true, bne_iff_ne] at hB
    obtain ⟨⟨⟨⟨⟨⟨hm, hne⟩, _⟩, _⟩, hr⟩, hfr⟩, hB'⟩ := hB
    cases ho : ops[i]? with
    | none => rw [ho] at hm; cases hm
    | some o =>
      rw [ho] at hm
      simp only [Bool.and_eq_true] at hm
      obtain ⟨v, hy, hn⟩ := hx o ho
      obtain ⟨g1, g2, g3⟩ := Oper.apart_spec hm.2
      have hY := yieldsIf_of hm.1 hy
      have hY' : YieldsIf P ops S o v (a.put oa.dst (vf h)) := hY.of_same (execOp_put o (Region.noSelect_spec hs i o · · ho) a oa.dst _ g1) (wanted_put o a oa.dst _ g1)
      refine wpAnyH_take ho hs hfr hr (fun c a w hq => absurd hq (hQ _ _ _)) hY' hS ?_
      rw [Array.setIfInBounds_comm _ _ (Ne.symm hne), Act.put_comm a _ v g2]
      exact wpAnyH_done_fl hs hQ r _ _ w h hS hbB hb hB' hn fuel (by simp at hf; omega)
  | (i, false) :: r, L, a, w, h, hS, hbB, hb, hB, hx, fuel + 1, hf => by
    simp only [planF, Bool.and_eq_true, bne_iff_ne, decide_eq_true_eq] at hB
    obtain ⟨⟨⟨⟨⟨hm, hne⟩, _⟩, _⟩, hr⟩, hB'⟩ := hB
    cases ho : ops[i]? with
    | none => rw [ho] at hm; cases hm
    | some o =>
      rw [ho] at hm
      obtain ⟨g1, g2, g3⟩ := Oper.apart_spec hm
      obtain ⟨J, j1, j2, hw, j3⟩ := hx o ho
      refine wpAnyH_all hr (by simp) fun j hj => ?_
      obtain rfl : j = i := by simpa using hj
      unfold wpOp
      simp only [ho]
      rw [wanted_put o a oa.dst _ g1, if_pos hw]
      left
      refine wp_putd hm (Region.noSelect_spec hs j o · · ho) hQ _ ?_
      refine j3 w j1 hS _ fun a' w' hS' hk hn => ⟨hS', ?_⟩
      rw [Array.setIfInBounds_comm _ _ (Ne.symm hne)]
      exact wpAnyH_done_fl hs hQ r _ _ w' h hS' hbB (hk h hb) hB' hn fuel (by simp at hf; omega)
theorem wpAnyH_pend {ia : Nat} {oa : Oper} {tl : List (Nat × Bool)} (hs : Region.noSelect ops = true) (hQ : ∀ c a w, ¬ Q (.panic c) a w) (hoa : ops[ia]? = some oa) (hg : oa.guard = none)
    (hSa : ∀ w, S w → S (w.alloc o0)) (hSB : ∀ w, S w → B ≤ w.heap.size) (hrun : ∀ (a : Act) (w : World), (execOp a.eval oa).run P w = .ok (.value (vf w.heap.size)) (w.alloc o0)) : ∀ (l : List (Nat × Bool)) (L : Array Bool) (a : Act) (w : World), S w →
    planF ops ia oa tl l L = true → wpFl P ops Q S o0 B vf oa tl l a w → ∀ fuel, l.length + 1 + tl.length ≤ fuel → wpAnyH P .any ops Q S fuel L a w := by
  have hal : ∀ (l : List (Nat × Bool)) (L : Array Bool) (a : Act) (w : World) (fuel : Nat), S w → planF ops ia oa tl l L = true → wpFl P ops Q S o0 B vf oa tl l a w → l.length + tl.length ≤ fuel →
      wpOp P ops Q ia (fun a' w' => S w' ∧ wpAnyH P .any ops Q S fuel (L.setIfInBounds ia true) a' w') a w := fun l L a w fuel hS hB hx hf => by
    unfold wpOp
    have hw : Region.wanted oa (yielded ops a.tmps) = true := by unfold Region.wanted; rw [hg]
    simp only [hoa]
    rw [if_pos hw]
    left
    unfold Oper.wp
    rw [hrun]
    exact ⟨hSa _ hS, wpAnyH_done_fl hs hQ l L a _ _ (hSa _ hS) (hSB _ hS) (heap_alloc_new w o0) hB (wpFl_alloc l a w hx) fuel hf⟩
  intro l
  induction l with
  | nil =>
    intro L a w hS hB hx fuel hf
    cases fuel with
    | zero => simp at hf
    | succ fuel =>
      have hB0 := hB
      simp only [planF, Bool.and_eq_true, decide_eq_true_eq] at hB
      refine wpAnyH_all hB.1 (by simp) fun j hj => ?_
      obtain rfl : j = ia := by simpa using hj
      exact hal [] L a w fuel hS hB0 hx (by simp at hf ⊢; omega)
  | cons x r ih =>
    obtain ⟨i, b⟩ := x
    intro L a w hS hB hx fuel hf
    cases fuel with
    | zero => simp at hf
    | succ fuel =>
      have hB0 := hB
      cases b
      · simp only [planF, Bool.and_eq_true, bne_iff_ne, decide_eq_true_eq] at hB
        obtain ⟨⟨⟨⟨⟨hm, hne⟩, hall⟩, hc⟩, hr⟩, hB'⟩ := hB
        refine wpAnyH_all rfl (fun h0 => by rw [h0] at hc; simp at hc) fun j hj => ?_
        have := List.all_eq_true.1 hall j hj
        simp only [Bool.or_eq_true, beq_iff_eq] at this
        rcases this with rfl | rfl
        · cases ho : ops[j]? with
          | none => rw [ho] at hm; cases hm
          | some o =>
            obtain ⟨J, j1, j2, hw, j3⟩ := hx o ho
            unfold wpOp
            simp only [ho]
            rw [if_pos hw]
            left
            exact j3 w j1 hS _ fun a' w' hS' hk hn => ⟨hS', ih _ a' w' hS' hB' hn fuel (by simp at hf; omega)⟩
        · exact hal _ L a w fuel hS hB0 hx (by simp at hf ⊢; omega)
      · simp only [planF, Bool.and_eq_true, bne_iff_ne] at hB
        obtain ⟨⟨⟨⟨⟨⟨hm, hne⟩, hr⟩, hfr⟩, _⟩, _⟩, hB'⟩ := hB
        cases ho : ops[i]? with
        | none => rw [ho] at hm; cases hm
        | some o =>
          rw [ho] at hm
          simp only [Bool.and_eq_true] at hm
          obtain ⟨v, hy, hn⟩ := hx o ho
          exact wpAnyH_take ho hs hfr hr (fun c a w hq => absurd hq (hQ _ _ _)) (yieldsIf_of hm.1 hy) hS (ih _ _ w hS hB' hn fuel (by simp at hf; omega))
theorem wp_region_float {id : Nat} {a : Act} {w : World} {l : List Oper} (S : World → Prop) (o0 : Obj) (B : Nat) (vf : Nat → Value) (ia : Nat) (oa : Oper) (pl tl : List (Nat × Bool)) (hm : P.follows .mixedOrders = true) (hs : Region.noSelect l.toArray = true) (hoa : l.toArray[ia]? = some oa) (hg : oa.guard = none)
    (hB : planF l.toArray ia oa tl pl (Array.replicate l.length false) = true) (hl : pl.length + 1 + tl.length = l.length) (hS : S w.drew) (hSa : ∀ w, S w → S (w.alloc o0)) (hSB : ∀ w, S w → B ≤ w.heap.size)
    (hrun : ∀ (a : Act) (w : World), (execOp a.eval oa).run P w = .ok (.value (vf w.heap.size)) (w.alloc o0))
    (h : wpFl P l.toArray (NoPanic Q) S o0 B vf oa tl pl a w.drew) : (Code.region id l.toArray true).wp P Q a w := by
  refine wp_region_noPanic (wp_region_held (S := S) hm ?_)
  have := wpAnyH_pend (P := P) (Q := NoPanic Q) (S := S) hs (fun c a w h => h) hoa hg hSa hSB hrun pl (Array.replicate l.length false) a w.drew hS hB h l.length (by omega)
  simpa using this
theorem wpFl_qs {oa : Oper} {tl : List (Nat × Bool)} : ∀ (n : Nat) (l : List (Nat × Bool)) (a : Act) (w : World), ((l.take n).all fun x => x.2) = true → ((l.take n).all fun x => (ops[x.1]?).isSome) = true → n ≤ l.length →
    wpQuiet P ops (clsS S) (fun a' => wpFl P ops Q S o0 B vf oa tl (l.drop n) a' w) ((l.take n).filterMap fun x => ops[x.1]?) a → wpFl P ops Q S o0 B vf oa tl l a w
  | 0, l, a, w, _, _, _, h => h
  | n + 1, [], a, w, _, _, hn, _ => by simp at hn
  | n + 1, (i, false) :: l, a, w, h1, _, _, _ => by simp at h1
  | n + 1, (i, true) :: l, a, w, h1, h2, hn, h => by
    simp only [List.take_succ_cons, List.all_cons, Bool.and_eq_true] at h1 h2
    intro o ho
    simp only [List.take_succ_cons, List.drop_succ_cons, List.filterMap_cons, ho, wpQuiet] at h
    by_cases hw : Region.wanted o (yielded ops a.tmps) = true
    · rw [if_pos hw] at h
      obtain ⟨v, h3, h4⟩ := h
      exact ⟨v, .inl ⟨hw, fun w' hS => h3 w' ⟨⟨w', hS⟩, rfl⟩⟩, wpFl_qs n l _ w h1.2 h2.2 (by simpa using hn) h4⟩
    · rw [if_neg hw] at h
      exact ⟨undef, .inr ⟨by simpa using hw, rfl⟩, wpFl_qs n l _ w h1.2 h2.2 (by simpa using hn) h⟩
theorem wpFl_e {oa : Oper} {tl : List (Nat × Bool)} {i : Nat} {r : List (Nat × Bool)} {a : Act} {w : World} (J : World → Prop) (o : Oper) (ho : ops[i]? = some o) (hw : Region.wanted o (yielded ops a.tmps) = true) (hj : J w) (hja : ∀ w, J w → J (w.alloc o0))
    (h : ∀ w, J w → S w → ∀ K : Act → World → Prop, (∀ a' w', S w' → KeepO o0 w w' → wpFl P ops Q S o0 B vf oa tl r a' w' → K a' w') → o.wp P a w K Q) : wpFl P ops Q S o0 B vf oa tl ((i, false) :: r) a w :=
  fun o' ho' => by
    obtain rfl : o = o' := Option.some.inj (ho.symm.trans ho')
    exact ⟨J, hj, hja, hw, h⟩
end
end Go.Proofs.Ytjaacmecniijgaa
