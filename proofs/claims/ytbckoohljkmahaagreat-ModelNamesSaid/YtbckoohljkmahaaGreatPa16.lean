/- What the laws' proofs lean on: plain facts and contracts of the program's functions, laid together (16). -/
import Derived.Test.YtbckoohljkmahaaGreatPa02
import Derived.Test.YtbckoohljkmahaaGreatPa15
import Derived.Test.YtbckoohljkmahaaGreatPa13
namespace Go.Proofs.YtbckoohljkmahaaGreat
set_option linter.unusedVariables false
set_option linter.unusedSimpArgs false
open Go.RowKit
section
variable {P : Program} {ops : Array Oper} {Q : Exit → Act → World → Prop} {S : World → Prop} {o0 : Obj} {B : Nat} {vf : Nat → Value}
theorem wp_putd {o oa : Oper} (hap : oa.apart ops o = true) (hso : ∀ cs b, o.op ≠ .select cs b) (hQ : ∀ c a w, ¬ Q (.panic c) a w) {K : Act → World → Prop} {a : Act} {w : World} (v : Value)
    (h : o.wp P a w (fun a' w' => K (a'.put oa.dst v) w') Q) : o.wp P (a.put oa.dst v) w K Q := by
  obtain ⟨h1, h2, h3⟩ := Oper.apart_spec hap
  unfold Oper.wp at *
  rw [execOp_put o hso a oa.dst v h1]
  generalize (execOp a.eval o).run P w = r at *
  cases r with
  | ok n w' =>
    cases n <;> simp only [Oper.upon] at h ⊢
    case value u => rw [Act.put_comm a v u h2]; exact h
    case skip => rw [Act.put_comm a v undef h2]; exact h
    case defer d =>
      have e : ({ (a.put oa.dst v) with defers := d :: (a.put oa.dst v).defers } : Act) = ({ a with defers := d :: a.defers } : Act).put oa.dst v := by cases oa.dst <;> rfl
      rw [e, Act.put_comm _ v undef h2]
      exact h
    case enter f args =>
      refine Calls.mono h fun e w'' he => ?_
      cases e with
      | returned u => show K ((a.put oa.dst v).put o.dst u) w''; rw [Act.put_comm a v u h2]; exact he
      | panicked c => exact absurd he (hQ _ _ _)
      | outgrown => exact he
    case row row args => exact Rows.mono h fun u w'' he => by rw [Act.put_comm a v u h2]; exact he
  | halt x w' =>
    cases x <;> simp only [Oper.upon] at h ⊢
    case panic u => exact absurd h (hQ _ _ _)
def KeepO (o0 : Obj) (w w' : World) : Prop := ∀ h : Nat, w.heap[h]? = some o0 → w'.heap[h]? = some o0
def planF (ops : Array Oper) (ia : Nat) (oa : Oper) (tl : List (Nat × Bool)) : List (Nat × Bool) → Array Bool → Bool
  | [], L => decide (Region.ready .any ops L = [ia]) && planB ops tl (L.setIfInBounds ia true)
  | (i, true) :: r, L => (match ops[i]? with | some o => isV o.op && oa.apart ops o | none => false) && i != ia && (Region.ready .any ops L).contains i && Region.free .any ops L i
      && (Region.ready .any ops (L.setIfInBounds ia true)).contains i && Region.free .any ops (L.setIfInBounds ia true) i && planF ops ia oa tl r (L.setIfInBounds i true)
  | (i, false) :: r, L => (match ops[i]? with | some o => oa.apart ops o | none => false) && i != ia && (Region.ready .any ops L).all (fun j => j == i || j == ia) && (Region.ready .any ops L).contains i
      && decide (Region.ready .any ops (L.setIfInBounds ia true) = [i]) && planF ops ia oa tl r (L.setIfInBounds i true)
def wpFl (P : Program) (ops : Array Oper) (Q : Exit → Act → World → Prop) (S : World → Prop) (o0 : Obj) (B : Nat) (vf : Nat → Value) (oa : Oper) (tl : List (Nat × Bool)) : List (Nat × Bool) → Act → World → Prop
  | [], a, w => ∃ J : World → Prop, J w ∧ (∀ w, J w → J (w.alloc o0)) ∧ ∀ (w : World) (h : Nat), J w → S w → B ≤ h → w.heap[h]? = some o0 → wpPl P ops Q S tl (a.put oa.dst (vf h)) w
  | (i, true) :: r, a, w => ∀ o, ops[i]? = some o → ∃ v, ((Region.wanted o (yielded ops a.tmps) = true ∧ ∀ w, S w → o.quietAt P a (clsS S) w v) ∨ (Region.wanted o (yielded ops a.tmps) = false ∧ v = undef)) ∧ wpFl P ops Q S o0 B vf oa tl r (a.put o.dst v) w
  | (i, false) :: r, a, w => ∀ o, ops[i]? = some o → ∃ J : World → Prop, J w ∧ (∀ w, J w → J (w.alloc o0)) ∧ Region.wanted o (yielded ops a.tmps) = true ∧
      ∀ w, J w → S w → ∀ K : Act → World → Prop, (∀ a' w', S w' → KeepO o0 w w' → wpFl P ops Q S o0 B vf oa tl r a' w' → K a' w') → o.wp P a w K Q
theorem wpFl_alloc {oa : Oper} {tl : List (Nat × Bool)} : ∀ (l : List (Nat × Bool)) (a : Act) (w : World), wpFl P ops Q S o0 B vf oa tl l a w → wpFl P ops Q S o0 B vf oa tl l a (w.alloc o0)
  | [], a, w, ⟨J, h1, h2, h3⟩ => ⟨J, h2 _ h1, h2, h3⟩
  | (i, true) :: r, a, w, h => fun o ho => by
    obtain ⟨v, h1, h2⟩ := h o ho
    exact ⟨v, h1, wpFl_alloc r _ _ h2⟩
  | (i, false) :: r, a, w, h => fun o ho => by
    obtain ⟨J, h1, h2, h3⟩ := h o ho
    exact ⟨J, h2 _ h1, h2, h3⟩
theorem yieldsIf_of {o : Oper} {v : Value} {a : Act} (hv : isV o.op = true) (h : (Region.wanted o (yielded ops a.tmps) = true ∧ ∀ w, S w → o.quietAt P a (clsS S) w v) ∨ (Region.wanted o (yielded ops a.tmps) = false ∧ v = undef)) : YieldsIf P ops S o v a := by
  rcases h with ⟨hw, hy⟩ | hy
  · refine .inl ⟨hw, fun w' hS' => ?_⟩
    have h5 := hy w' hS'
    unfold Oper.quietAt at h5
    cases hr : (execOp a.eval o).run P w' with
    | ok nx w2 =>
      obtain ⟨u, rfl⟩ := isV_spec hv hr
      rw [hr] at h5
      simp only [Oper.quietUpon] at h5
      rw [h5.1, h5.2]
    | halt x w2 => rw [hr] at h5; simp only [Oper.quietUpon] at h5
  · exact .inr hy
theorem wpAnyH_done_fl {ia : Nat} {oa : Oper} {tl : List (Nat × Bool)} (hs : Region.noSelect ops = true) (hQ : ∀ c a w, ¬ Q (.panic c) a w) : ∀ (l : List (Nat × Bool)) (L : Array Bool) (a : Act) (w : World) (h : Nat), S w → B ≤ h → w.heap[h]? = some o0 →
    planF ops ia oa tl l L = true → wpFl P ops Q S o0 B vf oa tl l a w → ∀ fuel, l.length + tl.length ≤ fuel → wpAnyH P .any ops Q S fuel (L.setIfInBounds ia true) (a.put oa.dst (vf h)) w
  | [], L, a, w, h, hS, hbB, hb, hB, ⟨J, h1, h2, h3⟩, fuel, hf => by
    simp only [planF, Bool.and_eq_true] at hB
    exact wpAnyH_of_plan hs hQ tl _ _ w hS hB.2 (h3 w h h1 hS hbB hb) fuel (by simpa using hf)
  | (i, true) :: r, L, a, w, h, hS, hbB, hb, hB, hx, 0, hf => by simp at hf
  | (i, false) :: r, L, a, w, h, hS, hbB, hb, hB, hx, 0, hf => by simp at hf
  | (i, true) :: r, L, a, w, h, hS, hbB, hb, hB, hx, fuel + 1, hf => by
    simp only [planF, Bool.and_eq_true, bne_iff_ne] at hB
    obtain ⟨⟨⟨⟨⟨⟨hm, hne⟩, _⟩, _⟩, hr⟩, hfr⟩, hB'⟩ := hB
    cases ho : ops[i]? with
    | none => rw [ho] at hm; cases hm
    | some o =>
      rw [ho] at hm
      simp only [Bool.and_eq_true] at hm
      obtain ⟨v, hy, hn⟩ := hx o ho
      obtain ⟨g1, g2, g3⟩ := Oper.apart_spec hm.2
      have hY := yieldsIf_of hm.1 hy
      have hY' : YieldsIf P ops S o v (a.put oa.dst (vf h)) := hY.of_same (execOp_put o (Region.noSelect_spec hs i o · · ho) a oa.dst _ g1) (wanted_put o a oa.dst _ g1)
      refine wpAnyH_take ho hs hfr hr (fun c a w hq => absurd hq (hQ _ _ _)) hY' hS ?_
      rw [Array.setIfInBounds_comm _ _ (Ne.symm hne), Act.put_comm a _ v g2]
      exact wpAnyH_done_fl hs hQ r _ _ w h hS hbB hb hB' hn fuel (by simp at hf; omega)
  | (i, false) :: r, L, a, w, h, hS, hbB, hb, hB, hx, fuel + 1, hf => by
    simp only [planF, Bool.and_eq_true, bne_iff_ne, decide_eq_true_eq] at hB
    obtain ⟨⟨⟨⟨⟨hm, hne⟩, _⟩, _⟩, hr⟩, hB'⟩ := hB
    cases ho : ops[i]? with
    | none => rw [ho] at hm; cases hm
    | some o =>
      rw [ho] at hm
      obtain ⟨g1, g2, g3⟩ := Oper.apart_spec hm
      obtain ⟨J, j1, j2, hw, j3⟩ := hx o ho
      refine wpAnyH_all hr (by simp) fun j hj => ?_
      obtain rfl : j = i := by simpa using hj
      unfold wpOp
      simp only [ho]
      rw [wanted_put o a oa.dst _ g1, if_pos hw]
      left
      refine wp_putd hm (Region.noSelect_spec hs j o · · ho) hQ _ ?_
      refine j3 w j1 hS _ fun a' w' hS' hk hn => ⟨hS', ?_⟩
      rw [Array.setIfInBounds_comm _ _ (Ne.symm hne)]
      exact wpAnyH_done_fl hs hQ r _ _ w' h hS' hbB (hk h hb) hB' hn fuel (by simp at hf; omega)
theorem wpAnyH_pend {ia : Nat} {oa : Oper} {tl : List (Nat × Bool)} (hs : Region.noSelect ops = true) (hQ : ∀ c a w, ¬ Q (.panic c) a w) (hoa : ops[ia]? = some oa) (hg : oa.guard = none)
    (hSa : ∀ w, S w → S (w.alloc o0)) (hSB : ∀ w, S w → B ≤ w.heap.size) (hrun : ∀ (a : Act) (w : World), (execOp a.eval oa).run P w = .ok (.value (vf w.heap.size)) (w.alloc o0)) : ∀ (l : List (Nat × Bool)) (L : Array Bool) (a : Act) (w : World), S w →
    planF ops ia oa tl l L = true → wpFl P ops Q S o0 B vf oa tl l a w → ∀ fuel, l.length + 1 + tl.length ≤ fuel → wpAnyH P .any ops Q S fuel L a w := by
  have hal : ∀ (l : List (Nat × Bool)) (L : Array Bool) (a : Act) (w : World) (fuel : Nat), S w → planF ops ia oa tl l L = true → wpFl P ops Q S o0 B vf oa tl l a w → l.length + tl.length ≤ fuel →
      wpOp P ops Q ia (fun a' w' => S w' ∧ wpAnyH P .any ops Q S fuel (L.setIfInBounds ia true) a' w') a w := fun l L a w fuel hS hB hx hf => by
    unfold wpOp
    have hw : Region.wanted oa (yielded ops a.tmps) = true := by unfold Region.wanted; rw [hg]
    simp only [hoa]
    rw [if_pos hw]
    left
    unfold Oper.wp
    rw [hrun]
    exact ⟨hSa _ hS, wpAnyH_done_fl hs hQ l L a _ _ (hSa _ hS) (hSB _ hS) (heap_alloc_new w o0) hB (wpFl_alloc l a w hx) fuel hf⟩
  intro l
  induction l with
  | nil =>
    intro L a w hS hB hx fuel hf
    cases fuel with
    | zero => simp at hf
    | succ fuel =>
      have hB0 := hB
      simp only [planF, Bool.and_eq_true, decide_eq_true_eq] at hB
      refine wpAnyH_all hB.1 (by simp) fun j hj => ?_
      obtain rfl : j = ia := by simpa using hj
      exact hal [] L a w fuel hS hB0 hx (by simp at hf ⊢; omega)
  | cons x r ih =>
    obtain ⟨i, b⟩ := x
    intro L a w hS hB hx fuel hf
    cases fuel with
    | zero => simp at hf
    | succ fuel =>
      have hB0 := hB
      cases b
      · simp only [planF, Bool.and_eq_true, bne_iff_ne, decide_eq_true_eq] at hB
        obtain ⟨⟨⟨⟨⟨hm, hne⟩, hall⟩, hc⟩, hr⟩, hB'⟩ := hB
        refine wpAnyH_all rfl (fun h0 => by rw [h0] at hc; simp at hc) fun j hj => ?_
        have := List.all_eq_true.1 hall j hj
        simp only [Bool.or_eq_true, beq_iff_eq] at this
        rcases this with rfl | rfl
        · cases ho : ops[j]? with
          | none => rw [ho] at hm; cases hm
          | some o =>
            obtain ⟨J, j1, j2, hw, j3⟩ := hx o ho
            unfold wpOp
            simp only [ho]
            rw [if_pos hw]
            left
            exact j3 w j1 hS _ fun a' w' hS' hk hn => ⟨hS', ih _ a' w' hS' hB' hn fuel (by simp at hf; omega)⟩
        · exact hal _ L a w fuel hS hB0 hx (by simp at hf ⊢; omega)
      · simp only [planF, Bool.and_eq_true, bne_iff_ne] at hB
        obtain ⟨⟨⟨⟨⟨⟨hm, hne⟩, hr⟩, hfr⟩, _⟩, _⟩, hB'⟩ := hB
        cases ho : ops[i]? with
        | none => rw [ho] at hm; cases hm
        | some o =>
          rw [ho] at hm
          simp only [Bool.and_eq_true] at hm
          obtain ⟨v, hy, hn⟩ := hx o ho
          exact wpAnyH_take ho hs hfr hr (fun c a w hq => absurd hq (hQ _ _ _)) (yieldsIf_of hm.1 hy) hS (ih _ _ w hS hB' hn fuel (by simp at hf; omega))
theorem wp_region_float {id : Nat} {a : Act} {w : World} {l : List Oper} (S : World → Prop) (o0 : Obj) (B : Nat) (vf : Nat → Value) (ia : Nat) (oa : Oper) (pl tl : List (Nat × Bool)) (hm : P.follows .mixedOrders = true) (hs : Region.noSelect l.toArray = true) (hoa : l.toArray[ia]? = some oa) (hg : oa.guard = none)
    (hB : planF l.toArray ia oa tl pl (Array.replicate l.length false) = true) (hl : pl.length + 1 + tl.length = l.length) (hS : S w.drew) (hSa : ∀ w, S w → S (w.alloc o0)) (hSB : ∀ w, S w → B ≤ w.heap.size)
    (hrun : ∀ (a : Act) (w : World), (execOp a.eval oa).run P w = .ok (.value (vf w.heap.size)) (w.alloc o0))
    (h : wpFl P l.toArray (NoPanic Q) S o0 B vf oa tl pl a w.drew) : (Code.region id l.toArray true).wp P Q a w := by
  refine wp_region_noPanic (wp_region_held (S := S) hm ?_)
  have := wpAnyH_pend (P := P) (Q := NoPanic Q) (S := S) hs (fun c a w h => h) hoa hg hSa hSB hrun pl (Array.replicate l.length false) a w.drew hS hB h l.length (by omega)
  simpa using this
theorem wpFl_qs {oa : Oper} {tl : List (Nat × Bool)} : ∀ (n : Nat) (l : List (Nat × Bool)) (a : Act) (w : World), ((l.take n).all fun x => x.2) = true → ((l.take n).all fun x => (ops[x.1]?).isSome) = true → n ≤ l.length →
    wpQuiet P ops (clsS S) (fun a' => wpFl P ops Q S o0 B vf oa tl (l.drop n) a' w) ((l.take n).filterMap fun x => ops[x.1]?) a → wpFl P ops Q S o0 B vf oa tl l a w
  | 0, l, a, w, _, _, _, h => h
  | n + 1, [], a, w, _, _, hn, _ => by simp at hn
  | n + 1, (i, false) :: l, a, w, h1, _, _, _ => by simp at h1
  | n + 1, (i, true) :: l, a, w, h1, h2, hn, h => by
    simp only [List.take_succ_cons, List.all_cons, Bool.and_eq_true] at h1 h2
    intro o ho
    simp only [List.take_succ_cons, List.drop_succ_cons, List.filterMap_cons, ho, wpQuiet] at h
    by_cases hw : Region.wanted o (yielded ops a.tmps) = true
    · rw [if_pos hw] at h
      obtain ⟨v, h3, h4⟩ := h
      exact ⟨v, .inl ⟨hw, fun w' hS => h3 w' ⟨⟨w', hS⟩, rfl⟩⟩, wpFl_qs n l _ w h1.2 h2.2 (by simpa using hn) h4⟩
    · rw [if_neg hw] at h
      exact ⟨undef, .inr ⟨by simpa using hw, rfl⟩, wpFl_qs n l _ w h1.2 h2.2 (by simpa using hn) h⟩
theorem wpFl_e {oa : Oper} {tl : List (Nat × Bool)} {i : Nat} {r : List (Nat × Bool)} {a : Act} {w : World} (J : World → Prop) (o : Oper) (ho : ops[i]? = some o) (hw : Region.wanted o (yielded ops a.tmps) = true) (hj : J w) (hja : ∀ w, J w → J (w.alloc o0))
    (h : ∀ w, J w → S w → ∀ K : Act → World → Prop, (∀ a' w', S w' → KeepO o0 w w' → wpFl P ops Q S o0 B vf oa tl r a' w' → K a' w') → o.wp P a w K Q) : wpFl P ops Q S o0 B vf oa tl ((i, false) :: r) a w :=
  fun o' ho' => by
    obtain rfl : o = o' := Option.some.inj (ho.symm.trans ho')
    exact ⟨J, hj, hja, hw, h⟩
end
end Go.Proofs.YtbckoohljkmahaaGreat
namespace Go.Proofs.YtbckoohljkmahaaGreat
set_option linter.unusedVariables false
set_option linter.unusedSimpArgs false
open Go.RowKit Go.Maps
theorem KeepO.belM {o : Obj} {w w' : World} (h : Below w.heap.size w w') : KeepO o w w' := fun k hk => by
  have hlt : k < w.heap.size := (Array.getElem?_eq_some_iff.1 hk).1
  rw [h.block k hlt]; exact hk
/-- the boxes of a step -/
structure SS (w W : World) (c : Cf) (gn pb fm np nf : Nat) (L : List Bd) (xv av : Array Value) : Prop where
  nm : NatM W c gn pb fm np nf L
  bx : Blk W w.heap.size 57 xv
  ba : Blk W (w.heap.size + 1) 55 av
  up : Upd (fun k => k = pb ∨ k = fm) w W
section
variable {w W W' : World} {c : Cf} {gn pb fm np nf np' nf' : Nat} {L L' : List Bd} {xv av : Array Value}
theorem SS.bel_ (h : SS w W c gn pb fm np nf L xv av) (hb : Below W.heap.size W W') : SS w W' c gn pb fm np nf L xv av :=
  ⟨h.nm.bel_ hb, h.bx.bel hb, h.ba.bel hb, h.up.trans (Upd.of_below hb _)⟩
theorem NatM.keepB (h : NatM W c gn pb fm np nf L) {g : Nat} {t : TypeId} {cs : Array Value} (hb : Blk W g t cs) (hu : Upd (fun k => k = pb ∨ k = fm) W W') : Blk W' g t cs := hb.upd hu (fun e => by
  rcases e with e | e
  · exact h.pl.notBlk hb e
  · exact h.fl.notBlk hb e)
theorem SS.step (h : SS w W c gn pb fm np nf L xv av) (hm : NatM W' c gn pb fm np' nf' L') (hu : Upd (fun k => k = pb ∨ k = fm) W W') : SS w W' c gn pb fm np' nf' L' xv av :=
  ⟨hm, h.nm.keepB h.bx hu, h.nm.keepB h.ba hu, h.up.trans hu⟩
theorem SS.ans (h : SS w W c gn pb fm np nf L xv av) (hgn : gn < w.heap.size) (hpb : pb < w.heap.size) (hfm : fm < w.heap.size) (av' : Array Value) : SS w (W.setRow (w.heap.size + 1) av') c gn pb fm np nf L xv av' := by
  have hu := Upd.row' W (w.heap.size + 1) av'
  exact ⟨⟨h.nm.obj.upd hu (by omega), h.nm.pl.upd hu (by omega), h.nm.fl.upd hu (by omega), h.nm.ne, h.nm.inv⟩, h.bx.upd hu (by omega), h.ba.setRow av',
    ⟨hu.os.trans h.up.os, hu.tape.trans h.up.tape, hu.output.trans h.up.output, Nat.le_trans h.up.size hu.size, fun k hk hS => (hu.block k (Nat.lt_of_lt_of_le hk h.up.size) (by omega)).trans (h.up.block k hk hS)⟩⟩
end
set_option maxRecDepth 100000 in
set_option maxHeartbeats 4000000 in
theorem Step_bad (c : Cf) (gn pb fm np nf : Nat) (L : List Bd) (ou : Bool) (xA : Option Addr) (xn xc : Nat) (ti po : Int) (w : World) (hm : NatM w c gn pb fm np nf L) (ht : ti < 0 ∨ 4294967295 < ti) :
    Calls Tryz.prog 22 #[.pointer (some ⟨gn, 0, none⟩), .agg #[.bool ou, .slice xA xn xc, .int .i64 ti, .int .i64 po]] w (AnsR w c gn pb fm np nf L 1 []) := by
  rcases Int.lt_or_le ti 0 with h1 | h1
  · have d1 : decide (ti < 0) = true := by simpa using h1
    clear ht
    have hlt1 := hm.obj.lt
    have hlt2 := hm.pl.lt
    have hlt3 := hm.fl.lt
    go_enter Tryz.func22, Tryz.ntmps22
    go_upto_region 1 with fail
    have ss : SS w ((w.alloc (.cells #[.bool ou, .slice xA xn xc, .int .i64 ti, .int .i64 po] 57)).alloc (.cells #[.slice none 0 0, .int .i64 0] 55)) c gn pb fm np nf L #[.bool ou, .slice xA xn xc, .int .i64 ti, .int .i64 po] #[.slice none 0 0, .int .i64 0] := by
      have e1 : (w.alloc (.cells #[.bool ou, .slice xA xn xc, .int .i64 ti, .int .i64 po] 57)).heap.size = w.heap.size + 1 := by simp
      have b1 := Blk.new w 57 #[.bool ou, .slice xA xn xc, .int .i64 ti, .int .i64 po]
      have b2 := Blk.new (w.alloc (.cells #[.bool ou, .slice xA xn xc, .int .i64 ti, .int .i64 po] 57)) 55 #[.slice none 0 0, .int .i64 0]
      rw [e1] at b2
      exact ⟨(hm.alloc _).alloc _, b1.alloc _, b2, ((Upd.refl _ w).alloc _).alloc _⟩
    generalize (w.alloc (.cells #[.bool ou, .slice xA xn xc, .int .i64 ti, .int .i64 po] 57)).alloc (.cells #[.slice none 0 0, .int .i64 0] 55) = W at *
    have x2 := ss.bx.cell 2
    have ba := ss.ba
    go_wp2_with (refine wpList_stRow rfl rfl rfl rfl rfl ba an_size rfl (by simp [Value.oneCell']) ?_)
    have ss2 := ss.ans hlt1 hlt2 hlt3 #[.slice none 0 0, .int .i64 1]
    exact bodyPost_ret (results_row rfl _ rfl ss2.ba Tryz.underlying55 an_size) rfl ⟨_, _, _, rfl, Own.nil _ _ _ _, ss2.nm, Nat.le_succ _, Nat.le_succ _, ss2.up⟩
  · have d1 : decide (ti < 0) = false := by simpa using h1
    have d2 : decide (4294967295 < ti) = true := by simp; omega
    clear ht
    have hlt1 := hm.obj.lt
    have hlt2 := hm.pl.lt
    have hlt3 := hm.fl.lt
    go_enter Tryz.func22, Tryz.ntmps22
    go_upto_region 1 with fail
    have ss : SS w ((w.alloc (.cells #[.bool ou, .slice xA xn xc, .int .i64 ti, .int .i64 po] 57)).alloc (.cells #[.slice none 0 0, .int .i64 0] 55)) c gn pb fm np nf L #[.bool ou, .slice xA xn xc, .int .i64 ti, .int .i64 po] #[.slice none 0 0, .int .i64 0] := by
      have e1 : (w.alloc (.cells #[.bool ou, .slice xA xn xc, .int .i64 ti, .int .i64 po] 57)).heap.size = w.heap.size + 1 := by simp
      have b1 := Blk.new w 57 #[.bool ou, .slice xA xn xc, .int .i64 ti, .int .i64 po]
      have b2 := Blk.new (w.alloc (.cells #[.bool ou, .slice xA xn xc, .int .i64 ti, .int .i64 po] 57)) 55 #[.slice none 0 0, .int .i64 0]
      rw [e1] at b2
      exact ⟨(hm.alloc _).alloc _, b1.alloc _, b2, ((Upd.refl _ w).alloc _).alloc _⟩
    generalize (w.alloc (.cells #[.bool ou, .slice xA xn xc, .int .i64 ti, .int .i64 po] 57)).alloc (.cells #[.slice none 0 0, .int .i64 0] 55) = W at *
    have x2 := ss.bx.cell 2
    have ba := ss.ba
    go_wp2_with (refine wpList_stRow rfl rfl rfl rfl rfl ba an_size rfl (by simp [Value.oneCell']) ?_)
    have ss2 := ss.ans hlt1 hlt2 hlt3 #[.slice none 0 0, .int .i64 1]
    exact bodyPost_ret (results_row rfl _ rfl ss2.ba Tryz.underlying55 an_size) rfl ⟨_, _, _, rfl, Own.nil _ _ _ _, ss2.nm, Nat.le_succ _, Nat.le_succ _, ss2.up⟩
-- as far as the flow
set_option maxRecDepth 100000 in
set_option maxHeartbeats 4000000 in
theorem Step_err (c : Cf) (gn pb fm np nf : Nat) (L : List Bd) (ou : Bool) (xA : Option Addr) (xn xc : Nat) (ti po : Int) (l : List Int) (w : World) (hm : NatM w c gn pb fm np nf L) (ht : 0 ≤ ti ∧ ti ≤ 4294967295) (hE : (whoP c.ou ou l).2 ≠ 0)
    (hr : Rd .u8 w w.heap.size xA xn l) (hlc : xn ≤ xc) (hcm : xc ≤ 9223372036854775807) (hl : xn ≤ 60000) :
    Calls Tryz.prog 22 #[.pointer (some ⟨gn, 0, none⟩), .agg #[.bool ou, .slice xA xn xc, .int .i64 ti, .int .i64 po]] w (AnsR w c gn pb fm np nf L (whoP c.ou ou l).2 []) := by
  have kw := fun W (hr : Rd .u8 W W.heap.size xA xn l) => Whose_any c.wk c.ou c.lo c.hi c.bk c.rg ou l xA xn xc W hr hlc hcm hl
  unfold WhoR at kw
  generalize hwho : whoP c.ou ou l = R at *
  obtain ⟨⟨f0, f1, f2⟩, EE⟩ := R
  simp only [Fl.cs] at kw
  replace kw := Lib.hid kw
  replace hwho := Lib.hid hwho
  have d1 : decide (ti < 0) = false := by simp; omega
  have d2 : decide (4294967295 < ti) = false := by simp; omega
  have hlt1 := hm.obj.lt
  have hlt2 := hm.pl.lt
  have hlt3 := hm.fl.lt
  go_enter Tryz.func22, Tryz.ntmps22
  go_upto_region 1 with fail
  have ss : SS w ((w.alloc (.cells #[.bool ou, .slice xA xn xc, .int .i64 ti, .int .i64 po] 57)).alloc (.cells #[.slice none 0 0, .int .i64 0] 55)) c gn pb fm np nf L #[.bool ou, .slice xA xn xc, .int .i64 ti, .int .i64 po] #[.slice none 0 0, .int .i64 0] := by
    have e1 : (w.alloc (.cells #[.bool ou, .slice xA xn xc, .int .i64 ti, .int .i64 po] 57)).heap.size = w.heap.size + 1 := by simp
    have b1 := Blk.new w 57 #[.bool ou, .slice xA xn xc, .int .i64 ti, .int .i64 po]
    have b2 := Blk.new (w.alloc (.cells #[.bool ou, .slice xA xn xc, .int .i64 ti, .int .i64 po] 57)) 55 #[.slice none 0 0, .int .i64 0]
    rw [e1] at b2
    exact ⟨(hm.alloc _).alloc _, b1.alloc _, b2, ((Upd.refl _ w).alloc _).alloc _⟩
  generalize (w.alloc (.cells #[.bool ou, .slice xA xn xc, .int .i64 ti, .int .i64 po] 57)).alloc (.cells #[.slice none 0 0, .int .i64 0] 55) = W at *
  have x2 := ss.bx.cell 2
  go_upto_region 3 with fail
  clear x2
  have z1 : ∀ w', (∃ t : Tw (Up W), w' = t.w) → ∀ j u, ([.int .i64 c.wk, .int .u32 c.ou, .int .i64 c.lo, .int .i64 c.hi, .int .i64 c.bk, .int .i64 c.rg] : List Value)[j]? = some u → w'.cell? ⟨gn, 0 + j, none⟩ = some u := fun w' ⟨t, ht⟩ j u hu => by
    rw [ht, Nat.zero_add, (ss.nm.obj.bel t.h).cell]
    match j with
    | 0 | 1 | 2 | 3 | 4 | 5 => exact hu
    | j + 6 => simp at hu
  have z2 : ∀ t : Tw (Up W), t.w.cell? ⟨w.heap.size, 0, none⟩ = some (.bool ou) := fun t => (ss.bx.bel t.h).cell 0
  have z3 : ∀ t : Tw (Up W), t.w.cell? ⟨w.heap.size, 1, none⟩ = some (.slice xA xn xc) := fun t => (ss.bx.bel t.h).cell 1
  have zz := Up.one W
  have hrW := rd_step hr hm (Nat.le_refl _) ss.up
  have hsW := ss.up.size
  refine wp_region_float (Up W) (.cells #[.int .i64 0, .int .u32 0, .int .u16 0] 32) W.heap.size (fun h => .pointer (some ⟨h, 0, none⟩)) 12 _ [(0, true), (1, true), (2, true), (3, true), (4, true), (5, true), (6, true), (7, true), (8, false), (9, true), (10, true), (11, true)] [(13, false), (14, true)] (by kernel_rfl) (by kernel_rfl) (by rfl) (by rfl) (by kernel_rfl) (by kernel_rfl) (Below.refl _ _).drew (fun w' h => Below.alloc h (Below.size h) _) (fun w' h => Below.size h) (by intro a w; simp [execOp, go_sem]) ?_
  refine wpFl_qs 8 _ _ _ (by kernel_rfl) (by kernel_rfl) (by simp) ?_
  unfold clsS
  simp only [List.take_succ_cons, List.take_zero, List.drop_succ_cons, List.drop_zero, List.filterMap_cons, List.filterMap_nil, List.getElem?_toArray, List.getElem?_cons_zero, List.getElem?_cons_succ]
  repeat (first
    | go_big_quiet_skip
    | (go_big_quiet_want; first | (refine quiet_ldAt rfl rfl z1 Tryz.underlying36 cf_size ?_; go_simp; go_big_quiet_on) | (go_big_quiet_op; go_big_quiet_on))
    | (refine id (?_ : wpQuiet _ _ _ _ (_ :: _) _); first | go_big_quiet_skip | (go_big_quiet_want; first | (refine quiet_ldAt rfl rfl z1 Tryz.underlying36 cf_size ?_; go_simp; go_big_quiet_on) | (go_big_quiet_op; go_big_quiet_on))))
  refine wpQuiet_nil ?_
  refine wpFl_e (fun _ => True) _ (by rfl) (by kernel_rfl) trivial (fun _ _ => trivial) (fun W1 _ hS1 K hK => ?_)
  go_simp
  refine (kw.out W1 ((hrW.below (Below.mono hS1 hsW)).more (Nat.le_trans hsW (Below.size hS1)))).mono ?_
  rintro e W2 ⟨rfl, hb2⟩
  refine hK _ _ (bel_after hS1 hb2) (KeepO.belM hb2) ?_
  clear hK K hb2 kw
  refine wpFl_qs 3 _ _ _ (by kernel_rfl) (by kernel_rfl) (by simp) ?_
  unfold clsS
  simp only [List.take_succ_cons, List.take_zero, List.drop_succ_cons, List.drop_zero, List.filterMap_cons, List.filterMap_nil, List.getElem?_toArray, List.getElem?_cons_zero, List.getElem?_cons_succ]
  repeat (first
    | go_big_quiet_skip
    | (go_big_quiet_want; go_big_quiet_op; go_big_quiet_on)
    | (refine id (?_ : wpQuiet _ _ _ _ (_ :: _) _); first | go_big_quiet_skip | (go_big_quiet_want; go_big_quiet_op; go_big_quiet_on)))
  refine wpQuiet_nil ?_
  unfold wpFl
  refine ⟨fun _ => True, trivial, fun _ _ => trivial, fun W3 gf _ hS3 hgf hbf => ?_⟩
  clear hS1
  replace hbf : Blk W3 gf 32 #[.int .i64 0, .int .u32 0, .int .u16 0] := hbf
  go_simp
  refine wpPl_e _ (by rfl) (by kernel_rfl) (fun K hK => ?_)
  refine wp_stRow rfl rfl rfl rfl hbf fl_size rfl (by simp [Value.oneCell']) ?_
  have bf := hbf.setRow #[.int .i64 f0, .int .u32 f1, .int .u16 f2]
  have hS4 := below_setRow hS3 hgf #[.int .i64 f0, .int .u32 f1, .int .u16 f2]
  refine hK _ _ hS4 ?_
  clear hK K hbf hS3 z1 z2 z3 zz
  refine wpPl_qs 1 _ _ _ (by kernel_rfl) (by kernel_rfl) (by simp) ?_
  unfold clsS
  simp only [List.take_succ_cons, List.take_zero, List.drop_succ_cons, List.drop_zero, List.filterMap_cons, List.filterMap_nil, List.getElem?_toArray, List.getElem?_cons_zero, List.getElem?_cons_succ]
  repeat (first
    | go_big_quiet_skip
    | (go_big_quiet_want; go_big_quiet_op; go_big_quiet_on)
    | (refine id (?_ : wpQuiet _ _ _ _ (_ :: _) _); first | go_big_quiet_skip | (go_big_quiet_want; go_big_quiet_op; go_big_quiet_on)))
  refine wpQuiet_nil ?_
  unfold wpPl
  refine NoPanic.normal ?_
  replace ss := ss.bel_ hS4
  clear hS4 hrW
  generalize W3.setRow gf #[.int .i64 f0, .int .u32 f1, .int .u16 f2] = W4 at *
  have d3 : (EE != 0) = true := by simpa using hE
  clear hE
  have ba := ss.ba
  go_wp2_with (refine wpList_stRow rfl rfl rfl rfl rfl ba an_size rfl (by simp [Value.oneCell']) ?_)
  have ss2 := ss.ans hlt1 hlt2 hlt3 #[.slice none 0 0, .int .i64 EE]
  exact bodyPost_ret (results_row rfl _ rfl ss2.ba Tryz.underlying55 an_size) rfl ⟨_, _, _, rfl, Own.nil _ _ _ _, ss2.nm, Nat.le_succ _, Nat.le_succ _, ss2.up⟩
end Go.Proofs.YtbckoohljkmahaaGreat
namespace Go.Proofs.YtbckoohljkmahaaGreat
set_option linter.unusedVariables false
set_option linter.unusedSimpArgs false
open Go.RowKit Go.Maps
-- what is read
set_option maxRecDepth 100000 in
set_option maxHeartbeats 8000000 in
theorem Step_out (c : Cf) (gn pb fm np nf : Nat) (L : List Bd) (xA : Option Addr) (xn xc : Nat) (ti po : Int) (l : List Int) (w : World) (hm : NatM w c gn pb fm np nf L) (hc : c.ok) (hou : 0 ≤ c.ou ∧ c.ou ≤ 4294967295) (ht : 0 ≤ ti ∧ ti ≤ 4294967295) (hE : (whoP c.ou true l).2 = 0)
    (hn1 : np < 900000) (hn2 : nf < 900000) (hr : Rd .u8 w w.heap.size xA xn l) (hlc : xn ≤ xc) (hcm : xc ≤ 9223372036854775807) (hl : xn ≤ 60000) (R : List Bd × Int × List Int) (hR : outS c L (whoP c.ou true l).1 (rdP l) l ti po = R) :
    Calls Tryz.prog 22 #[.pointer (some ⟨gn, 0, none⟩), .agg #[.bool true, .slice xA xn xc, .int .i64 ti, .int .i64 po]] w (AnsR w c gn pb fm np nf R.1 R.2.1 R.2.2) := by
  obtain ⟨ou, hou2⟩ : ∃ ou, ou = true := ⟨_, rfl⟩
  rw [← hou2] at hE hR ⊢
  have hfr := whoP_rng c.ou ou (fun x hx => inr_u8 (hr.rng x hx))
  have ko := fun W (hM : NatM W c gn pb fm np nf L) (hr : Rd .u8 W W.heap.size xA xn l) => out_any c gn pb fm np nf L ou xA xn xc ti po (whoP c.ou ou l).1 (rdP l) l W hM hc hou hfr ht hn1 hn2 hou2 hr hlc hcm hl
  rw [hR] at ko
  clear hR
  obtain ⟨L', E', X'⟩ := R
  unfold AnsR at ko
  simp only at ko
  subst hou2
  obtain ⟨ou, hou2⟩ : ∃ ou, ou = true := ⟨_, rfl⟩
  rw [← hou2] at ko hE hfr ⊢
  replace hou2 := Lib.hid hou2
  replace ko := Lib.hid ko
  have kr := fun W (hr : Rd .u8 W W.heap.size xA xn l) => read_any l xA xn xc W hr hlc hcm hl
  unfold ReadR at kr
  generalize rdE l = rE at *
  generalize hrdP : rdP l = p at *
  generalize rdH l = h at *
  obtain ⟨h0, h1, h2, h3, h4, h5⟩ := h
  obtain ⟨pr, sr, ds, fl, ki, co_, er, ⟨isz, i1, i2, i3, i4, i5⟩, pat, ba_⟩ := p
  replace hrdP := Lib.hid hrdP
  simp only [Hd.val, Pt.val] at kr
  replace kr := Lib.hid kr
  replace hE := Lib.hid hE
  have kw := fun W (hr : Rd .u8 W W.heap.size xA xn l) => Whose_any c.wk c.ou c.lo c.hi c.bk c.rg ou l xA xn xc W hr hlc hcm hl
  unfold WhoR at kw
  generalize hwho : whoP c.ou ou l = R at *
  obtain ⟨⟨f0, f1, f2⟩, EE⟩ := R
  simp only [Fl.cs] at kw
  replace kw := Lib.hid kw
  replace hwho := Lib.hid hwho
  have d1 : decide (ti < 0) = false := by simp; omega
  have d2 : decide (4294967295 < ti) = false := by simp; omega
  have hlt1 := hm.obj.lt
  have hlt2 := hm.pl.lt
  have hlt3 := hm.fl.lt
  go_enter Tryz.func22, Tryz.ntmps22
  go_upto_region 1 with fail
  have ss : SS w ((w.alloc (.cells #[.bool ou, .slice xA xn xc, .int .i64 ti, .int .i64 po] 57)).alloc (.cells #[.slice none 0 0, .int .i64 0] 55)) c gn pb fm np nf L #[.bool ou, .slice xA xn xc, .int .i64 ti, .int .i64 po] #[.slice none 0 0, .int .i64 0] := by
    have e1 : (w.alloc (.cells #[.bool ou, .slice xA xn xc, .int .i64 ti, .int .i64 po] 57)).heap.size = w.heap.size + 1 := by simp
    have b1 := Blk.new w 57 #[.bool ou, .slice xA xn xc, .int .i64 ti, .int .i64 po]
    have b2 := Blk.new (w.alloc (.cells #[.bool ou, .slice xA xn xc, .int .i64 ti, .int .i64 po] 57)) 55 #[.slice none 0 0, .int .i64 0]
    rw [e1] at b2
    exact ⟨(hm.alloc _).alloc _, b1.alloc _, b2, ((Upd.refl _ w).alloc _).alloc _⟩
  generalize (w.alloc (.cells #[.bool ou, .slice xA xn xc, .int .i64 ti, .int .i64 po] 57)).alloc (.cells #[.slice none 0 0, .int .i64 0] 55) = W at *
  have x2 := ss.bx.cell 2
  go_upto_region 3 with fail
  clear x2
  have z1 : ∀ w', (∃ t : Tw (Up W), w' = t.w) → ∀ j u, ([.int .i64 c.wk, .int .u32 c.ou, .int .i64 c.lo, .int .i64 c.hi, .int .i64 c.bk, .int .i64 c.rg] : List Value)[j]? = some u → w'.cell? ⟨gn, 0 + j, none⟩ = some u := fun w' ⟨t, ht⟩ j u hu => by
    rw [ht, Nat.zero_add, (ss.nm.obj.bel t.h).cell]
    match j with
    | 0 | 1 | 2 | 3 | 4 | 5 => exact hu
    | j + 6 => simp at hu
  have z2 : ∀ t : Tw (Up W), t.w.cell? ⟨w.heap.size, 0, none⟩ = some (.bool ou) := fun t => (ss.bx.bel t.h).cell 0
  have z3 : ∀ t : Tw (Up W), t.w.cell? ⟨w.heap.size, 1, none⟩ = some (.slice xA xn xc) := fun t => (ss.bx.bel t.h).cell 1
  have zz := Up.one W
  have hrW := rd_step hr hm (Nat.le_refl _) ss.up
  have hsW := ss.up.size
  refine wp_region_float (Up W) (.cells #[.int .i64 0, .int .u32 0, .int .u16 0] 32) W.heap.size (fun h => .pointer (some ⟨h, 0, none⟩)) 12 _ [(0, true), (1, true), (2, true), (3, true), (4, true), (5, true), (6, true), (7, true), (8, false), (9, true), (10, true), (11, true)] [(13, false), (14, true)] (by kernel_rfl) (by kernel_rfl) (by rfl) (by rfl) (by kernel_rfl) (by kernel_rfl) (Below.refl _ _).drew (fun w' h => Below.alloc h (Below.size h) _) (fun w' h => Below.size h) (by intro a w; simp [execOp, go_sem]) ?_
  refine wpFl_qs 8 _ _ _ (by kernel_rfl) (by kernel_rfl) (by simp) ?_
  unfold clsS
  simp only [List.take_succ_cons, List.take_zero, List.drop_succ_cons, List.drop_zero, List.filterMap_cons, List.filterMap_nil, List.getElem?_toArray, List.getElem?_cons_zero, List.getElem?_cons_succ]
  repeat (first
    | go_big_quiet_skip
    | (go_big_quiet_want; first | (refine quiet_ldAt rfl rfl z1 Tryz.underlying36 cf_size ?_; go_simp; go_big_quiet_on) | (go_big_quiet_op; go_big_quiet_on))
    | (refine id (?_ : wpQuiet _ _ _ _ (_ :: _) _); first | go_big_quiet_skip | (go_big_quiet_want; first | (refine quiet_ldAt rfl rfl z1 Tryz.underlying36 cf_size ?_; go_simp; go_big_quiet_on) | (go_big_quiet_op; go_big_quiet_on))))
  refine wpQuiet_nil ?_
  refine wpFl_e (fun _ => True) _ (by rfl) (by kernel_rfl) trivial (fun _ _ => trivial) (fun W1 _ hS1 K hK => ?_)
  go_simp
  refine (kw.out W1 ((hrW.below (Below.mono hS1 hsW)).more (Nat.le_trans hsW (Below.size hS1)))).mono ?_
  rintro e W2 ⟨rfl, hb2⟩
  refine hK _ _ (bel_after hS1 hb2) (KeepO.belM hb2) ?_
  clear hK K hb2 kw
  refine wpFl_qs 3 _ _ _ (by kernel_rfl) (by kernel_rfl) (by simp) ?_
  unfold clsS
  simp only [List.take_succ_cons, List.take_zero, List.drop_succ_cons, List.drop_zero, List.filterMap_cons, List.filterMap_nil, List.getElem?_toArray, List.getElem?_cons_zero, List.getElem?_cons_succ]
  repeat (first
    | go_big_quiet_skip
    | (go_big_quiet_want; go_big_quiet_op; go_big_quiet_on)
    | (refine id (?_ : wpQuiet _ _ _ _ (_ :: _) _); first | go_big_quiet_skip | (go_big_quiet_want; go_big_quiet_op; go_big_quiet_on)))
  refine wpQuiet_nil ?_
  unfold wpFl
  refine ⟨fun _ => True, trivial, fun _ _ => trivial, fun W3 gf _ hS3 hgf hbf => ?_⟩
  clear hS1
  replace hbf : Blk W3 gf 32 #[.int .i64 0, .int .u32 0, .int .u16 0] := hbf
  go_simp
  refine wpPl_e _ (by rfl) (by kernel_rfl) (fun K hK => ?_)
  refine wp_stRow rfl rfl rfl rfl hbf fl_size rfl (by simp [Value.oneCell']) ?_
  have bf := hbf.setRow #[.int .i64 f0, .int .u32 f1, .int .u16 f2]
  have hS4 := below_setRow hS3 hgf #[.int .i64 f0, .int .u32 f1, .int .u16 f2]
  refine hK _ _ hS4 ?_
  clear hK K hbf hS3 z1 z2 z3 zz
  refine wpPl_qs 1 _ _ _ (by kernel_rfl) (by kernel_rfl) (by simp) ?_
  unfold clsS
  simp only [List.take_succ_cons, List.take_zero, List.drop_succ_cons, List.drop_zero, List.filterMap_cons, List.filterMap_nil, List.getElem?_toArray, List.getElem?_cons_zero, List.getElem?_cons_succ]
  repeat (first
    | go_big_quiet_skip
    | (go_big_quiet_want; go_big_quiet_op; go_big_quiet_on)
    | (refine id (?_ : wpQuiet _ _ _ _ (_ :: _) _); first | go_big_quiet_skip | (go_big_quiet_want; go_big_quiet_op; go_big_quiet_on)))
  refine wpQuiet_nil ?_
  unfold wpPl
  refine NoPanic.normal ?_
  replace ss := ss.bel_ hS4
  clear hS4 hrW
  generalize W3.setRow gf #[.int .i64 f0, .int .u32 f1, .int .u16 f2] = W4 at *
  replace hE : EE = 0 := hE.out
  subst hE
  have x1 := ss.bx.cell 1
  go_wp2_with fail
  refine (kr.out W4 ((rd_step hr hm (Nat.le_refl _) ss.up).more ss.up.size)).mono ?_
  rintro e W5 ⟨rfl, hb5⟩
  replace ss := ss.bel_ hb5
  replace bf := bf.bel hb5
  clear hb5 kr x1
  have bh1 := (Blk.new W5 105 #[.int .i64 0, .int .i64 0, .int .i64 0, .int .i64 0, .int .u32 0, .int .u32 0]).alloc (.cells #[.int .i64 0, .int .u16 0, .int .u16 0, .int .i64 0, .int .i64 0, .int .i64 0, .bool false, .int .i64 0, .int .i64 0, .int .i64 0, .int .i64 0, .int .u32 0, .int .u32 0, .int .i64 0, .bool false] 107)
  have bp1 := Blk.new (W5.alloc (.cells #[.int .i64 0, .int .i64 0, .int .i64 0, .int .i64 0, .int .u32 0, .int .u32 0] 105)) 107 #[.int .i64 0, .int .u16 0, .int .u16 0, .int .i64 0, .int .i64 0, .int .i64 0, .bool false, .int .i64 0, .int .i64 0, .int .i64 0, .int .i64 0, .int .u32 0, .int .u32 0, .int .i64 0, .bool false]
  rw [show (W5.alloc (.cells #[.int .i64 0, .int .i64 0, .int .i64 0, .int .i64 0, .int .u32 0, .int .u32 0] 105)).heap.size = W5.heap.size + 1 by simp] at bp1
  replace bp1 := bp1.setRow_far (g' := W5.heap.size) (by omega) #[.int .i64 h0, .int .i64 h1, .int .i64 h2, .int .i64 h3, .int .u32 h4, .int .u32 h5]
  have bp := bp1.setRow #[.int .i64 pr, .int .u16 sr, .int .u16 ds, .int .i64 fl, .int .i64 ki, .int .i64 co_, .bool er, .int .i64 isz, .int .i64 i1, .int .i64 i2, .int .i64 i3, .int .u32 i4, .int .u32 i5, .int .i64 pat, .bool ba_]
  have hb6 : Below W5.heap.size W5 ((((W5.alloc (.cells #[.int .i64 0, .int .i64 0, .int .i64 0, .int .i64 0, .int .u32 0, .int .u32 0] 105)).alloc (.cells #[.int .i64 0, .int .u16 0, .int .u16 0, .int .i64 0, .int .i64 0, .int .i64 0, .bool false, .int .i64 0, .int .i64 0, .int .i64 0, .int .i64 0, .int .u32 0, .int .u32 0, .int .i64 0, .bool false] 107)).setRow W5.heap.size #[.int .i64 h0, .int .i64 h1, .int .i64 h2, .int .i64 h3, .int .u32 h4, .int .u32 h5]).setRow (W5.heap.size + 1) #[.int .i64 pr, .int .u16 sr, .int .u16 ds, .int .i64 fl, .int .i64 ki, .int .i64 co_, .bool er, .int .i64 isz, .int .i64 i1, .int .i64 i2, .int .i64 i3, .int .u32 i4, .int .u32 i5, .int .i64 pat, .bool ba_]) := below_setRow (g := W5.heap.size + 1) (below_setRow (((bel_alloc W5 (.cells #[.int .i64 0, .int .i64 0, .int .i64 0, .int .i64 0, .int .u32 0, .int .u32 0] 105)).alloc (by simp) (.cells #[.int .i64 0, .int .u16 0, .int .u16 0, .int .i64 0, .int .i64 0, .int .i64 0, .bool false, .int .i64 0, .int .i64 0, .int .i64 0, .int .i64 0, .int .u32 0, .int .u32 0, .int .i64 0, .bool false] 107))) (Nat.le_refl _) #[.int .i64 h0, .int .i64 h1, .int .i64 h2, .int .i64 h3, .int .u32 h4, .int .u32 h5]) (by omega) #[.int .i64 pr, .int .u16 sr, .int .u16 ds, .int .i64 fl, .int .i64 ki, .int .i64 co_, .bool er, .int .i64 isz, .int .i64 i1, .int .i64 i2, .int .i64 i3, .int .u32 i4, .int .u32 i5, .int .i64 pat, .bool ba_]
  replace ss := ss.bel_ hb6
  replace bf := bf.bel hb6
  clear hb6
  go_upto_region 7 with (first | (refine wpList_stRow rfl rfl rfl rfl rfl bh1 hd_size rfl (by simp [Value.oneCell']) ?_) | (refine wpList_stRow rfl rfl rfl rfl rfl bp1 pt_size rfl (by simp [Value.oneCell']) ?_; generalize (((W5.alloc (.cells #[.int .i64 0, .int .i64 0, .int .i64 0, .int .i64 0, .int .u32 0, .int .u32 0] 105)).alloc (.cells #[.int .i64 0, .int .u16 0, .int .u16 0, .int .i64 0, .int .i64 0, .int .i64 0, .bool false, .int .i64 0, .int .i64 0, .int .i64 0, .int .i64 0, .int .u32 0, .int .u32 0, .int .i64 0, .bool false] 107)).setRow W5.heap.size #[.int .i64 h0, .int .i64 h1, .int .i64 h2, .int .i64 h3, .int .u32 h4, .int .u32 h5]).setRow (W5.heap.size + 1) #[.int .i64 pr, .int .u16 sr, .int .u16 ds, .int .i64 fl, .int .i64 ki, .int .i64 co_, .bool er, .int .i64 isz, .int .i64 i1, .int .i64 i2, .int .i64 i3, .int .u32 i4, .int .u32 i5, .int .i64 pat, .bool ba_] = W6 at *; generalize W5.heap.size = gh at *; clear bh1 bp1))
  replace hou2 : ou = true := hou2.out
  subst hou2
  have ko2 := ko.out W6 ss.nm ((rd_step hr hm (Nat.le_refl _) ss.up).more ss.up.size)
  simp only [Pt.val, Fl.cs] at ko2
  replace ko2 := Lib.hid ko2
  have bx := ss.bx
  have x0 := bx.cell 0
  go_wp2_with (first
    | (refine wpList_ldRow rfl rfl rfl bx Tryz.underlying57 ml_size ?_)
    | (refine wpList_ldRow rfl rfl rfl bf Tryz.underlying32 fl_size ?_)
    | (refine wpList_ldRow rfl rfl rfl bp Tryz.underlying107 pt_size ?_))
  refine ko2.out.mono ?_
  rintro e W7 ⟨v, np', nf', rfl, own, hM7, hn3, hn4, hup⟩
  clear ko ko2 bx x0
  have hs7 := ss.up.size
  replace ss := ss.step hM7 hup
  replace own := Own.lower own hs7
  obtain ⟨vA, vc, rfl, _⟩ := own.form rfl
  have ba := ss.ba
  replace own := Own.updne own ba (by decide) (Upd.row' W7 (w.heap.size + 1) #[.slice vA X'.length vc, .int .i64 E'])
  go_wp2_with (refine wpList_stRow rfl rfl rfl rfl rfl ba an_size rfl (by simp [Value.oneCell']) ?_)
  have ss2 := ss.ans hlt1 hlt2 hlt3 #[.slice vA X'.length vc, .int .i64 E']
  exact bodyPost_ret (results_row rfl _ rfl ss2.ba Tryz.underlying55 an_size) rfl ⟨_, _, _, rfl, own, ss2.nm, hn3, hn4, ss2.up⟩
end Go.Proofs.YtbckoohljkmahaaGreat
namespace Go.Proofs.YtbckoohljkmahaaGreat
set_option linter.unusedVariables false
set_option linter.unusedSimpArgs false
open Go.RowKit Go.Maps
-- what is read
set_option maxRecDepth 100000 in
set_option maxHeartbeats 8000000 in
theorem Step_none (c : Cf) (gn pb fm np nf : Nat) (L : List Bd) (xA : Option Addr) (xn xc : Nat) (ti po : Int) (l : List Int) (w : World) (hm : NatM w c gn pb fm np nf L) (hc : c.ok) (ht : 0 ≤ ti ∧ ti ≤ 4294967295) (hE : (whoP c.ou false l).2 = 0)
    (hr : Rd .u8 w w.heap.size xA xn l) (hlc : xn ≤ xc) (hcm : xc ≤ 9223372036854775807) (hl : xn ≤ 60000) (hat : atB c (placeP c (whoP c.ou false l).1.pr (whoP c.ou false l).1.po) L = none) :
    Calls Tryz.prog 22 #[.pointer (some ⟨gn, 0, none⟩), .agg #[.bool false, .slice xA xn xc, .int .i64 ti, .int .i64 po]] w (AnsR w c gn pb fm np nf L 7 []) := by
  have hfr := whoP_rng c.ou false (fun x hx => inr_u8 (hr.rng x hx))
  obtain ⟨ou, hou2⟩ : ∃ ou, ou = false := ⟨_, rfl⟩
  rw [← hou2] at hE hfr hat ⊢
  replace hou2 := Lib.hid hou2
  replace hfr := Lib.hid hfr
  replace hat := Lib.hid hat
  have kr := fun W (hr : Rd .u8 W W.heap.size xA xn l) => read_any l xA xn xc W hr hlc hcm hl
  unfold ReadR at kr
  generalize rdE l = rE at *
  generalize hrdP : rdP l = p at *
  generalize rdH l = h at *
  obtain ⟨h0, h1, h2, h3, h4, h5⟩ := h
  obtain ⟨pr, sr, ds, fl, ki, co_, er, ⟨isz, i1, i2, i3, i4, i5⟩, pat, ba_⟩ := p
  replace hrdP := Lib.hid hrdP
  simp only [Hd.val, Pt.val] at kr
  replace kr := Lib.hid kr
  replace hE := Lib.hid hE
  have kw := fun W (hr : Rd .u8 W W.heap.size xA xn l) => Whose_any c.wk c.ou c.lo c.hi c.bk c.rg ou l xA xn xc W hr hlc hcm hl
  unfold WhoR at kw
  generalize hwho : whoP c.ou ou l = R at *
  obtain ⟨⟨f0, f1, f2⟩, EE⟩ := R
  simp only [Fl.cs] at kw
  replace kw := Lib.hid kw
  replace hwho := Lib.hid hwho
  have d1 : decide (ti < 0) = false := by simp; omega
  have d2 : decide (4294967295 < ti) = false := by simp; omega
  have hlt1 := hm.obj.lt
  have hlt2 := hm.pl.lt
  have hlt3 := hm.fl.lt
  go_enter Tryz.func22, Tryz.ntmps22
  go_upto_region 1 with fail
  have ss : SS w ((w.alloc (.cells #[.bool ou, .slice xA xn xc, .int .i64 ti, .int .i64 po] 57)).alloc (.cells #[.slice none 0 0, .int .i64 0] 55)) c gn pb fm np nf L #[.bool ou, .slice xA xn xc, .int .i64 ti, .int .i64 po] #[.slice none 0 0, .int .i64 0] := by
    have e1 : (w.alloc (.cells #[.bool ou, .slice xA xn xc, .int .i64 ti, .int .i64 po] 57)).heap.size = w.heap.size + 1 := by simp
    have b1 := Blk.new w 57 #[.bool ou, .slice xA xn xc, .int .i64 ti, .int .i64 po]
    have b2 := Blk.new (w.alloc (.cells #[.bool ou, .slice xA xn xc, .int .i64 ti, .int .i64 po] 57)) 55 #[.slice none 0 0, .int .i64 0]
    rw [e1] at b2
    exact ⟨(hm.alloc _).alloc _, b1.alloc _, b2, ((Upd.refl _ w).alloc _).alloc _⟩
  generalize (w.alloc (.cells #[.bool ou, .slice xA xn xc, .int .i64 ti, .int .i64 po] 57)).alloc (.cells #[.slice none 0 0, .int .i64 0] 55) = W at *
  have x2 := ss.bx.cell 2
  go_upto_region 3 with fail
  clear x2
  have z1 : ∀ w', (∃ t : Tw (Up W), w' = t.w) → ∀ j u, ([.int .i64 c.wk, .int .u32 c.ou, .int .i64 c.lo, .int .i64 c.hi, .int .i64 c.bk, .int .i64 c.rg] : List Value)[j]? = some u → w'.cell? ⟨gn, 0 + j, none⟩ = some u := fun w' ⟨t, ht⟩ j u hu => by
    rw [ht, Nat.zero_add, (ss.nm.obj.bel t.h).cell]
    match j with
    | 0 | 1 | 2 | 3 | 4 | 5 => exact hu
    | j + 6 => simp at hu
  have z2 : ∀ t : Tw (Up W), t.w.cell? ⟨w.heap.size, 0, none⟩ = some (.bool ou) := fun t => (ss.bx.bel t.h).cell 0
  have z3 : ∀ t : Tw (Up W), t.w.cell? ⟨w.heap.size, 1, none⟩ = some (.slice xA xn xc) := fun t => (ss.bx.bel t.h).cell 1
  have zz := Up.one W
  have hrW := rd_step hr hm (Nat.le_refl _) ss.up
  have hsW := ss.up.size
  refine wp_region_float (Up W) (.cells #[.int .i64 0, .int .u32 0, .int .u16 0] 32) W.heap.size (fun h => .pointer (some ⟨h, 0, none⟩)) 12 _ [(0, true), (1, true), (2, true), (3, true), (4, true), (5, true), (6, true), (7, true), (8, false), (9, true), (10, true), (11, true)] [(13, false), (14, true)] (by kernel_rfl) (by kernel_rfl) (by rfl) (by rfl) (by kernel_rfl) (by kernel_rfl) (Below.refl _ _).drew (fun w' h => Below.alloc h (Below.size h) _) (fun w' h => Below.size h) (by intro a w; simp [execOp, go_sem]) ?_
  refine wpFl_qs 8 _ _ _ (by kernel_rfl) (by kernel_rfl) (by simp) ?_
  unfold clsS
  simp only [List.take_succ_cons, List.take_zero, List.drop_succ_cons, List.drop_zero, List.filterMap_cons, List.filterMap_nil, List.getElem?_toArray, List.getElem?_cons_zero, List.getElem?_cons_succ]
  repeat (first
    | go_big_quiet_skip
    | (go_big_quiet_want; first | (refine quiet_ldAt rfl rfl z1 Tryz.underlying36 cf_size ?_; go_simp; go_big_quiet_on) | (go_big_quiet_op; go_big_quiet_on))
    | (refine id (?_ : wpQuiet _ _ _ _ (_ :: _) _); first | go_big_quiet_skip | (go_big_quiet_want; first | (refine quiet_ldAt rfl rfl z1 Tryz.underlying36 cf_size ?_; go_simp; go_big_quiet_on) | (go_big_quiet_op; go_big_quiet_on))))
  refine wpQuiet_nil ?_
  refine wpFl_e (fun _ => True) _ (by rfl) (by kernel_rfl) trivial (fun _ _ => trivial) (fun W1 _ hS1 K hK => ?_)
  go_simp
  refine (kw.out W1 ((hrW.below (Below.mono hS1 hsW)).more (Nat.le_trans hsW (Below.size hS1)))).mono ?_
  rintro e W2 ⟨rfl, hb2⟩
  refine hK _ _ (bel_after hS1 hb2) (KeepO.belM hb2) ?_
  clear hK K hb2 kw
  refine wpFl_qs 3 _ _ _ (by kernel_rfl) (by kernel_rfl) (by simp) ?_
  unfold clsS
  simp only [List.take_succ_cons, List.take_zero, List.drop_succ_cons, List.drop_zero, List.filterMap_cons, List.filterMap_nil, List.getElem?_toArray, List.getElem?_cons_zero, List.getElem?_cons_succ]
  repeat (first
    | go_big_quiet_skip
    | (go_big_quiet_want; go_big_quiet_op; go_big_quiet_on)
    | (refine id (?_ : wpQuiet _ _ _ _ (_ :: _) _); first | go_big_quiet_skip | (go_big_quiet_want; go_big_quiet_op; go_big_quiet_on)))
  refine wpQuiet_nil ?_
  unfold wpFl
  refine ⟨fun _ => True, trivial, fun _ _ => trivial, fun W3 gf _ hS3 hgf hbf => ?_⟩
  clear hS1
  replace hbf : Blk W3 gf 32 #[.int .i64 0, .int .u32 0, .int .u16 0] := hbf
  go_simp
  refine wpPl_e _ (by rfl) (by kernel_rfl) (fun K hK => ?_)
  refine wp_stRow rfl rfl rfl rfl hbf fl_size rfl (by simp [Value.oneCell']) ?_
  have bf := hbf.setRow #[.int .i64 f0, .int .u32 f1, .int .u16 f2]
  have hS4 := below_setRow hS3 hgf #[.int .i64 f0, .int .u32 f1, .int .u16 f2]
  refine hK _ _ hS4 ?_
  clear hK K hbf hS3 z1 z2 z3 zz
  refine wpPl_qs 1 _ _ _ (by kernel_rfl) (by kernel_rfl) (by simp) ?_
  unfold clsS
  simp only [List.take_succ_cons, List.take_zero, List.drop_succ_cons, List.drop_zero, List.filterMap_cons, List.filterMap_nil, List.getElem?_toArray, List.getElem?_cons_zero, List.getElem?_cons_succ]
  repeat (first
    | go_big_quiet_skip
    | (go_big_quiet_want; go_big_quiet_op; go_big_quiet_on)
    | (refine id (?_ : wpQuiet _ _ _ _ (_ :: _) _); first | go_big_quiet_skip | (go_big_quiet_want; go_big_quiet_op; go_big_quiet_on)))
  refine wpQuiet_nil ?_
  unfold wpPl
  refine NoPanic.normal ?_
  replace ss := ss.bel_ hS4
  clear hS4 hrW
  generalize W3.setRow gf #[.int .i64 f0, .int .u32 f1, .int .u16 f2] = W4 at *
  replace hE : EE = 0 := hE.out
  subst hE
  have x1 := ss.bx.cell 1
  go_wp2_with fail
  refine (kr.out W4 ((rd_step hr hm (Nat.le_refl _) ss.up).more ss.up.size)).mono ?_
  rintro e W5 ⟨rfl, hb5⟩
  replace ss := ss.bel_ hb5
  replace bf := bf.bel hb5
  clear hb5 kr x1
  have bh1 := (Blk.new W5 105 #[.int .i64 0, .int .i64 0, .int .i64 0, .int .i64 0, .int .u32 0, .int .u32 0]).alloc (.cells #[.int .i64 0, .int .u16 0, .int .u16 0, .int .i64 0, .int .i64 0, .int .i64 0, .bool false, .int .i64 0, .int .i64 0, .int .i64 0, .int .i64 0, .int .u32 0, .int .u32 0, .int .i64 0, .bool false] 107)
  have bp1 := Blk.new (W5.alloc (.cells #[.int .i64 0, .int .i64 0, .int .i64 0, .int .i64 0, .int .u32 0, .int .u32 0] 105)) 107 #[.int .i64 0, .int .u16 0, .int .u16 0, .int .i64 0, .int .i64 0, .int .i64 0, .bool false, .int .i64 0, .int .i64 0, .int .i64 0, .int .i64 0, .int .u32 0, .int .u32 0, .int .i64 0, .bool false]
  rw [show (W5.alloc (.cells #[.int .i64 0, .int .i64 0, .int .i64 0, .int .i64 0, .int .u32 0, .int .u32 0] 105)).heap.size = W5.heap.size + 1 by simp] at bp1
  replace bp1 := bp1.setRow_far (g' := W5.heap.size) (by omega) #[.int .i64 h0, .int .i64 h1, .int .i64 h2, .int .i64 h3, .int .u32 h4, .int .u32 h5]
  have bp := bp1.setRow #[.int .i64 pr, .int .u16 sr, .int .u16 ds, .int .i64 fl, .int .i64 ki, .int .i64 co_, .bool er, .int .i64 isz, .int .i64 i1, .int .i64 i2, .int .i64 i3, .int .u32 i4, .int .u32 i5, .int .i64 pat, .bool ba_]
  have hb6 : Below W5.heap.size W5 ((((W5.alloc (.cells #[.int .i64 0, .int .i64 0, .int .i64 0, .int .i64 0, .int .u32 0, .int .u32 0] 105)).alloc (.cells #[.int .i64 0, .int .u16 0, .int .u16 0, .int .i64 0, .int .i64 0, .int .i64 0, .bool false, .int .i64 0, .int .i64 0, .int .i64 0, .int .i64 0, .int .u32 0, .int .u32 0, .int .i64 0, .bool false] 107)).setRow W5.heap.size #[.int .i64 h0, .int .i64 h1, .int .i64 h2, .int .i64 h3, .int .u32 h4, .int .u32 h5]).setRow (W5.heap.size + 1) #[.int .i64 pr, .int .u16 sr, .int .u16 ds, .int .i64 fl, .int .i64 ki, .int .i64 co_, .bool er, .int .i64 isz, .int .i64 i1, .int .i64 i2, .int .i64 i3, .int .u32 i4, .int .u32 i5, .int .i64 pat, .bool ba_]) := below_setRow (g := W5.heap.size + 1) (below_setRow (((bel_alloc W5 (.cells #[.int .i64 0, .int .i64 0, .int .i64 0, .int .i64 0, .int .u32 0, .int .u32 0] 105)).alloc (by simp) (.cells #[.int .i64 0, .int .u16 0, .int .u16 0, .int .i64 0, .int .i64 0, .int .i64 0, .bool false, .int .i64 0, .int .i64 0, .int .i64 0, .int .i64 0, .int .u32 0, .int .u32 0, .int .i64 0, .bool false] 107))) (Nat.le_refl _) #[.int .i64 h0, .int .i64 h1, .int .i64 h2, .int .i64 h3, .int .u32 h4, .int .u32 h5]) (by omega) #[.int .i64 pr, .int .u16 sr, .int .u16 ds, .int .i64 fl, .int .i64 ki, .int .i64 co_, .bool er, .int .i64 isz, .int .i64 i1, .int .i64 i2, .int .i64 i3, .int .u32 i4, .int .u32 i5, .int .i64 pat, .bool ba_]
  replace ss := ss.bel_ hb6
  replace bf := bf.bel hb6
  clear hb6
  go_upto_region 7 with (first | (refine wpList_stRow rfl rfl rfl rfl rfl bh1 hd_size rfl (by simp [Value.oneCell']) ?_) | (refine wpList_stRow rfl rfl rfl rfl rfl bp1 pt_size rfl (by simp [Value.oneCell']) ?_; generalize (((W5.alloc (.cells #[.int .i64 0, .int .i64 0, .int .i64 0, .int .i64 0, .int .u32 0, .int .u32 0] 105)).alloc (.cells #[.int .i64 0, .int .u16 0, .int .u16 0, .int .i64 0, .int .i64 0, .int .i64 0, .bool false, .int .i64 0, .int .i64 0, .int .i64 0, .int .i64 0, .int .u32 0, .int .u32 0, .int .i64 0, .bool false] 107)).setRow W5.heap.size #[.int .i64 h0, .int .i64 h1, .int .i64 h2, .int .i64 h3, .int .u32 h4, .int .u32 h5]).setRow (W5.heap.size + 1) #[.int .i64 pr, .int .u16 sr, .int .u16 ds, .int .i64 fl, .int .i64 ki, .int .i64 co_, .bool er, .int .i64 isz, .int .i64 i1, .int .i64 i2, .int .i64 i3, .int .u32 i4, .int .u32 i5, .int .i64 pat, .bool ba_] = W6 at *; generalize W5.heap.size = gh at *; clear bh1 bp1))
  replace hou2 : ou = false := hou2.out
  subst hou2
  obtain ⟨PL, hPL⟩ : ∃ PL, placeP c f0 f2 = PL := ⟨_, rfl⟩
  have kp := fun W => Place_ok c f0 f2 W hc
  have hkr := placeP_rng hc f0 f2
  replace hat := hat.out
  rw [hPL] at kp hkr hat
  replace hPL := Lib.hid hPL
  replace kp := Lib.hid kp
  replace hat := Lib.hid hat
  have hw : IntKind.i64.wrap f2 = f2 := by have := inr_u16 hfr.out.2.2; simp only at this; simp [IntKind.wrap, IntKind.bits, IntKind.signed]; omega
  have x0 := ss.bx.cell 0
  go_upto_region 9 with fail
  clear x0
  have z1 : ∀ w', (∃ t : Tw (Up W6), w' = t.w) → ∀ j u, ([.int .i64 c.wk, .int .u32 c.ou, .int .i64 c.lo, .int .i64 c.hi, .int .i64 c.bk, .int .i64 c.rg] : List Value)[j]? = some u → w'.cell? ⟨gn, 0 + j, none⟩ = some u := fun w' ⟨t, ht⟩ j u hu => by
    rw [ht, Nat.zero_add, (ss.nm.obj.bel t.h).cell]
    match j with
    | 0 | 1 | 2 | 3 | 4 | 5 => exact hu
    | j + 6 => simp at hu
  have z2 : ∀ t : Tw (Up W6), t.w.cell? ⟨gf, 0, none⟩ = some (.int .i64 f0) := fun t => (bf.bel t.h).cell 0
  have z3 : ∀ t : Tw (Up W6), t.w.cell? ⟨gf, 2, none⟩ = some (.int .u16 f2) := fun t => (bf.bel t.h).cell 2
  have zz := Up.one W6
  refine wp_region_plan (Up W6) [(0, true), (1, true), (2, true), (3, true), (4, true), (5, true), (6, true), (7, true), (8, true), (9, false), (10, true)] (by kernel_rfl) (by kernel_rfl) (by kernel_rfl) (by kernel_rfl) (Below.refl _ _).drew ?_
  refine wpPl_qs 9 _ _ _ (by kernel_rfl) (by kernel_rfl) (by simp) ?_
  unfold clsS
  simp only [List.take_succ_cons, List.take_zero, List.drop_succ_cons, List.drop_zero, List.filterMap_cons, List.filterMap_nil, List.getElem?_toArray, List.getElem?_cons_zero, List.getElem?_cons_succ]
  repeat (first
    | go_big_quiet_skip
    | (go_big_quiet_want; first | (refine quiet_ldAt rfl rfl z1 Tryz.underlying36 cf_size ?_; go_simp; go_big_quiet_on) | (go_big_quiet_op; go_big_quiet_on))
    | (refine id (?_ : wpQuiet _ _ _ _ (_ :: _) _); first | go_big_quiet_skip | (go_big_quiet_want; first | (refine quiet_ldAt rfl rfl z1 Tryz.underlying36 cf_size ?_; go_simp; go_big_quiet_on) | (go_big_quiet_op; go_big_quiet_on))))
  refine wpQuiet_nil ?_
  refine wpPl_e _ (by rfl) (by kernel_rfl) (fun K hK => ?_)
  go_simp
  refine (kp.out _).mono ?_
  rintro e W7 ⟨rfl, hb7⟩
  have hup7 : Below W6.heap.size W6 W7 := bel_after (Below.refl _ _).drew hb7
  refine hK _ _ hup7 ?_
  clear hK K hb7 kp
  refine wpPl_qs 1 _ _ _ (by kernel_rfl) (by kernel_rfl) (by simp) ?_
  unfold clsS
  simp only [List.take_succ_cons, List.take_zero, List.drop_succ_cons, List.drop_zero, List.filterMap_cons, List.filterMap_nil, List.getElem?_toArray, List.getElem?_cons_zero, List.getElem?_cons_succ]
  repeat (first
    | go_big_quiet_skip
    | (go_big_quiet_want; go_big_quiet_op; go_big_quiet_on)
    | (refine id (?_ : wpQuiet _ _ _ _ (_ :: _) _); first | go_big_quiet_skip | (go_big_quiet_want; go_big_quiet_op; go_big_quiet_on)))
  refine wpQuiet_nil ?_
  unfold wpPl
  refine NoPanic.normal ?_
  clear z1 z2 z3 zz hw
  replace ss := ss.bel_ hup7
  replace bf := bf.bel hup7
  replace bp := bp.bel hup7
  clear hup7
  have hlook := ss.nm.pl.look hkr
  have q6 := ss.nm.obj.cell 6
  rw [hat.out] at hlook
  simp only [lookB] at hlook
  have ss2 := ss.bel_ (below_setRow (bel_alloc W7 (.cells #[.int .i64 0, .int .u32 0, .int .u16 0, .int .i64 0, .int .i64 0, .int .i64 0] 63)) (Nat.le_refl _) #[.int .i64 0, .int .u32 0, .int .u16 0, .int .i64 0, .int .i64 0, .int .i64 0])
  go_upto_region 12 with (first
    | (refine wpList_look rfl rfl rfl rfl hlook ?_)
    | (refine wpList_stRow rfl rfl rfl rfl rfl (Blk.new W7 _ _) bd_size rfl (by simp [Value.oneCell']) ?_; generalize (W7.alloc (.cells #[.int .i64 0, .int .u32 0, .int .u16 0, .int .i64 0, .int .i64 0, .int .i64 0] 63)).setRow W7.heap.size #[.int .i64 0, .int .u32 0, .int .u16 0, .int .i64 0, .int .i64 0, .int .i64 0] = W8 at *; generalize W7.heap.size = gb at *))
  clear ss hlook q6
  have ss := ss2
  clear ss2
  have ba := ss.ba
  go_wp2_with (refine wpList_stRow rfl rfl rfl rfl rfl ba an_size rfl (by simp [Value.oneCell']) ?_)
  have ss2 := ss.ans hlt1 hlt2 hlt3 #[.slice none 0 0, .int .i64 7]
  exact bodyPost_ret (results_row rfl _ rfl ss2.ba Tryz.underlying55 an_size) rfl ⟨_, _, _, rfl, Own.nil _ _ _ _, ss2.nm, Nat.le_succ _, Nat.le_succ _, ss2.up⟩
set_option maxRecDepth 100000 in
set_option maxHeartbeats 8000000 in
theorem Step_some (c : Cf) (gn pb fm np nf np2 : Nat) (L L2 : List Bd) (b : Bd) (xA : Option Addr) (xn xc : Nat) (ti po : Int) (l : List Int) (w : World) (hm : NatM w c gn pb fm np nf L) (hc : c.ok) (ht : 0 ≤ ti ∧ ti ≤ 4294967295) (hE : (whoP c.ou false l).2 = 0)
    (hr : Rd .u8 w w.heap.size xA xn l) (hlc : xn ≤ xc) (hcm : xc ≤ 9223372036854775807) (hl : xn ≤ 60000) (hat : atB c (placeP c (whoP c.ou false l).1.pr (whoP c.ou false l).1.po) L = some b) (hbr : b.fl.rng) (hnp : np2 ≤ np + 1)
    (ks : ∀ W, NatM W c gn pb fm np nf L → Calls Tryz.prog 49 #[.pointer (some ⟨gn, 0, none⟩), .int .i64 (placeP c (whoP c.ou false l).1.pr (whoP c.ou false l).1.po), .agg #[.bool false, .slice xA xn xc, .int .i64 ti, .int .i64 po], (rdP l).val] W (SeenR W c gn pb fm np2 nf L2)) :
    Calls Tryz.prog 22 #[.pointer (some ⟨gn, 0, none⟩), .agg #[.bool false, .slice xA xn xc, .int .i64 ti, .int .i64 po]] w (AnsR w c gn pb fm np nf L2 (rwE l) (rwL l false b.fl.ad b.fl.po)) := by
  have hfr := whoP_rng c.ou false (fun x hx => inr_u8 (hr.rng x hx))
  have hnil := rwL_nil l false b.fl.ad b.fl.po
  have kri := fun W (hr : Rd .u8 W w.heap.size xA xn l) (hB : w.heap.size ≤ W.heap.size) => RwIn_any l xA xn xc w.heap.size b.fl.ad b.fl.po W hr hB hlc hcm hl (inr_u32 hbr.2.1) (inr_u16 hbr.2.2)
  generalize rwE l = E at *
  generalize rwL l false b.fl.ad b.fl.po = X at *
  obtain ⟨⟨b0, b1, b2⟩, b3, b4, b5⟩ := b
  simp only at kri
  obtain ⟨ou, hou2⟩ : ∃ ou, ou = false := ⟨_, rfl⟩
  rw [← hou2] at hE hfr hat ks ⊢
  replace hou2 := Lib.hid hou2
  replace hfr := Lib.hid hfr
  replace hat := Lib.hid hat
  replace hnil := Lib.hid hnil
  replace kri := Lib.hid kri
  replace ks := Lib.hid ks
  have kr := fun W (hr : Rd .u8 W W.heap.size xA xn l) => read_any l xA xn xc W hr hlc hcm hl
  unfold ReadR at kr
  generalize rdE l = rE at *
  generalize hrdP : rdP l = p at *
  generalize rdH l = h at *
  obtain ⟨h0, h1, h2, h3, h4, h5⟩ := h
  obtain ⟨pr, sr, ds, fl, ki, co_, er, ⟨isz, i1, i2, i3, i4, i5⟩, pat, ba_⟩ := p
  replace hrdP := Lib.hid hrdP
  simp only [Hd.val, Pt.val] at kr
  replace kr := Lib.hid kr
  replace hE := Lib.hid hE
  have kw := fun W (hr : Rd .u8 W W.heap.size xA xn l) => Whose_any c.wk c.ou c.lo c.hi c.bk c.rg ou l xA xn xc W hr hlc hcm hl
  unfold WhoR at kw
  generalize hwho : whoP c.ou ou l = R at *
  obtain ⟨⟨f0, f1, f2⟩, EE⟩ := R
  simp only [Fl.cs] at kw
  replace kw := Lib.hid kw
  replace hwho := Lib.hid hwho
  have d1 : decide (ti < 0) = false := by simp; omega
  have d2 : decide (4294967295 < ti) = false := by simp; omega
  have hlt1 := hm.obj.lt
  have hlt2 := hm.pl.lt
  have hlt3 := hm.fl.lt
  go_enter Tryz.func22, Tryz.ntmps22
  go_upto_region 1 with fail
  have ss : SS w ((w.alloc (.cells #[.bool ou, .slice xA xn xc, .int .i64 ti, .int .i64 po] 57)).alloc (.cells #[.slice none 0 0, .int .i64 0] 55)) c gn pb fm np nf L #[.bool ou, .slice xA xn xc, .int .i64 ti, .int .i64 po] #[.slice none 0 0, .int .i64 0] := by
    have e1 : (w.alloc (.cells #[.bool ou, .slice xA xn xc, .int .i64 ti, .int .i64 po] 57)).heap.size = w.heap.size + 1 := by simp
    have b1 := Blk.new w 57 #[.bool ou, .slice xA xn xc, .int .i64 ti, .int .i64 po]
    have b2 := Blk.new (w.alloc (.cells #[.bool ou, .slice xA xn xc, .int .i64 ti, .int .i64 po] 57)) 55 #[.slice none 0 0, .int .i64 0]
    rw [e1] at b2
    exact ⟨(hm.alloc _).alloc _, b1.alloc _, b2, ((Upd.refl _ w).alloc _).alloc _⟩
  generalize (w.alloc (.cells #[.bool ou, .slice xA xn xc, .int .i64 ti, .int .i64 po] 57)).alloc (.cells #[.slice none 0 0, .int .i64 0] 55) = W at *
  have x2 := ss.bx.cell 2
  go_upto_region 3 with fail
  clear x2
  have z1 : ∀ w', (∃ t : Tw (Up W), w' = t.w) → ∀ j u, ([.int .i64 c.wk, .int .u32 c.ou, .int .i64 c.lo, .int .i64 c.hi, .int .i64 c.bk, .int .i64 c.rg] : List Value)[j]? = some u → w'.cell? ⟨gn, 0 + j, none⟩ = some u := fun w' ⟨t, ht⟩ j u hu => by
    rw [ht, Nat.zero_add, (ss.nm.obj.bel t.h).cell]
    match j with
    | 0 | 1 | 2 | 3 | 4 | 5 => exact hu
    | j + 6 => simp at hu
  have z2 : ∀ t : Tw (Up W), t.w.cell? ⟨w.heap.size, 0, none⟩ = some (.bool ou) := fun t => (ss.bx.bel t.h).cell 0
  have z3 : ∀ t : Tw (Up W), t.w.cell? ⟨w.heap.size, 1, none⟩ = some (.slice xA xn xc) := fun t => (ss.bx.bel t.h).cell 1
  have zz := Up.one W
  have hrW := rd_step hr hm (Nat.le_refl _) ss.up
  have hsW := ss.up.size
  refine wp_region_float (Up W) (.cells #[.int .i64 0, .int .u32 0, .int .u16 0] 32) W.heap.size (fun h => .pointer (some ⟨h, 0, none⟩)) 12 _ [(0, true), (1, true), (2, true), (3, true), (4, true), (5, true), (6, true), (7, true), (8, false), (9, true), (10, true), (11, true)] [(13, false), (14, true)] (by kernel_rfl) (by kernel_rfl) (by rfl) (by rfl) (by kernel_rfl) (by kernel_rfl) (Below.refl _ _).drew (fun w' h => Below.alloc h (Below.size h) _) (fun w' h => Below.size h) (by intro a w; simp [execOp, go_sem]) ?_
  refine wpFl_qs 8 _ _ _ (by kernel_rfl) (by kernel_rfl) (by simp) ?_
  unfold clsS
  simp only [List.take_succ_cons, List.take_zero, List.drop_succ_cons, List.drop_zero, List.filterMap_cons, List.filterMap_nil, List.getElem?_toArray, List.getElem?_cons_zero, List.getElem?_cons_succ]
  repeat (first
    | go_big_quiet_skip
    | (go_big_quiet_want; first | (refine quiet_ldAt rfl rfl z1 Tryz.underlying36 cf_size ?_; go_simp; go_big_quiet_on) | (go_big_quiet_op; go_big_quiet_on))
    | (refine id (?_ : wpQuiet _ _ _ _ (_ :: _) _); first | go_big_quiet_skip | (go_big_quiet_want; first | (refine quiet_ldAt rfl rfl z1 Tryz.underlying36 cf_size ?_; go_simp; go_big_quiet_on) | (go_big_quiet_op; go_big_quiet_on))))
  refine wpQuiet_nil ?_
  refine wpFl_e (fun _ => True) _ (by rfl) (by kernel_rfl) trivial (fun _ _ => trivial) (fun W1 _ hS1 K hK => ?_)
  go_simp
  refine (kw.out W1 ((hrW.below (Below.mono hS1 hsW)).more (Nat.le_trans hsW (Below.size hS1)))).mono ?_
  rintro e W2 ⟨rfl, hb2⟩
  refine hK _ _ (bel_after hS1 hb2) (KeepO.belM hb2) ?_
  clear hK K hb2 kw
  refine wpFl_qs 3 _ _ _ (by kernel_rfl) (by kernel_rfl) (by simp) ?_
  unfold clsS
  simp only [List.take_succ_cons, List.take_zero, List.drop_succ_cons, List.drop_zero, List.filterMap_cons, List.filterMap_nil, List.getElem?_toArray, List.getElem?_cons_zero, List.getElem?_cons_succ]
  repeat (first
    | go_big_quiet_skip
    | (go_big_quiet_want; go_big_quiet_op; go_big_quiet_on)
    | (refine id (?_ : wpQuiet _ _ _ _ (_ :: _) _); first | go_big_quiet_skip | (go_big_quiet_want; go_big_quiet_op; go_big_quiet_on)))
  refine wpQuiet_nil ?_
  unfold wpFl
  refine ⟨fun _ => True, trivial, fun _ _ => trivial, fun W3 gf _ hS3 hgf hbf => ?_⟩
  clear hS1
  replace hbf : Blk W3 gf 32 #[.int .i64 0, .int .u32 0, .int .u16 0] := hbf
  go_simp
  refine wpPl_e _ (by rfl) (by kernel_rfl) (fun K hK => ?_)
  refine wp_stRow rfl rfl rfl rfl hbf fl_size rfl (by simp [Value.oneCell']) ?_
  have bf := hbf.setRow #[.int .i64 f0, .int .u32 f1, .int .u16 f2]
  have hS4 := below_setRow hS3 hgf #[.int .i64 f0, .int .u32 f1, .int .u16 f2]
  refine hK _ _ hS4 ?_
  clear hK K hbf hS3 z1 z2 z3 zz
  refine wpPl_qs 1 _ _ _ (by kernel_rfl) (by kernel_rfl) (by simp) ?_
  unfold clsS
  simp only [List.take_succ_cons, List.take_zero, List.drop_succ_cons, List.drop_zero, List.filterMap_cons, List.filterMap_nil, List.getElem?_toArray, List.getElem?_cons_zero, List.getElem?_cons_succ]
  repeat (first
    | go_big_quiet_skip
    | (go_big_quiet_want; go_big_quiet_op; go_big_quiet_on)
    | (refine id (?_ : wpQuiet _ _ _ _ (_ :: _) _); first | go_big_quiet_skip | (go_big_quiet_want; go_big_quiet_op; go_big_quiet_on)))
  refine wpQuiet_nil ?_
  unfold wpPl
  refine NoPanic.normal ?_
  replace ss := ss.bel_ hS4
  clear hS4 hrW
  generalize W3.setRow gf #[.int .i64 f0, .int .u32 f1, .int .u16 f2] = W4 at *
  replace hE : EE = 0 := hE.out
  subst hE
  have x1 := ss.bx.cell 1
  go_wp2_with fail
  refine (kr.out W4 ((rd_step hr hm (Nat.le_refl _) ss.up).more ss.up.size)).mono ?_
  rintro e W5 ⟨rfl, hb5⟩
  replace ss := ss.bel_ hb5
  replace bf := bf.bel hb5
  clear hb5 kr x1
  have bh1 := (Blk.new W5 105 #[.int .i64 0, .int .i64 0, .int .i64 0, .int .i64 0, .int .u32 0, .int .u32 0]).alloc (.cells #[.int .i64 0, .int .u16 0, .int .u16 0, .int .i64 0, .int .i64 0, .int .i64 0, .bool false, .int .i64 0, .int .i64 0, .int .i64 0, .int .i64 0, .int .u32 0, .int .u32 0, .int .i64 0, .bool false] 107)
  have bp1 := Blk.new (W5.alloc (.cells #[.int .i64 0, .int .i64 0, .int .i64 0, .int .i64 0, .int .u32 0, .int .u32 0] 105)) 107 #[.int .i64 0, .int .u16 0, .int .u16 0, .int .i64 0, .int .i64 0, .int .i64 0, .bool false, .int .i64 0, .int .i64 0, .int .i64 0, .int .i64 0, .int .u32 0, .int .u32 0, .int .i64 0, .bool false]
  rw [show (W5.alloc (.cells #[.int .i64 0, .int .i64 0, .int .i64 0, .int .i64 0, .int .u32 0, .int .u32 0] 105)).heap.size = W5.heap.size + 1 by simp] at bp1
  replace bp1 := bp1.setRow_far (g' := W5.heap.size) (by omega) #[.int .i64 h0, .int .i64 h1, .int .i64 h2, .int .i64 h3, .int .u32 h4, .int .u32 h5]
  have bp := bp1.setRow #[.int .i64 pr, .int .u16 sr, .int .u16 ds, .int .i64 fl, .int .i64 ki, .int .i64 co_, .bool er, .int .i64 isz, .int .i64 i1, .int .i64 i2, .int .i64 i3, .int .u32 i4, .int .u32 i5, .int .i64 pat, .bool ba_]
  have hb6 : Below W5.heap.size W5 ((((W5.alloc (.cells #[.int .i64 0, .int .i64 0, .int .i64 0, .int .i64 0, .int .u32 0, .int .u32 0] 105)).alloc (.cells #[.int .i64 0, .int .u16 0, .int .u16 0, .int .i64 0, .int .i64 0, .int .i64 0, .bool false, .int .i64 0, .int .i64 0, .int .i64 0, .int .i64 0, .int .u32 0, .int .u32 0, .int .i64 0, .bool false] 107)).setRow W5.heap.size #[.int .i64 h0, .int .i64 h1, .int .i64 h2, .int .i64 h3, .int .u32 h4, .int .u32 h5]).setRow (W5.heap.size + 1) #[.int .i64 pr, .int .u16 sr, .int .u16 ds, .int .i64 fl, .int .i64 ki, .int .i64 co_, .bool er, .int .i64 isz, .int .i64 i1, .int .i64 i2, .int .i64 i3, .int .u32 i4, .int .u32 i5, .int .i64 pat, .bool ba_]) := below_setRow (g := W5.heap.size + 1) (below_setRow (((bel_alloc W5 (.cells #[.int .i64 0, .int .i64 0, .int .i64 0, .int .i64 0, .int .u32 0, .int .u32 0] 105)).alloc (by simp) (.cells #[.int .i64 0, .int .u16 0, .int .u16 0, .int .i64 0, .int .i64 0, .int .i64 0, .bool false, .int .i64 0, .int .i64 0, .int .i64 0, .int .i64 0, .int .u32 0, .int .u32 0, .int .i64 0, .bool false] 107))) (Nat.le_refl _) #[.int .i64 h0, .int .i64 h1, .int .i64 h2, .int .i64 h3, .int .u32 h4, .int .u32 h5]) (by omega) #[.int .i64 pr, .int .u16 sr, .int .u16 ds, .int .i64 fl, .int .i64 ki, .int .i64 co_, .bool er, .int .i64 isz, .int .i64 i1, .int .i64 i2, .int .i64 i3, .int .u32 i4, .int .u32 i5, .int .i64 pat, .bool ba_]
  replace ss := ss.bel_ hb6
  replace bf := bf.bel hb6
  clear hb6
  go_upto_region 7 with (first | (refine wpList_stRow rfl rfl rfl rfl rfl bh1 hd_size rfl (by simp [Value.oneCell']) ?_) | (refine wpList_stRow rfl rfl rfl rfl rfl bp1 pt_size rfl (by simp [Value.oneCell']) ?_; generalize (((W5.alloc (.cells #[.int .i64 0, .int .i64 0, .int .i64 0, .int .i64 0, .int .u32 0, .int .u32 0] 105)).alloc (.cells #[.int .i64 0, .int .u16 0, .int .u16 0, .int .i64 0, .int .i64 0, .int .i64 0, .bool false, .int .i64 0, .int .i64 0, .int .i64 0, .int .i64 0, .int .u32 0, .int .u32 0, .int .i64 0, .bool false] 107)).setRow W5.heap.size #[.int .i64 h0, .int .i64 h1, .int .i64 h2, .int .i64 h3, .int .u32 h4, .int .u32 h5]).setRow (W5.heap.size + 1) #[.int .i64 pr, .int .u16 sr, .int .u16 ds, .int .i64 fl, .int .i64 ki, .int .i64 co_, .bool er, .int .i64 isz, .int .i64 i1, .int .i64 i2, .int .i64 i3, .int .u32 i4, .int .u32 i5, .int .i64 pat, .bool ba_] = W6 at *; generalize W5.heap.size = gh at *; clear bh1 bp1))
  replace hou2 : ou = false := hou2.out
  subst hou2
  obtain ⟨PL, hPL⟩ : ∃ PL, placeP c f0 f2 = PL := ⟨_, rfl⟩
  have kp := fun W => Place_ok c f0 f2 W hc
  have hkr := placeP_rng hc f0 f2
  replace hat := hat.out
  rw [hPL] at kp hkr hat
  replace hPL := Lib.hid hPL
  replace kp := Lib.hid kp
  replace hat := Lib.hid hat
  have hw : IntKind.i64.wrap f2 = f2 := by have := inr_u16 hfr.out.2.2; simp only at this; simp [IntKind.wrap, IntKind.bits, IntKind.signed]; omega
  have x0 := ss.bx.cell 0
  go_upto_region 9 with fail
  clear x0
  have z1 : ∀ w', (∃ t : Tw (Up W6), w' = t.w) → ∀ j u, ([.int .i64 c.wk, .int .u32 c.ou, .int .i64 c.lo, .int .i64 c.hi, .int .i64 c.bk, .int .i64 c.rg] : List Value)[j]? = some u → w'.cell? ⟨gn, 0 + j, none⟩ = some u := fun w' ⟨t, ht⟩ j u hu => by
    rw [ht, Nat.zero_add, (ss.nm.obj.bel t.h).cell]
    match j with
    | 0 | 1 | 2 | 3 | 4 | 5 => exact hu
    | j + 6 => simp at hu
  have z2 : ∀ t : Tw (Up W6), t.w.cell? ⟨gf, 0, none⟩ = some (.int .i64 f0) := fun t => (bf.bel t.h).cell 0
  have z3 : ∀ t : Tw (Up W6), t.w.cell? ⟨gf, 2, none⟩ = some (.int .u16 f2) := fun t => (bf.bel t.h).cell 2
  have zz := Up.one W6
  refine wp_region_plan (Up W6) [(0, true), (1, true), (2, true), (3, true), (4, true), (5, true), (6, true), (7, true), (8, true), (9, false), (10, true)] (by kernel_rfl) (by kernel_rfl) (by kernel_rfl) (by kernel_rfl) (Below.refl _ _).drew ?_
  refine wpPl_qs 9 _ _ _ (by kernel_rfl) (by kernel_rfl) (by simp) ?_
  unfold clsS
  simp only [List.take_succ_cons, List.take_zero, List.drop_succ_cons, List.drop_zero, List.filterMap_cons, List.filterMap_nil, List.getElem?_toArray, List.getElem?_cons_zero, List.getElem?_cons_succ]
  repeat (first
    | go_big_quiet_skip
    | (go_big_quiet_want; first | (refine quiet_ldAt rfl rfl z1 Tryz.underlying36 cf_size ?_; go_simp; go_big_quiet_on) | (go_big_quiet_op; go_big_quiet_on))
    | (refine id (?_ : wpQuiet _ _ _ _ (_ :: _) _); first | go_big_quiet_skip | (go_big_quiet_want; first | (refine quiet_ldAt rfl rfl z1 Tryz.underlying36 cf_size ?_; go_simp; go_big_quiet_on) | (go_big_quiet_op; go_big_quiet_on))))
  refine wpQuiet_nil ?_
  refine wpPl_e _ (by rfl) (by kernel_rfl) (fun K hK => ?_)
  go_simp
  refine (kp.out _).mono ?_
  rintro e W7 ⟨rfl, hb7⟩
  have hup7 : Below W6.heap.size W6 W7 := bel_after (Below.refl _ _).drew hb7
  refine hK _ _ hup7 ?_
  clear hK K hb7 kp
  refine wpPl_qs 1 _ _ _ (by kernel_rfl) (by kernel_rfl) (by simp) ?_
  unfold clsS
  simp only [List.take_succ_cons, List.take_zero, List.drop_succ_cons, List.drop_zero, List.filterMap_cons, List.filterMap_nil, List.getElem?_toArray, List.getElem?_cons_zero, List.getElem?_cons_succ]
  repeat (first
    | go_big_quiet_skip
    | (go_big_quiet_want; go_big_quiet_op; go_big_quiet_on)
    | (refine id (?_ : wpQuiet _ _ _ _ (_ :: _) _); first | go_big_quiet_skip | (go_big_quiet_want; go_big_quiet_op; go_big_quiet_on)))
  refine wpQuiet_nil ?_
  unfold wpPl
  refine NoPanic.normal ?_
  clear z1 z2 z3 zz hw
  replace ss := ss.bel_ hup7
  replace bf := bf.bel hup7
  replace bp := bp.bel hup7
  clear hup7
  have hlook := ss.nm.pl.look hkr
  have q6 := ss.nm.obj.cell 6
  rw [hat.out] at hlook
  simp only [lookB, Bd.cs] at hlook
  have ss2 := ss.bel_ (below_setRow (bel_alloc W7 (.cells #[.int .i64 0, .int .u32 0, .int .u16 0, .int .i64 0, .int .i64 0, .int .i64 0] 63)) (Nat.le_refl _) #[.int .i64 b0, .int .u32 b1, .int .u16 b2, .int .i64 b3, .int .i64 b4, .int .i64 b5])
  have bf2 := bf.bel (below_setRow (bel_alloc W7 (.cells #[.int .i64 0, .int .u32 0, .int .u16 0, .int .i64 0, .int .i64 0, .int .i64 0] 63)) (Nat.le_refl _) #[.int .i64 b0, .int .u32 b1, .int .u16 b2, .int .i64 b3, .int .i64 b4, .int .i64 b5])
  have bp2 := bp.bel (below_setRow (bel_alloc W7 (.cells #[.int .i64 0, .int .u32 0, .int .u16 0, .int .i64 0, .int .i64 0, .int .i64 0] 63)) (Nat.le_refl _) #[.int .i64 b0, .int .u32 b1, .int .u16 b2, .int .i64 b3, .int .i64 b4, .int .i64 b5])
  have bb := (Blk.new W7 63 #[.int .i64 0, .int .u32 0, .int .u16 0, .int .i64 0, .int .i64 0, .int .i64 0]).setRow #[.int .i64 b0, .int .u32 b1, .int .u16 b2, .int .i64 b3, .int .i64 b4, .int .i64 b5]
  go_upto_region 13 with (first
    | (refine wpList_look rfl rfl rfl rfl hlook ?_)
    | (refine wpList_stRow rfl rfl rfl rfl rfl (Blk.new W7 _ _) bd_size rfl (by simp [Value.oneCell']) ?_; generalize (W7.alloc (.cells #[.int .i64 0, .int .u32 0, .int .u16 0, .int .i64 0, .int .i64 0, .int .i64 0] 63)).setRow W7.heap.size #[.int .i64 b0, .int .u32 b1, .int .u16 b2, .int .i64 b3, .int .i64 b4, .int .i64 b5] = W8 at *; generalize W7.heap.size = gb at *))
  clear ss bf bp hlook q6
  have bx := ss2.bx
  have ks2 := ks.out W8 ss2.nm
  simp only [Pt.val] at ks2
  rw [hPL.out] at ks2
  replace ks2 := Lib.hid ks2
  clear ks
  go_wp2_with (first
    | (refine wpList_ldRow rfl rfl rfl bx Tryz.underlying57 ml_size ?_)
    | (refine wpList_ldRow rfl rfl rfl bp2 Tryz.underlying107 pt_size ?_))
  refine ks2.out.mono ?_
  rintro e W9 ⟨rfl, hM9, hu9⟩
  have hu9' := hu9.mono (T := fun k => k = pb ∨ k = fm) (fun _ _ h => .inl h)
  have bb9 := ss2.nm.keepB bb hu9'
  have ss := ss2.step hM9 hu9'
  clear ss2 bf2 bp2 bb hM9 hu9 hu9' bx ks2
  have hs9 := ss.up.size
  have kri2 := kri.out W9 (rd_step hr hm (Nat.le_refl _) ss.up) hs9
  replace kri2 := Lib.hid kri2
  clear kri
  have x1 := ss.bx.cell 1
  have c1 := bb9.cell 1
  have c2 := bb9.cell 2
  go_wp2_with fail
  refine kri2.out.mono ?_
  intro e W10 hch
  obtain ⟨vA, vn, vc, rfl, own, hb10⟩ := chg_own hnil.out hch
  clear hch kri2 x1 c1 c2
  replace ss := ss.bel_ hb10
  replace own := Own.lower own hs9
  go_wp2_with fail
  refine (told_any vA vn vc E W10).mono ?_
  rintro e W11 ⟨rfl, hb11⟩
  replace ss := ss.bel_ hb11
  replace own := Own.below own hb11
  have ba := ss.ba
  replace own := Own.updne own ba (by decide) (Upd.row' W11 (w.heap.size + 1) #[.slice vA vn vc, .int .i64 E])
  go_wp2_with (refine wpList_stRow rfl rfl rfl rfl rfl ba an_size rfl (by simp [Value.oneCell']) ?_)
  have ss2 := ss.ans hlt1 hlt2 hlt3 #[.slice vA vn vc, .int .i64 E]
  exact bodyPost_ret (results_row rfl _ rfl ss2.ba Tryz.underlying55 an_size) rfl ⟨_, _, _, rfl, own, ss2.nm, hnp, Nat.le_succ _, ss2.up⟩
end Go.Proofs.YtbckoohljkmahaaGreat
namespace Go.Proofs.YtbckoohljkmahaaGreat
set_option linter.unusedVariables false
set_option linter.unusedSimpArgs false
open Go.RowKit Go.Maps
theorem Step_any (c : Cf) (gn pb fm np nf : Nat) (L : List Bd) (ou : Bool) (xA : Option Addr) (xn xc : Nat) (ti po : Int) (l : List Int) (w : World) (hm : NatM w c gn pb fm np nf L) (hc : c.ok) (hou : 0 ≤ c.ou ∧ c.ou ≤ 4294967295)
    (hn1 : np < 900000) (hn2 : nf < 900000) (hr : Rd .u8 w w.heap.size xA xn l) (hlc : xn ≤ xc) (hcm : xc ≤ 9223372036854775807) (hl : xn ≤ 60000) :
    Calls Tryz.prog 22 #[.pointer (some ⟨gn, 0, none⟩), .agg #[.bool ou, .slice xA xn xc, .int .i64 ti, .int .i64 po]] w (AnsR w c gn pb fm np nf (stepP c L ou l ti po).1 (stepP c L ou l ti po).2.1 (stepP c L ou l ti po).2.2) := by
  unfold stepP
  by_cases h1 : ti < 0 ∨ 4294967295 < ti
  · rw [if_pos h1]
    exact Step_bad c gn pb fm np nf L ou xA xn xc ti po w hm h1
  rw [if_neg h1]
  have ht : 0 ≤ ti ∧ ti ≤ 4294967295 := by omega
  by_cases h2 : (whoP c.ou ou l).2 = 0
  · rw [if_neg (fun h => h h2)]
    cases ou with
    | true =>
      rw [if_pos rfl]
      exact Step_out c gn pb fm np nf L xA xn xc ti po l w hm hc hou ht h2 hn1 hn2 hr hlc hcm hl _ rfl
    | false =>
      rw [if_neg (by simp)]
      unfold inS
      cases hat : atB c (placeP c (whoP c.ou false l).1.pr (whoP c.ou false l).1.po) L with
      | none => exact Step_none c gn pb fm np nf L xA xn xc ti po l w hm hc ht h2 hr hlc hcm hl hat
      | some b =>
        obtain ⟨hb, hk⟩ := atB_some hat
        have hbr := (hm.inv.ok b hb).rng
        simp only
        by_cases he : (rdP l).err = true
        · rw [if_pos he]
          exact Step_some c gn pb fm np nf np L L b xA xn xc ti po l w hm hc ht h2 hr hlc hcm hl hat hbr (Nat.le_succ _) (fun W hM => seen_err c gn pb fm np nf L _ false xA xn xc ti po _ W hM he)
        · rw [if_neg he]
          refine Step_some c gn pb fm np nf (np + 1) L _ b xA xn xc ti po l w hm hc ht h2 hr hlc hcm hl hat hbr (Nat.le_refl _) (fun W hM => ?_)
          rw [← hk]
          exact seen_any c gn pb fm np nf L b false xA xn xc ti po _ W hM hc hb hn1 ht (by simpa using he)
  · rw [if_pos h2]
    exact Step_err c gn pb fm np nf L ou xA xn xc ti po l w hm ht h2 hr hlc hcm hl
end Go.Proofs.YtbckoohljkmahaaGreat
