/- One worker alone: plain. -/
import Derived.Test.YtoifojamblnijaaTurns4
namespace Go.Proofs.Ytoifojamblnijaa
set_option linter.unusedVariables false
set_option linter.unusedSimpArgs false
open Go.RowKit
/-- what one worker does alone: its steps from number i on, the cells behind them -/
def alo : Int → List Int → List TOp → Nat → List Dn × List Int
  | _, l, [], _ => ([], l)
  | k, l, o :: r, i => (⟨0, i, o.got k l⟩ :: (alo (o.keep k l) (o.put k l) r (i + 1)).1, (alo (o.keep k l) (o.put k l) r (i + 1)).2)
theorem alo_cons (k : Int) (l : List Int) (o : TOp) (r : List TOp) (i : Nat) : alo k l (o :: r) i = (⟨0, i, o.got k l⟩ :: (alo (o.keep k l) (o.put k l) r (i + 1)).1, (alo (o.keep k l) (o.put k l) r (i + 1)).2) := rfl
theorem alo_nil (k : Int) (l : List Int) (i : Nat) : alo k l [] i = ([], l) := rfl
theorem alo_len : ∀ (r : List TOp) (k : Int) (l : List Int) (i : Nat), (alo k l r i).1.length = r.length ∧ (alo k l r i).2.length = l.length
  | [], _, _, _ => ⟨rfl, rfl⟩
  | o :: r, k, l, i => by
      obtain ⟨h1, h2⟩ := alo_len r (o.keep k l) (o.put k l) (i + 1)
      unfold alo
      exact ⟨by simp [h1], by rw [← TOp.put_length o k l]; exact h2⟩
theorem alo_runs {p : List TOp} {rest : List Wk} (hrest : ∀ w ∈ rest, w.prog = []) (r : List Nat) : ∀ (pos : Nat) (k : Int) (l : List Int),
    ∃ pos' k', ((TSt.mk (⟨p, pos, k⟩ :: rest) l).runs r).1.ws = ⟨p, pos', k'⟩ :: rest ∧
      alo k l (p.drop pos) pos = (((TSt.mk (⟨p, pos, k⟩ :: rest) l).runs r).2 ++ (alo k' ((TSt.mk (⟨p, pos, k⟩ :: rest) l).runs r).1.l (p.drop pos') pos').1, (alo k' ((TSt.mk (⟨p, pos, k⟩ :: rest) l).runs r).1.l (p.drop pos') pos').2) := by
  induction r with
  | nil => intro pos k l; exact ⟨pos, k, rfl, by simp [TSt.runs]⟩
  | cons q r ih =>
    intro pos k l
    have still : (TSt.mk (⟨p, pos, k⟩ :: rest) l).step q = (TSt.mk (⟨p, pos, k⟩ :: rest) l, []) → ∃ pos' k', ((TSt.mk (⟨p, pos, k⟩ :: rest) l).runs (q :: r)).1.ws = ⟨p, pos', k'⟩ :: rest ∧
      alo k l (p.drop pos) pos = (((TSt.mk (⟨p, pos, k⟩ :: rest) l).runs (q :: r)).2 ++ (alo k' ((TSt.mk (⟨p, pos, k⟩ :: rest) l).runs (q :: r)).1.l (p.drop pos') pos').1, (alo k' ((TSt.mk (⟨p, pos, k⟩ :: rest) l).runs (q :: r)).1.l (p.drop pos') pos').2) := by
      intro he
      have hr : (TSt.mk (⟨p, pos, k⟩ :: rest) l).runs (q :: r) = (TSt.mk (⟨p, pos, k⟩ :: rest) l).runs r := by simp only [TSt.runs, he, List.nil_append]
      rw [hr]
      exact ih pos k l
    match q with
    | 0 =>
      cases ho : p[pos]? with
      | none => exact still (by unfold TSt.step; simp [ho])
      | some o =>
        have hlt := (List.getElem?_eq_some_iff.1 ho).1
        have hd : p.drop pos = o :: p.drop (pos + 1) := by
          rw [List.drop_eq_getElem_cons hlt]
          congr 1
          rw [List.getElem?_eq_getElem hlt] at ho
          simpa using ho
        have he : (TSt.mk (⟨p, pos, k⟩ :: rest) l).step 0 = (TSt.mk (⟨p, pos + 1, o.keep k l⟩ :: rest) (o.put k l), [⟨((0 : Nat) : Int), pos, o.got k l⟩]) := by
          unfold TSt.step
          simp [ho]
        obtain ⟨pos', k', h1, h2⟩ := ih (pos + 1) (o.keep k l) (o.put k l)
        have hr : (TSt.mk (⟨p, pos, k⟩ :: rest) l).runs (0 :: r) = (((TSt.mk (⟨p, pos + 1, o.keep k l⟩ :: rest) (o.put k l)).runs r).1, ⟨((0 : Nat) : Int), pos, o.got k l⟩ :: ((TSt.mk (⟨p, pos + 1, o.keep k l⟩ :: rest) (o.put k l)).runs r).2) := by
          simp only [TSt.runs, he]; rfl
        refine ⟨pos', k', by rw [hr]; exact h1, ?_⟩
        rw [hr, hd, alo_cons, h2]
        rfl
    | q + 1 =>
      refine still ?_
      unfold TSt.step
      simp only [List.getElem?_cons_succ]
      cases hw : rest[q]? with
      | none => rfl
      | some w => simp only [hrest w (List.mem_of_getElem? hw), List.getElem?_nil]
theorem alo_rest {p : List TOp} {ps : List (List TOp)} {l : List Int} {P ord : List Nat} {N : Nat} {s : TSt} {out : List Dn} (h : RestTold (freshSt (p :: ps) l) P N ord s out) (hps : ∀ q ∈ ps, q = []) (hf : ∀ i, s.fin i) :
    out = (alo 0 l p 0).1 ∧ s.l = (alo 0 l p 0).2 := by
  have hr : ∀ w ∈ (ps.take 63).map fresh, w.prog = [] := by
    intro w hw
    obtain ⟨q, hq, rfl⟩ := List.mem_map.1 hw
    exact hps q (List.mem_of_mem_take hq)
  have hs : freshSt (p :: ps) l = TSt.mk (⟨p, 0, 0⟩ :: (ps.take 63).map fresh) l := rfl
  obtain ⟨pos', k', h1, h2⟩ := alo_runs (p := p) hr (P ++ ord) 0 0 l
  rw [← hs, h.eq] at h1 h2
  simp only at h1 h2
  have hp := hf 0 ⟨p, pos', k'⟩ (by rw [h1]; rfl)
  simp only at hp
  rw [hp, List.drop_of_length_le (Nat.le_refl _), List.drop_zero] at h2
  simp only [alo_nil, List.append_nil] at h2
  have h3 : alo 0 l p 0 = (out, s.l) := by
    rw [← h2]
  rw [h3]
  exact ⟨rfl, rfl⟩
end Go.Proofs.Ytoifojamblnijaa
