/- Workers who add by one step; workers who load and then put their number: plain. -/
import Derived.Test.YtoifojamblnijaaSwapsPlain
namespace Go.Proofs.Ytoifojamblnijaa
set_option linter.unusedVariables false
set_option linter.unusedSimpArgs false
open Go.RowKit
def addOp : TOp := ⟨3, 0, 1, 0, false⟩
theorem sumPos_le : ∀ (ws : List Wk) (k : Nat), (∀ w ∈ ws, w.pos ≤ k) → sumPos ws ≤ ws.length * k
  | [], k, _ => by simp [sumPos]
  | w :: ws, k, h => by
      have h1 := sumPos_le ws k (fun x hx => h x (List.mem_cons_of_mem _ hx))
      have h2 := h w (List.mem_cons_self ..)
      simp only [sumPos, List.map_cons, List.sum_cons, List.length_cons] at h1 ⊢
      rw [Nat.add_mul]; omega
structure AdInv (n k : Nat) (s : TSt) : Prop where
  len : s.ws.length = n
  ws : ∀ (i : Nat) wk, s.ws[i]? = some wk → wk.prog = List.replicate k addOp ∧ wk.pos ≤ k
  l : s.l = [(sumPos s.ws : Int)]
theorem ad_step {n k : Nat} {s : TSt} (hnk : n * k ≤ 1000000) (h : AdInv n k s) (q : Nat) : AdInv n k (s.step q).1 := by
  cases hw : s.ws[q]? with
  | none => unfold TSt.step; rw [hw]; exact h
  | some wk =>
    obtain ⟨hp, hpos⟩ := h.ws q wk hw
    have hql : q < s.ws.length := (List.getElem?_eq_some_iff.1 hw).1
    cases ho : wk.prog[wk.pos]? with
    | none => unfold TSt.step; rw [hw]; simp only [ho]; exact h
    | some o =>
      have hlt : wk.pos < k := by have := (List.getElem?_eq_some_iff.1 ho).1; rw [hp] at this; simpa using this
      have hoe : o = addOp := by rw [hp, List.getElem?_replicate] at ho; rw [if_pos hlt] at ho; simpa using ho.symm
      subst hoe
      obtain ⟨g1, g2, g3⟩ := TOp.add (o := addOp) rfl wk.kept s.l
      have hle : sumPos s.ws ≤ 1000000 := by
        have := sumPos_le s.ws k (fun w hw => by obtain ⟨i, hi, rfl⟩ := List.mem_iff_getElem.1 hw; exact (h.ws i _ (List.getElem?_eq_getElem hi)).2)
        rw [h.len] at this; omega
      have he : s.step q = (⟨s.ws.set q ⟨wk.prog, wk.pos + 1, wk.kept⟩, [((sumPos s.ws + 1 : Nat) : Int)]⟩, [⟨q, wk.pos, addOp.got wk.kept s.l⟩]) := by
        unfold TSt.step
        rw [hw]
        simp only [ho]
        rw [g2, g3, h.l]
        have hc : celAt [(sumPos s.ws : Int)] addOp.cell = sumPos s.ws := rfl
        have ha : addOp.arg wk.kept = 1 := rfl
        have hs : ∀ v, celSet [(sumPos s.ws : Int)] addOp.cell v = [v] := fun v => rfl
        rw [hs, hc, ha]
        rw [show ((sumPos s.ws : Int) + 1) % 18446744073709551616 = ((sumPos s.ws + 1 : Nat) : Int) by omega]
      rw [he]
      refine ⟨by simp [h.len], fun i x hx => ?_, ?_⟩
      · simp only [List.getElem?_set] at hx
        by_cases hi : q = i
        · subst hi
          rw [if_pos rfl, if_pos hql] at hx
          simp only [Option.some.injEq] at hx
          subst hx
          exact ⟨hp, hlt⟩
        · rw [if_neg hi] at hx
          exact h.ws i x hx
      · simp only
        rw [sum_set s.ws q wk _ hw rfl]
theorem ad_runs {n k : Nat} (hnk : n * k ≤ 1000000) (r : List Nat) : ∀ {s : TSt}, AdInv n k s → AdInv n k (s.runs r).1 := by
  induction r with
  | nil => intro s h; exact h
  | cons q r ih => intro s h; exact ih (ad_step hnk h q)
def addPs (n k : Nat) : List (List TOp) := List.replicate n (List.replicate k addOp)
theorem ad_rest {n k N : Nat} {P ord : List Nat} {s : TSt} {out : List Dn} (hn : n ≤ 64) (hnk : n * k ≤ 1000000) (h : RestTold (freshSt (addPs n k) [0]) P N ord s out) (hf : ∀ i, s.fin i) : s.l = [((n * k : Nat) : Int)] := by
  have htk : (addPs n k).take 64 = addPs n k := List.take_of_length_le (by simp [addPs]; omega)
  have h0 : AdInv n k (freshSt (addPs n k) [0]) := by
    refine ⟨by simp [freshSt, addPs]; omega, fun i wk hw0 => ?_, by rw [sumPos_fresh]; rfl⟩
    have hw : ((addPs n k).map fresh)[i]? = some wk := by rw [← htk]; exact hw0
    simp only [List.getElem?_map, addPs, List.getElem?_replicate] at hw
    split at hw
    · simp at hw; subst hw; exact ⟨rfl, Nat.zero_le _⟩
    · simp at hw
  have h1 := ad_runs hnk (P ++ ord) h0
  have h2 := runs_sum (freshSt (addPs n k) [0]) (P ++ ord)
  rw [h.eq] at h1 h2
  rw [sumPos_fresh, rest_len h hf, htk, sum_const _ k (fun p hp => by simp [addPs] at hp; rw [hp.2]; simp)] at h2
  have h3 := h1.l
  simp only at h2
  rw [h3, h2]
  simp [addPs]
/-- the store programs -/
def sop (q k p : Nat) : TOp := if p % 2 = 0 then ⟨0, 0, 0, 0, false⟩ else ⟨2, 0, 0, ((q * k + p / 2 + 1 : Nat) : Int), true⟩
def sops (q k t : Nat) : List TOp := (List.range (2 * t)).map (sop q k)
theorem sops_succ (q k t : Nat) : sops q k (t + 1) = sops q k t ++ [⟨0, 0, 0, 0, false⟩, ⟨2, 0, 0, ((q * k + t + 1 : Nat) : Int), true⟩] := by
  unfold sops
  rw [show 2 * (t + 1) = 2 * t + 1 + 1 by omega, List.range_succ, List.range_succ]
  simp only [List.map_append, List.map_cons, List.map_nil, List.append_assoc]
  have e1 : sop q k (2 * t) = ⟨0, 0, 0, 0, false⟩ := by unfold sop; rw [if_pos (by omega)]
  have e2 : sop q k (2 * t + 1) = ⟨2, 0, 0, ((q * k + t + 1 : Nat) : Int), true⟩ := by unfold sop; rw [if_neg (by omega), show (2 * t + 1) / 2 = t by omega]
  rw [e1, e2]
  rfl
def stoPs (n k : Nat) : List (List TOp) := (List.range n).map fun q => sops q k k
theorem stoPs_succ (n k : Nat) : stoPs (n + 1) k = stoPs n k ++ [sops n k k] := by simp [stoPs, List.range_succ]
def lastOf (k : Nat) (x : Int) (d : Dn) : Int := if d.idx % 2 = 1 ∧ d.got = 1 then d.who * k + d.idx / 2 + 1 else x
structure StInv (n k : Nat) (s : TSt) (x : Int) : Prop where
  len : s.ws.length = n
  ws : ∀ (i : Nat) wk, s.ws[i]? = some wk → wk.prog = sops i k k
  l : s.l = [x]
def Dn.fine (n k : Nat) (d : Dn) : Prop := ∃ q p : Nat, d.who = q ∧ q < n ∧ d.idx = p ∧ p < 2 * k
theorem st_step {n k : Nat} {s : TSt} {x : Int} (h : StInv n k s x) (q : Nat) : s.step q = (s, []) ∨ ∃ d, (s.step q).2 = [d] ∧ d.fine n k ∧ StInv n k (s.step q).1 (lastOf k x d) := by
  cases hw : s.ws[q]? with
  | none => left; unfold TSt.step; rw [hw]
  | some wk =>
    have hp := h.ws q wk hw
    have hql : q < s.ws.length := (List.getElem?_eq_some_iff.1 hw).1
    have hqn : q < n := by rw [← h.len]; exact hql
    cases ho : wk.prog[wk.pos]? with
    | none => left; unfold TSt.step; rw [hw]; simp only [ho]
    | some o =>
      right
      have hlt : wk.pos < 2 * k := by have := (List.getElem?_eq_some_iff.1 ho).1; rw [hp] at this; simpa [sops] using this
      have hoe : o = sop q k wk.pos := by
        rw [hp] at ho
        simp only [sops, List.getElem?_map, List.getElem?_range hlt, Option.map_some, Option.some.injEq] at ho
        exact ho.symm
      have keepws : ∀ kp, (∀ (i : Nat) y, (s.ws.set q ⟨wk.prog, wk.pos + 1, kp⟩)[i]? = some y → y.prog = sops i k k) := by
        intro kp i y hy
        simp only [List.getElem?_set] at hy
        by_cases hi : q = i
        · subst hi
          rw [if_pos rfl, if_pos hql] at hy
          simp only [Option.some.injEq] at hy
          subst hy
          exact hp
        · rw [if_neg hi] at hy
          exact h.ws i y hy
      have he : s.step q = (⟨s.ws.set q ⟨wk.prog, wk.pos + 1, o.keep wk.kept s.l⟩, o.put wk.kept s.l⟩, [⟨q, wk.pos, o.got wk.kept s.l⟩]) := by
        unfold TSt.step
        rw [hw]
        simp only [ho]
      rw [he]
      refine ⟨_, rfl, ⟨q, wk.pos, rfl, hqn, rfl, hlt⟩, by simp [h.len], keepws _, ?_⟩
      simp only
      rcases Nat.mod_two_eq_zero_or_one wk.pos with hm | hm
      · have hoe2 : o = ⟨0, 0, 0, 0, false⟩ := by rw [hoe]; unfold sop; rw [if_pos hm]
        obtain ⟨g1, g2, g3⟩ := TOp.load (o := o) (by rw [hoe2]) wk.kept s.l
        rw [g3, h.l]
        unfold lastOf
        rw [if_neg (by simp only; omega)]
      · have hoe2 : o = ⟨2, 0, 0, ((q * k + wk.pos / 2 + 1 : Nat) : Int), true⟩ := by rw [hoe]; unfold sop; rw [if_neg (by omega)]
        obtain ⟨g1, g2, g3⟩ := TOp.cas (o := o) (by rw [hoe2]) wk.kept s.l
        rw [g1, g3]
        by_cases hwin : inl s.l o.cell ∧ celAt s.l o.cell = o.arg wk.kept
        · rw [if_pos hwin, if_pos hwin]
          unfold lastOf
          rw [if_pos ⟨by simp only; omega, rfl⟩, h.l, hoe2]
          have : ((wk.pos / 2 : Nat) : Int) = (wk.pos : Int) / 2 := by omega
          show [((q * k + wk.pos / 2 + 1 : Nat) : Int)] = [(q : Int) * k + (wk.pos : Int) / 2 + 1]
          rw [← this]; simp
        · rw [if_neg hwin, if_neg hwin, h.l]
          unfold lastOf
          rw [if_neg (by simp)]
theorem st_runs {n k : Nat} (r : List Nat) : ∀ {s : TSt} {x : Int}, StInv n k s x → (∀ d ∈ (s.runs r).2, d.fine n k) ∧ StInv n k (s.runs r).1 ((s.runs r).2.foldl (lastOf k) x) := by
  induction r with
  | nil => intro s x h; exact ⟨by simp [TSt.runs], h⟩
  | cons q r ih =>
    intro s x h
    rcases st_step h q with he | ⟨d, he, hg, hi⟩
    · have hr : s.runs (q :: r) = s.runs r := by simp only [TSt.runs, he, List.nil_append]
      rw [hr]
      exact ih h
    · obtain ⟨a1, a2⟩ := ih hi
      have hr : (s.runs (q :: r)).2 = d :: ((s.step q).1.runs r).2 := by simp only [TSt.runs, he]; rfl
      have hr1 : (s.runs (q :: r)).1 = ((s.step q).1.runs r).1 := rfl
      rw [hr, hr1]
      refine ⟨fun d' hd => ?_, a2⟩
      rcases List.mem_cons.1 hd with rfl | h1
      · exact hg
      · exact a1 d' h1
theorem st_rest {n k N : Nat} {P ord : List Nat} {s : TSt} {out : List Dn} (hn : n ≤ 64) (h : RestTold (freshSt (stoPs n k) [0]) P N ord s out) (hf : ∀ i, s.fin i) :
    out.length = 2 * (n * k) ∧ (∀ d ∈ out, d.fine n k) ∧ s.l = [out.foldl (lastOf k) 0] := by
  have htk : (stoPs n k).take 64 = stoPs n k := List.take_of_length_le (by simp [stoPs]; omega)
  have h0 : StInv n k (freshSt (stoPs n k) [0]) 0 := by
    refine ⟨by simp [freshSt, stoPs]; omega, fun i wk hw0 => ?_, rfl⟩
    have hw : ((stoPs n k).map fresh)[i]? = some wk := by rw [← htk]; exact hw0
    simp only [List.getElem?_map, stoPs] at hw
    cases hi : (List.range n)[i]? with
    | none => rw [hi] at hw; simp at hw
    | some j =>
      rw [hi] at hw
      simp only [Option.map_some, Option.some.injEq] at hw
      obtain ⟨h1, h2⟩ := List.getElem?_eq_some_iff.1 hi
      simp at h2
      subst h2
      subst hw
      rfl
  have h1 := st_runs (P ++ ord) h0
  rw [h.eq] at h1
  refine ⟨?_, h1.1, h1.2.l⟩
  rw [rest_len h hf, htk, sum_const _ (2 * k) (fun p hp => by simp only [stoPs, List.mem_map] at hp; obtain ⟨i, _, rfl⟩ := hp; simp [sops])]
  simp only [stoPs, List.length_map, List.length_range]
  rw [Nat.mul_left_comm]
end Go.Proofs.Ytoifojamblnijaa
