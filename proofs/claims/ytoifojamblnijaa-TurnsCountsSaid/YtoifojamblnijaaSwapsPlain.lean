/- Workers who load once and then would put their number in place of what they got: plain. -/
import Derived.Test.YtoifojamblnijaaTurns4
namespace Go.Proofs.Ytoifojamblnijaa
set_option linter.unusedVariables false
set_option linter.unusedSimpArgs false
open Go.RowKit
def sumPos (ws : List Wk) : Nat := (ws.map (·.pos)).sum
theorem sum_set : ∀ (ws : List Wk) (k : Nat) (w x : Wk), ws[k]? = some w → x.pos = w.pos + 1 → sumPos (ws.set k x) = sumPos ws + 1
  | [], k, w, x, h, _ => by simp at h
  | y :: ws, 0, w, x, h, hx => by
      simp only [List.getElem?_cons_zero, Option.some.injEq] at h
      subst h
      simp [sumPos, hx]; omega
  | y :: ws, k + 1, w, x, h, hx => by
      simp only [List.getElem?_cons_succ] at h
      have := sum_set ws k w x h hx
      simp only [sumPos, List.set_cons_succ, List.map_cons, List.sum_cons] at this ⊢
      omega
theorem step_sum (s : TSt) (k : Nat) : sumPos (s.step k).1.ws = sumPos s.ws + (s.step k).2.length := by
  unfold TSt.step
  cases h : s.ws[k]? with
  | none => simp
  | some w =>
    cases h2 : w.prog[w.pos]? with
    | none => simp [h2]
    | some o => simp only [h2]; rw [sum_set s.ws k w _ h (by rfl)]; simp
theorem runs_sum (s : TSt) (r : List Nat) : sumPos (s.runs r).1.ws = sumPos s.ws + (s.runs r).2.length := by
  induction r generalizing s with
  | nil => simp [TSt.runs]
  | cons k r ih =>
    have h1 := ih (s.step k).1
    have h2 := step_sum s k
    simp only [TSt.runs, List.length_append]
    omega
theorem sum_fin {s : TSt} (h : ∀ i, s.fin i) : sumPos s.ws = (s.ws.map (fun w => w.prog.length)).sum := by
  unfold sumPos
  congr 1
  apply List.map_congr_left
  intro w hw
  obtain ⟨i, hi, rfl⟩ := List.mem_iff_getElem.1 hw
  exact h i _ (List.getElem?_eq_getElem hi)
def swp (i : Nat) : List TOp := [⟨0, 0, 0, 0, false⟩, ⟨2, 0, 0, i + 1, true⟩]
structure Fs where
  now : Int
  tried : Bool
  got : List Int
def Fs.step (f : Fs) (d : Dn) : Fs :=
  if d.idx = 0 then ⟨f.now, f.tried, f.got.set d.who.toNat d.got⟩
  else if f.got.getD d.who.toNat 0 = f.now then ⟨d.who + 1, true, f.got⟩ else ⟨f.now, true, f.got⟩
def Fs.good (n : Nat) (f : Fs) (d : Dn) : Prop :=
  (∃ q : Nat, d.who = q ∧ q < n) ∧ ((d.idx = 0 ∧ d.got = f.now) ∨ (d.idx = 1 ∧ ((d.got = 1 ∧ f.got.getD d.who.toNat 0 = f.now) ∨ (d.got = 0 ∧ f.got.getD d.who.toNat 0 ≠ f.now ∧ f.tried = true))))
structure SwInv (n : Nat) (s : TSt) (f : Fs) : Prop where
  l : s.l = [f.now]
  len : s.ws.length = n
  glen : f.got.length = n
  ws : ∀ (i : Nat) wk, s.ws[i]? = some wk → wk.prog = swp i ∧ wk.pos ≤ 2 ∧ (1 ≤ wk.pos → f.got.getD i 0 = wk.kept) ∧ (f.tried = false → wk.pos ≤ 1 ∧ (1 ≤ wk.pos → wk.kept = 0))
  un : f.tried = false → f.now = 0
theorem getD_set_self (l : List Int) (q : Nat) (x : Int) (h : q < l.length) : (l.set q x).getD q 0 = x := by simp [List.getD_eq_getElem?_getD, List.getElem?_set_self h]
theorem getD_set_ne (l : List Int) (q i : Nat) (x : Int) (h : q ≠ i) : (l.set q x).getD i 0 = l.getD i 0 := by simp [List.getD_eq_getElem?_getD, List.getElem?_set_ne h]
theorem sw_step {n : Nat} {s : TSt} {f : Fs} (h : SwInv n s f) (q : Nat) : s.step q = (s, []) ∨ ∃ d, (s.step q).2 = [d] ∧ f.good n d ∧ SwInv n (s.step q).1 (f.step d) := by
  cases hw : s.ws[q]? with
  | none => left; unfold TSt.step; rw [hw]
  | some wk =>
    obtain ⟨hp, hpos, hk, ht⟩ := h.ws q wk hw
    have hq : q < n := by rw [← h.len]; exact (List.getElem?_eq_some_iff.1 hw).1
    have hql : q < s.ws.length := by rw [h.len]; exact hq
    have hcel : celAt s.l 0 = f.now := by rw [h.l]; rfl
    have h3 : wk.pos = 0 ∨ wk.pos = 1 ∨ wk.pos = 2 := by omega
    rcases h3 with h0 | h0 | h0
    · right
      have ho : wk.prog[wk.pos]? = some ⟨0, 0, 0, 0, false⟩ := by rw [hp, h0]; rfl
      obtain ⟨g1, g2, g3⟩ := TOp.load (o := ⟨0, 0, 0, 0, false⟩) rfl wk.kept s.l
      have he : s.step q = (⟨s.ws.set q ⟨wk.prog, wk.pos + 1, f.now⟩, s.l⟩, [⟨q, 0, f.now⟩]) := by
        unfold TSt.step
        rw [hw]
        simp only [ho]
        rw [g1, g2, g3]
        simp only [hcel, h0]
        rfl
      rw [he]
      refine ⟨_, rfl, ⟨⟨q, rfl, hq⟩, .inl ⟨rfl, rfl⟩⟩, ?_⟩
      have hfs : f.step ⟨q, 0, f.now⟩ = ⟨f.now, f.tried, f.got.set q f.now⟩ := by simp [Fs.step]
      rw [hfs]
      refine ⟨h.l, by simp [h.len], by simp [h.glen], fun i x hx => ?_, h.un⟩
      simp only [List.getElem?_set] at hx
      by_cases hi : q = i
      · subst hi
        rw [if_pos rfl, if_pos hql] at hx
        simp only [Option.some.injEq] at hx
        subst hx
        refine ⟨hp, by simp only; omega, fun _ => ?_, fun hu => ⟨by simp only; omega, fun _ => h.un hu⟩⟩
        simp only
        exact getD_set_self _ _ _ (by rw [h.glen]; exact hq)
      · rw [if_neg hi] at hx
        obtain ⟨a1, a2, a3, a4⟩ := h.ws i x hx
        refine ⟨a1, a2, fun h1 => ?_, a4⟩
        simp only
        rw [getD_set_ne _ _ _ _ hi]
        exact a3 h1
    · right
      have ho : wk.prog[wk.pos]? = some ⟨2, 0, 0, q + 1, true⟩ := by rw [hp, h0]; rfl
      obtain ⟨g1, g2, g3⟩ := TOp.cas (o := ⟨2, 0, 0, q + 1, true⟩) rfl wk.kept s.l
      have hin : inl s.l 0 := by rw [h.l]; exact ⟨by omega, by simp⟩
      have hkk := hk (by omega)
      have harg : (⟨2, 0, 0, q + 1, true⟩ : TOp).arg wk.kept = wk.kept := rfl
      rw [harg, hcel] at g1 g3
      by_cases hwin : f.now = wk.kept
      · rw [if_pos ⟨hin, hwin⟩] at g1 g3
        have hset : celSet s.l 0 (q + 1) = [(q : Int) + 1] := by rw [h.l]; rfl
        rw [hset] at g3
        have he : s.step q = (⟨s.ws.set q ⟨wk.prog, wk.pos + 1, wk.kept⟩, [(q : Int) + 1]⟩, [⟨q, 1, 1⟩]) := by
          unfold TSt.step
          rw [hw]
          simp only [ho]
          rw [g1, g2, g3]
          simp only [h0]
          rfl
        rw [he]
        have hwin2 : f.got.getD q 0 = f.now := by rw [hkk, hwin]
        refine ⟨_, rfl, ⟨⟨q, rfl, hq⟩, .inr ⟨rfl, .inl ⟨rfl, by simpa using hwin2⟩⟩⟩, ?_⟩
        have hfs : f.step ⟨q, 1, 1⟩ = ⟨q + 1, true, f.got⟩ := by unfold Fs.step; rw [if_neg (by simp), if_pos (by simpa using hwin2)]
        rw [hfs]
        refine ⟨rfl, by simp [h.len], h.glen, fun i x hx => ?_, fun hu => by simp at hu⟩
        simp only [List.getElem?_set] at hx
        by_cases hi : q = i
        · subst hi
          rw [if_pos rfl, if_pos hql] at hx
          simp only [Option.some.injEq] at hx
          subst hx
          exact ⟨hp, by simp only; omega, fun _ => hkk, fun hu => by simp at hu⟩
        · rw [if_neg hi] at hx
          obtain ⟨a1, a2, a3, a4⟩ := h.ws i x hx
          exact ⟨a1, a2, a3, fun hu => by simp at hu⟩
      · rw [if_neg (fun hh => hwin hh.2)] at g1 g3
        have he : s.step q = (⟨s.ws.set q ⟨wk.prog, wk.pos + 1, wk.kept⟩, s.l⟩, [⟨q, 1, 0⟩]) := by
          unfold TSt.step
          rw [hw]
          simp only [ho]
          rw [g1, g2, g3]
          simp only [h0]
          rfl
        rw [he]
        have hwin2 : f.got.getD q 0 ≠ f.now := by rw [hkk]; exact Ne.symm hwin
        have htr : f.tried = true := by
          cases htt : f.tried with
          | true => rfl
          | false =>
            have h1 := (ht htt).2 (by omega)
            have h2 := h.un htt
            exact absurd (h2.trans h1.symm) hwin
        refine ⟨_, rfl, ⟨⟨q, rfl, hq⟩, .inr ⟨rfl, .inr ⟨rfl, by simpa using hwin2, htr⟩⟩⟩, ?_⟩
        have hfs : f.step ⟨q, 1, 0⟩ = ⟨f.now, true, f.got⟩ := by unfold Fs.step; rw [if_neg (by simp), if_neg (by simpa using hwin2)]
        rw [hfs]
        refine ⟨h.l, by simp [h.len], h.glen, fun i x hx => ?_, fun hu => by simp at hu⟩
        simp only [List.getElem?_set] at hx
        by_cases hi : q = i
        · subst hi
          rw [if_pos rfl, if_pos hql] at hx
          simp only [Option.some.injEq] at hx
          subst hx
          exact ⟨hp, by simp only; omega, fun _ => hkk, fun hu => by simp at hu⟩
        · rw [if_neg hi] at hx
          obtain ⟨a1, a2, a3, a4⟩ := h.ws i x hx
          exact ⟨a1, a2, a3, fun hu => by simp at hu⟩
    · left
      unfold TSt.step
      rw [hw]
      have ho : wk.prog[wk.pos]? = none := by rw [hp, h0]; rfl
      simp only [ho]
theorem sw_runs {n : Nat} (r : List Nat) : ∀ {s : TSt} {f : Fs}, SwInv n s f → (∀ i d, (s.runs r).2[i]? = some d → (((s.runs r).2.take i).foldl Fs.step f).good n d) ∧ SwInv n (s.runs r).1 ((s.runs r).2.foldl Fs.step f) := by
  induction r with
  | nil => intro s f h; exact ⟨by simp [TSt.runs], h⟩
  | cons k r ih =>
    intro s f h
    rcases sw_step h k with he | ⟨d, he, hg, hi⟩
    · have hr : s.runs (k :: r) = s.runs r := by simp only [TSt.runs, he, List.nil_append]
      rw [hr]
      exact ih h
    · obtain ⟨a1, a2⟩ := ih hi
      have hr : (s.runs (k :: r)).2 = d :: ((s.step k).1.runs r).2 := by simp only [TSt.runs, he]; rfl
      have hr1 : (s.runs (k :: r)).1 = ((s.step k).1.runs r).1 := rfl
      rw [hr, hr1]
      refine ⟨fun i d' hd => ?_, a2⟩
      match i, hd with
      | 0, hd => simp only [List.getElem?_cons_zero, Option.some.injEq] at hd; subst hd; exact hg
      | i + 1, hd => simp only [List.getElem?_cons_succ] at hd; exact a1 i d' hd
def Fs.init (n : Nat) : Fs := ⟨0, false, List.replicate n 0⟩
def swps (n : Nat) : List (List TOp) := (List.range n).map swp
theorem swps_take {n : Nat} (h : n ≤ 64) : (swps n).take 64 = swps n := List.take_of_length_le (by simp [swps]; omega)
theorem swps_succ (n : Nat) : swps (n + 1) = swps n ++ [swp n] := by simp [swps, List.range_succ]
theorem sw_fresh {n : Nat} (h : n ≤ 64) : SwInv n (freshSt (swps n) [0]) (Fs.init n) := by
  refine ⟨rfl, by simp [freshSt, swps]; omega, by simp [Fs.init], fun i wk hw => ?_, fun _ => rfl⟩
  simp only [freshSt, swps_take h, List.getElem?_map] at hw
  simp only [swps, List.getElem?_map] at hw
  cases hi : (List.range n)[i]? with
  | none => rw [hi] at hw; simp at hw
  | some j =>
    rw [hi] at hw
    simp only [Option.map_some, Option.some.injEq] at hw
    obtain ⟨h1, h2⟩ := List.getElem?_eq_some_iff.1 hi
    simp at h2
    subst h2
    subst hw
    exact ⟨rfl, by simp [fresh], by simp [fresh], by simp [fresh]⟩
theorem sumPos_fresh (ps : List (List TOp)) (l : List Int) : sumPos (freshSt ps l).ws = 0 := by
  unfold sumPos freshSt
  simp only [List.map_map]
  induction ps.take 64 with
  | nil => rfl
  | cons a l ih => simp only [List.map_cons, List.sum_cons, ih]; simp [fresh]
/-- what Rest did, summed up: as many steps as there were -/
theorem rest_len {ps : List (List TOp)} {l : List Int} {P ord : List Nat} {n : Nat} {s : TSt} {out : List Dn} (h : RestTold (freshSt ps l) P n ord s out) (hf : ∀ i, s.fin i) : out.length = ((ps.take 64).map List.length).sum := by
  have h1 := runs_sum (freshSt ps l) (P ++ ord)
  have h2 := runs_prog (freshSt ps l) (P ++ ord)
  rw [h.eq] at h1 h2
  rw [sumPos_fresh, sum_fin hf] at h1
  have h3 : s.ws.map (fun w => w.prog.length) = (s.ws.map (·.prog)).map List.length := by rw [List.map_map]; rfl
  rw [h3, h2] at h1
  simp only [freshSt, List.map_map] at h1
  have h4 : ((ps.take 64).map List.length).sum = ((ps.take 64).map (List.length ∘ ((fun x => x.prog) ∘ fresh))).sum := by congr 1
  rw [h4, h1]; omega
theorem sum_const : ∀ (l : List (List TOp)) (c : Nat), (∀ p ∈ l, p.length = c) → (l.map List.length).sum = l.length * c
  | [], c, _ => by simp
  | p :: l, c, h => by
      rw [List.map_cons, List.sum_cons, sum_const l c (fun q hq => h q (List.mem_cons_of_mem _ hq)), h p (List.mem_cons_self ..), List.length_cons, Nat.add_mul]; omega
theorem sw_rest {n : Nat} {P ord : List Nat} {N : Nat} {s : TSt} {out : List Dn} (hn : n ≤ 64) (h : RestTold (freshSt (swps n) [0]) P N ord s out) (hf : ∀ i, s.fin i) :
    out.length = 2 * n ∧ (∀ i d, out[i]? = some d → ((out.take i).foldl Fs.step (Fs.init n)).good n d) ∧ s.l = [(out.foldl Fs.step (Fs.init n)).now] := by
  have h1 := sw_runs (P ++ ord) (sw_fresh hn)
  rw [h.eq] at h1
  refine ⟨?_, h1.1, h1.2.l⟩
  rw [rest_len h hf, swps_take hn, sum_const _ 2 (fun p hp => by simp only [swps, List.mem_map] at hp; obtain ⟨i, _, rfl⟩ := hp; rfl)]
  simp [swps]; omega
end Go.Proofs.Ytoifojamblnijaa
