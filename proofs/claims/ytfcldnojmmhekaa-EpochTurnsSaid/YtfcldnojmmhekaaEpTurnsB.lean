/- Epochs, pins, advances in flight, and who was pinned when something was given up: plain. -/
import Derived.Test.YtfcldnojmmhekaaEpoch10
namespace Go.Proofs.Ytfcldnojmmhekaa
set_option linter.unusedVariables false
set_option linter.unusedSimpArgs false
open Go.RowKit
/-- the cells -/
def cellsL (E : Nat) (pin : List Nat) : List Int := (E : Int) :: pin.map fun (x : Nat) => (x : Int)
theorem cells0 (E : Nat) (pin : List Nat) : celAt (cellsL E pin) 0 = E := by unfold celAt cellsL; rw [if_pos ⟨by omega, by simp⟩]; rfl
theorem cellsP {E : Nat} {pin : List Nat} {k p : Nat} (h : pin[k]? = some p) : celAt (cellsL E pin) (1 + (k : Int)) = p := by
  obtain ⟨hl, he⟩ := List.getElem?_eq_some_iff.1 h
  unfold celAt cellsL
  rw [if_pos ⟨by omega, by simp; omega⟩, show (1 + (k : Int)).toNat = k + 1 by omega]
  simp [List.getD_eq_getElem?_getD, h]
theorem cellsP' {E : Nat} {pin : List Nat} {k p : Nat} (h : pin[k]? = some p) : celAt (cellsL E pin) ((k + 1 : Nat) : Int) = p := by
  rw [show ((k + 1 : Nat) : Int) = 1 + (k : Int) by omega]; exact cellsP h
theorem cells_set0 (E E' : Nat) (pin : List Nat) : celSet (cellsL E pin) 0 (E' : Int) = cellsL E' pin := by unfold celSet cellsL; rw [if_pos ⟨by omega, by simp⟩]; rfl
theorem cells_setP {E k : Nat} {pin : List Nat} (h : k < pin.length) (p : Nat) : celSet (cellsL E pin) (1 + (k : Int)) (p : Int) = cellsL E (pin.set k p) := by
  unfold celSet cellsL
  rw [if_pos ⟨by omega, by simp; omega⟩, show (1 + (k : Int)).toNat = k + 1 by omega, List.set_cons_succ, List.map_set]
theorem cells_new (n : Nat) : List.replicate (n + 1) (0 : Int) = cellsL 0 (List.replicate n 0) := by unfold cellsL; rw [List.map_replicate, List.replicate_succ]; rfl
/-- what holds of the epoch, the pins, the steps in flight, and who is pinned -/
structure TV (n E : Nat) (pin : List Nat) (ss : List (Option Es)) (pd : List Bool) : Prop where
  lp : pin.length = n
  ls : ss.length = n
  lb : pd.length = n
  hp : ∀ (j p : Nat), pin[j]? = some p → p ≤ E + 1
  sn : ∀ (j : Nat) s, ss[j]? = some (some s) → s.done = false ∧ (∃ e : Nat, s.seen = (e : Int) ∧ e ≤ E) ∧ (s.adv = true → s.pos ≤ n + 1) ∧ (s.adv = false → s.pos ≤ 2 ∧ s.worker = (j : Int)) ∧ s.won = false
  p1 : ∀ (j p : Nat), pd[j]? = some true → pin[j]? = some p → 1 ≤ p ∧ p ≤ E + 1 ∧ E ≤ p
  p1s : ∀ (j : Nat) s, pd[j]? = some true → ss[j]? = some (some s) → s.adv = true
  p2 : ∀ (k : Nat) s, ss[k]? = some (some s) → s.adv = true → s.seen = (E : Int) → ∀ (j p : Nat), j + 2 ≤ s.pos → pd[j]? = some true → pin[j]? = some p → p = E + 1
  p3 : ∀ (j p : Nat) s, ss[j]? = some (some s) → s.adv = false → s.pos = 2 → pin[j]? = some p → (p : Int) = s.seen + 1
section
variable {n E : Nat} {pin : List Nat} {ss : List (Option Es)} {pd : List Bool}
theorem get_set {α : Type} {l : List α} {i j : Nat} {x y : α} (h : (l.set i x)[j]? = some y) : (j = i ∧ y = x) ∨ (j ≠ i ∧ l[j]? = some y) := by
  by_cases hj : j = i
  · subst hj
    have hl : j < l.length := by have := (List.getElem?_eq_some_iff.1 h).1; simpa using this
    rw [List.getElem?_set_self hl] at h
    exact .inl ⟨rfl, (Option.some.inj h).symm⟩
  · rw [List.getElem?_set_ne (Ne.symm hj)] at h
    exact .inr ⟨hj, h⟩
theorem TV.new (n : Nat) : TV n 0 (List.replicate n 0) (List.replicate n none) (List.replicate n false) := by
  have r : ∀ {α : Type} {x y : α} {j : Nat}, (List.replicate n x)[j]? = some y → y = x := fun h => (List.mem_replicate.1 (List.mem_of_getElem? h)).2
  refine ⟨by simp, by simp, by simp, fun j p h => by have := r h; omega, fun j s h => ?_, fun j p h => ?_, fun j s h => ?_, fun k s h => ?_, fun j p s h => ?_⟩
  · have := r h; cases this
  · have := r h; cases this
  · have := r h; cases this
  · have := r h; cases this
  · have := r h; cases this
/-- a Pin begins: who pins is pinned no more -/
theorem TV.begP (t : TV n E pin ss pd) (k : Nat) : TV n E pin (ss.set k (some ⟨(k : Int), false, 0, 0, false, false⟩)) (pd.set k false) := by
  refine ⟨t.lp, by simp [t.ls], by simp [t.lb], t.hp, fun j s h => ?_, fun j p h hp => ?_, fun j s h hs => ?_, fun a s h ha he j p hj hd hp => ?_, fun j p s h ha h2 hp => ?_⟩
  · rcases get_set h with ⟨rfl, e⟩ | ⟨_, e⟩
    · cases e; exact ⟨rfl, ⟨0, rfl, by omega⟩, by simp, fun _ => ⟨by simp, rfl⟩, rfl⟩
    · exact t.sn j s e
  · rcases get_set h with ⟨_, e⟩ | ⟨_, e⟩
    · cases e
    · exact t.p1 j p e hp
  · rcases get_set h with ⟨_, e⟩ | ⟨hj, e⟩
    · cases e
    · rcases get_set hs with ⟨rfl, _⟩ | ⟨_, e2⟩
      · exact absurd rfl hj
      · exact t.p1s j s e e2
  · rcases get_set hd with ⟨_, e⟩ | ⟨hjk, e⟩
    · cases e
    · rcases get_set h with ⟨rfl, e2⟩ | ⟨_, e2⟩
      · cases e2; cases ha
      · exact t.p2 a s e2 ha he j p hj e hp
  · rcases get_set h with ⟨rfl, e2⟩ | ⟨_, e2⟩
    · cases e2; simp at h2
    · exact t.p3 j p s e2 ha h2 hp
theorem TV.adv (t : TV n E pin ss pd) (k : Nat) : TV n E pin (ss.set k (some ⟨0, true, 0, 0, false, false⟩)) pd := by
  refine ⟨t.lp, by simp [t.ls], t.lb, t.hp, fun j s h => ?_, t.p1, fun j s h hs => ?_, fun a s h ha he j p hj hd hp => ?_, fun j p s h ha h2 hp => ?_⟩
  · rcases get_set h with ⟨rfl, e⟩ | ⟨_, e⟩
    · cases e; exact ⟨rfl, ⟨0, rfl, by omega⟩, by simp, by simp, rfl⟩
    · exact t.sn j s e
  · rcases get_set hs with ⟨rfl, e⟩ | ⟨_, e⟩
    · cases e; rfl
    · exact t.p1s j s h e
  · rcases get_set h with ⟨rfl, e⟩ | ⟨_, e⟩
    · cases e; simp at hj
    · exact t.p2 a s e ha he j p hj hd hp
  · rcases get_set h with ⟨rfl, e⟩ | ⟨_, e⟩
    · cases e; cases ha
    · exact t.p3 j p s e ha h2 hp
theorem TV.unpin (t : TV n E pin ss pd) (k : Nat) (hk : ss[k]? = some none) : TV n E (pin.set k 0) ss (pd.set k false) := by
  refine ⟨by simp [t.lp], t.ls, by simp [t.lb], fun j p h => ?_, t.sn, fun j p h hp => ?_, fun j s h hs => ?_, fun a s h ha he j p hj hd hp => ?_, fun j p s h ha h2 hp => ?_⟩
  · rcases get_set h with ⟨_, e⟩ | ⟨_, e⟩
    · omega
    · exact t.hp j p e
  · rcases get_set h with ⟨_, e⟩ | ⟨hj, e⟩
    · cases e
    · rcases get_set hp with ⟨e2, _⟩ | ⟨_, e2⟩
      · exact absurd e2 hj
      · exact t.p1 j p e e2
  · rcases get_set h with ⟨_, e⟩ | ⟨_, e⟩
    · cases e
    · exact t.p1s j s e hs
  · rcases get_set hd with ⟨_, e⟩ | ⟨hjk, e⟩
    · cases e
    · rcases get_set hp with ⟨e2, _⟩ | ⟨_, e2⟩
      · exact absurd e2 hjk
      · exact t.p2 a s h ha he j p hj e e2
  · rcases get_set hp with ⟨e2, _⟩ | ⟨_, e2⟩
    · subst e2; rw [hk] at h; cases h
    · exact t.p3 j p s h ha h2 e2
/-- a step that goes on: of which the place alone turned, or what it saw -/
theorem TV.go (t : TV n E pin ss pd) {k : Nat} {s s' : Es} (hk : ss[k]? = some (some s)) (ha : s'.adv = s.adv) (hd : s'.done = false) (hw : s'.won = false) (hwk : s'.worker = s.worker) (hs : ∃ e : Nat, s'.seen = (e : Int) ∧ e ≤ E) (hp : (s'.adv = true → s'.pos ≤ n + 1) ∧ (s'.adv = false → s'.pos ≤ 2))
    (h2 : s'.adv = true → s'.seen = (E : Int) → ∀ (j p : Nat), j + 2 ≤ s'.pos → pd[j]? = some true → pin[j]? = some p → p = E + 1) (h3 : s'.adv = false → s'.pos = 2 → ∀ p, pin[k]? = some p → (p : Int) = s'.seen + 1) :
    TV n E pin (ss.set k (some s')) pd := by
  refine ⟨t.lp, by simp [t.ls], t.lb, t.hp, fun j s1 h => ?_, t.p1, fun j s1 h hs1 => ?_, fun a s1 h ha1 he j p hj hd1 hp1 => ?_, fun j p s1 h ha1 h21 hp1 => ?_⟩
  · rcases get_set h with ⟨rfl, e⟩ | ⟨_, e⟩
    · cases e
      exact ⟨hd, hs, hp.1, fun h => ⟨hp.2 h, by rw [hwk]; exact ((t.sn j s hk).2.2.2.1 (ha ▸ h)).2⟩, hw⟩
    · exact t.sn j s1 e
  · rcases get_set hs1 with ⟨rfl, e⟩ | ⟨_, e⟩
    · cases e; rw [ha]; exact t.p1s j s h hk
    · exact t.p1s j s1 h e
  · rcases get_set h with ⟨rfl, e⟩ | ⟨_, e⟩
    · cases e; exact h2 ha1 he j p hj hd1 hp1
    · exact t.p2 a s1 e ha1 he j p hj hd1 hp1
  · rcases get_set h with ⟨rfl, e⟩ | ⟨_, e⟩
    · cases e; exact h3 ha1 h21 p hp1
    · exact t.p3 j p s1 e ha1 h21 hp1
/-- a step that is over -/
theorem TV.drop (t : TV n E pin ss pd) (k : Nat) : TV n E pin (ss.set k none) pd := by
  refine ⟨t.lp, by simp [t.ls], t.lb, t.hp, fun j s1 h => ?_, t.p1, fun j s1 h hs1 => ?_, fun a s1 h ha1 he j p hj hd1 hp1 => ?_, fun j p s1 h ha1 h21 hp1 => ?_⟩
  · rcases get_set h with ⟨_, e⟩ | ⟨_, e⟩
    · cases e
    · exact t.sn j s1 e
  · rcases get_set hs1 with ⟨_, e⟩ | ⟨_, e⟩
    · cases e
    · exact t.p1s j s1 h e
  · rcases get_set h with ⟨_, e⟩ | ⟨_, e⟩
    · cases e
    · exact t.p2 a s1 e ha1 he j p hj hd1 hp1
  · rcases get_set h with ⟨_, e⟩ | ⟨_, e⟩
    · cases e
    · exact t.p3 j p s1 e ha1 h21 hp1
/-- a pin stored -/
theorem TV.store (t : TV n E pin ss pd) {k e : Nat} {s : Es} (hk : ss[k]? = some (some s)) (ha : s.adv = false) (hp : s.pos = 1) (he : s.seen = (e : Int)) (heE : e ≤ E) (s' : Es) (hs' : s' = ⟨s.worker, false, 2, s.seen, false, false⟩) : TV n E (pin.set k (e + 1)) (ss.set k (some s')) pd := by
  have hpk : pd[k]? ≠ some true := fun h => by have := t.p1s k s h hk; rw [ha] at this; cases this
  have t1 : TV n E (pin.set k (e + 1)) (ss.set k none) pd := by
    refine ⟨by simp [t.lp], by simp [t.ls], t.lb, fun j p h => ?_, fun j s1 h => ?_, fun j p h hp => ?_, fun j s1 h hs1 => ?_, fun a s1 h ha1 he1 j p hj hd1 hp1 => ?_, fun j p s1 h ha1 h21 hp1 => ?_⟩
    · rcases get_set h with ⟨_, e⟩ | ⟨_, e⟩
      · omega
      · exact t.hp j p e
    · rcases get_set h with ⟨_, e⟩ | ⟨_, e⟩
      · cases e
      · exact t.sn j s1 e
    · rcases get_set hp with ⟨e2, _⟩ | ⟨_, e2⟩
      · subst e2; exact absurd h hpk
      · exact t.p1 j p h e2
    · rcases get_set hs1 with ⟨_, e⟩ | ⟨_, e⟩
      · cases e
      · exact t.p1s j s1 h e
    · rcases get_set h with ⟨_, e⟩ | ⟨_, e⟩
      · cases e
      · rcases get_set hp1 with ⟨e2, _⟩ | ⟨_, e2⟩
        · subst e2; exact absurd hd1 hpk
        · exact t.p2 a s1 e ha1 he1 j p hj hd1 e2
    · rcases get_set h with ⟨_, e⟩ | ⟨hj, e⟩
      · cases e
      · rcases get_set hp1 with ⟨e2, _⟩ | ⟨_, e2⟩
        · exact absurd e2 hj
        · exact t.p3 j p s1 e ha1 h21 e2
  subst hs'
  obtain ⟨h1, _, _, h4, h5⟩ := t.sn k s hk
  have hkl : k < pin.length := by rw [t.lp, ← t.ls]; exact (List.getElem?_eq_some_iff.1 hk).1
  refine ⟨t1.lp, by simp [t.ls], t.lb, t1.hp, fun j s1 h => ?_, t1.p1, fun j s1 h hs1 => ?_, fun a s1 h ha1 he1 j p hj hd1 hp1 => ?_, fun j p s1 h ha1 h21 hp1 => ?_⟩
  · rcases get_set h with ⟨rfl, e⟩ | ⟨hj, e⟩
    · cases e; exact ⟨rfl, ⟨_, he, heE⟩, by simp, fun _ => ⟨by simp, (h4 ha).2⟩, rfl⟩
    · exact t.sn j s1 e
  · rcases get_set hs1 with ⟨rfl, e⟩ | ⟨hj, e⟩
    · exact absurd h hpk
    · exact t.p1s j s1 h e
  · rcases get_set h with ⟨rfl, e⟩ | ⟨hj2, e⟩
    · cases e; cases ha1
    · exact t1.p2 a s1 (by rw [List.getElem?_set_ne (Ne.symm hj2)]; exact e) ha1 he1 j p hj hd1 hp1
  · rcases get_set h with ⟨rfl, e⟩ | ⟨hj, e⟩
    · cases e
      rw [List.getElem?_set_self hkl] at hp1
      have := Option.some.inj hp1
      simp only; omega
    · exact t1.p3 j p s1 (by rw [List.getElem?_set_ne (Ne.symm hj)]; exact e) ha1 h21 hp1
/-- a pin is done: who pins is pinned -/
theorem TV.done (t : TV n E pin ss pd) {k : Nat} {s : Es} (hk : ss[k]? = some (some s)) (ha : s.adv = false) (hp : s.pos = 2) (he : s.seen = (E : Int)) : TV n E pin (ss.set k none) (pd.set k true) := by
  have hpk : ∀ p, pin[k]? = some p → p = E + 1 := fun p h => by have := t.p3 k p s hk ha hp h; omega
  have t1 := t.drop k
  refine ⟨t.lp, t1.ls, by simp [t.lb], t.hp, t1.sn, fun j p h hpp => ?_, fun j s1 h hs1 => ?_, fun a s1 h ha1 he1 j p hj hd1 hp1 => ?_, t1.p3⟩
  · rcases get_set h with ⟨rfl, _⟩ | ⟨_, e⟩
    · have := hpk p hpp; omega
    · exact t.p1 j p e hpp
  · rcases get_set h with ⟨rfl, _⟩ | ⟨_, e⟩
    · rcases get_set hs1 with ⟨_, e⟩ | ⟨hj, _⟩
      · cases e
      · exact absurd rfl hj
    · exact t1.p1s j s1 e hs1
  · rcases get_set hd1 with ⟨rfl, _⟩ | ⟨_, e⟩
    · exact hpk p hp1
    · exact t1.p2 a s1 h ha1 he1 j p hj e hp1
/-- an advance wins -/
theorem TV.win (t : TV n E pin ss pd) {k : Nat} {s : Es} (hk : ss[k]? = some (some s)) (ha : s.adv = true) (hp : s.pos = n + 1) (he : s.seen = (E : Int)) : TV n (E + 1) pin (ss.set k none) pd := by
  have t1 := t.drop k
  refine ⟨t.lp, t1.ls, t.lb, fun j p h => by have := t.hp j p h; omega, fun j s1 h => ?_, fun j p h hpp => ?_, t1.p1s, fun a s1 h ha1 he1 j p hj hd1 hp1 => ?_, t1.p3⟩
  · obtain ⟨h1, ⟨e, h2, h3⟩, h4⟩ := t1.sn j s1 h
    exact ⟨h1, ⟨e, h2, by omega⟩, h4⟩
  · have hj : j < n := by rw [← t.lb]; exact (List.getElem?_eq_some_iff.1 h).1
    have := t.p2 k s hk ha he j p (by omega) h hpp
    omega
  · obtain ⟨_, ⟨e, h2, h3⟩, _⟩ := t1.sn a s1 h
    omega
end
/-- what was given up: when, and who was pinned then and is still -/
structure TG (E i : Nat) (pin : List Nat) (pd : List Bool) (sn : List (List Bool)) (G : List (List Th)) : Prop where
  at_ : ∀ (k : Nat) l t, G[k]? = some l → t ∈ l → ∃ a u : Nat, t.what = (a : Int) ∧ t.when = (u : Int) ∧ 1 ≤ a ∧ a ≤ i ∧ u ≤ E ∧ ∀ r (p : Nat), sn[a]? = some r → r[p]? = some true → pd[p]? = some true ∧ ∀ q, pin[p]? = some q → q ≤ u + 1
/-- who is pinned no more is taken out of all rows -/
def clr (k : Nat) (sn : List (List Bool)) : List (List Bool) := sn.map fun r => r.set k false
theorem clr_at {k a p : Nat} {sn : List (List Bool)} {r : List Bool} (h : (clr k sn)[a]? = some r) (hp : r[p]? = some true) : p ≠ k ∧ ∃ r0, sn[a]? = some r0 ∧ r0[p]? = some true := by
  unfold clr at h
  rw [List.getElem?_map] at h
  cases hr : sn[a]? with
  | none => rw [hr] at h; cases h
  | some r0 =>
    rw [hr] at h
    obtain rfl : r0.set k false = r := Option.some.inj h
    rcases get_set hp with ⟨_, e⟩ | ⟨hpk, e⟩
    · cases e
    · exact ⟨hpk, r0, rfl, e⟩
section
variable {n E i : Nat} {pin : List Nat} {ss : List (Option Es)} {pd : List Bool} {sn : List (List Bool)} {G : List (List Th)}
theorem TG.new (n : Nat) : TG 0 0 (List.replicate n 0) (List.replicate n false) (List.replicate 200 []) (List.replicate n []) :=
  ⟨fun k l t h ht => by have := (List.mem_replicate.1 (List.mem_of_getElem? h)).2; subst this; cases ht⟩
theorem TG.begP (t : TG E i pin pd sn G) (k : Nat) : TG E i pin (pd.set k false) (clr k sn) G := ⟨fun a l x h hx => by
  obtain ⟨c, u, h1, h2, h3, h4, h5, h6⟩ := t.at_ a l x h hx
  refine ⟨c, u, h1, h2, h3, h4, h5, fun r p hr hp => ?_⟩
  obtain ⟨hpk, r0, e1, e2⟩ := clr_at hr hp
  obtain ⟨q1, q2⟩ := h6 r0 p e1 e2
  exact ⟨by rw [List.getElem?_set_ne (Ne.symm hpk)]; exact q1, q2⟩⟩
theorem TG.unpin (t : TG E i pin pd sn G) (k : Nat) : TG E i (pin.set k 0) (pd.set k false) (clr k sn) G := ⟨fun a l x h hx => by
  obtain ⟨c, u, h1, h2, h3, h4, h5, h6⟩ := t.at_ a l x h hx
  refine ⟨c, u, h1, h2, h3, h4, h5, fun r p hr hp => ?_⟩
  obtain ⟨hpk, r0, e1, e2⟩ := clr_at hr hp
  obtain ⟨q1, q2⟩ := h6 r0 p e1 e2
  exact ⟨by rw [List.getElem?_set_ne (Ne.symm hpk)]; exact q1, fun q hq => q2 q (by rw [List.getElem?_set_ne (Ne.symm hpk)] at hq; exact hq)⟩⟩
theorem TG.done (t : TG E i pin pd sn G) (k : Nat) : TG E i pin (pd.set k true) sn G := ⟨fun a l x h hx => by
  obtain ⟨c, u, h1, h2, h3, h4, h5, h6⟩ := t.at_ a l x h hx
  refine ⟨c, u, h1, h2, h3, h4, h5, fun r p hr hp => ?_⟩
  obtain ⟨q1, q2⟩ := h6 r p hr hp
  refine ⟨?_, q2⟩
  by_cases hpk : p = k
  · subst hpk; rw [List.getElem?_set_self (List.getElem?_eq_some_iff.1 q1).1]
  · rw [List.getElem?_set_ne (Ne.symm hpk)]; exact q1⟩
theorem TG.store (t : TG E i pin pd sn G) (k q0 : Nat) (hk : pd[k]? ≠ some true) : TG E i (pin.set k q0) pd sn G := ⟨fun a l x h hx => by
  obtain ⟨c, u, h1, h2, h3, h4, h5, h6⟩ := t.at_ a l x h hx
  refine ⟨c, u, h1, h2, h3, h4, h5, fun r p hr hp => ?_⟩
  obtain ⟨q1, q2⟩ := h6 r p hr hp
  refine ⟨q1, fun q hq => q2 q ?_⟩
  by_cases hpk : p = k
  · subst hpk; exact absurd q1 hk
  · rw [List.getElem?_set_ne (Ne.symm hpk)] at hq; exact hq⟩
theorem TG.win (t : TG E i pin pd sn G) : TG (E + 1) i pin pd sn G := ⟨fun a l x h hx => by
  obtain ⟨c, u, h1, h2, h3, h4, h5, h6⟩ := t.at_ a l x h hx
  exact ⟨c, u, h1, h2, h3, h4, by omega, h6⟩⟩
theorem TG.next (t : TG E i pin pd sn G) : TG E (i + 1) pin pd sn G := ⟨fun a l x h hx => by
  obtain ⟨c, u, h1, h2, h3, h4, h5, h6⟩ := t.at_ a l x h hx
  exact ⟨c, u, h1, h2, h3, by omega, h5, h6⟩⟩
theorem TG.weak (t : TG E i pin pd sn G) {sn' : List (List Bool)} (hw : ∀ (a : Nat) r, sn'[a]? = some r → r = [] ∨ sn[a]? = some r) : TG E i pin pd sn' G := ⟨fun a l x h hx => by
  obtain ⟨c, u, h1, h2, h3, h4, h5, h6⟩ := t.at_ a l x h hx
  refine ⟨c, u, h1, h2, h3, h4, h5, fun r p hr hp => ?_⟩
  rcases hw c r hr with e | e
  · subst e; simp at hp
  · exact h6 r p e hp⟩
theorem TG.give (t : TG E i pin pd sn G) (v : TV n E pin ss pd) (k : Nat) (l : List Th) (hl : G[k]? = some l) : TG E (i + 1) pin pd (sn.set (i + 1) pd) (G.set k (l ++ [⟨((i + 1 : Nat) : Int), (E : Int)⟩])) := ⟨fun a l1 x h hx => by
  have old : ∀ l0, G[a]? = some l0 → x ∈ l0 → ∃ c u : Nat, x.what = (c : Int) ∧ x.when = (u : Int) ∧ 1 ≤ c ∧ c ≤ i + 1 ∧ u ≤ E ∧ ∀ r (p : Nat), (sn.set (i + 1) pd)[c]? = some r → r[p]? = some true → pd[p]? = some true ∧ ∀ q, pin[p]? = some q → q ≤ u + 1 := fun l0 h0 hx0 => by
    obtain ⟨c, u, h1, h2, h3, h4, h5, h6⟩ := t.at_ a l0 x h0 hx0
    exact ⟨c, u, h1, h2, h3, by omega, h5, fun r p hr hp => h6 r p (by rw [List.getElem?_set_ne (by omega)] at hr; exact hr) hp⟩
  rcases get_set h with ⟨rfl, e⟩ | ⟨_, e⟩
  · subst e
    rcases List.mem_append.1 hx with hx | hx
    · exact old l hl hx
    · obtain rfl : x = _ := List.mem_singleton.1 hx
      refine ⟨i + 1, E, rfl, rfl, by omega, by omega, by omega, fun r p hr hp => ?_⟩
      rcases get_set hr with ⟨_, e⟩ | ⟨hne, _⟩
      · subst e
        exact ⟨hp, fun q hq => (v.p1 p q hp hq).2.1⟩
      · exact absurd rfl hne
  · exact old l1 e hx⟩
theorem TG.take (t : TG E i pin pd sn G) (k : Nat) (l : List Th) (hl : G[k]? = some l) : TG E i pin pd sn (G.set k (leaves (E : Int) l)) := ⟨fun a l1 x h hx => by
  rcases get_set h with ⟨rfl, e⟩ | ⟨_, e⟩
  · subst e; exact t.at_ _ l x hl ((List.mem_filter.1 hx).1)
  · exact t.at_ a l1 x e hx⟩
/-- what may be used again wasn't given up while somebody was pinned who is still -/
theorem TG.safe (t : TG E i pin pd sn G) (v : TV n E pin ss pd) {k : Nat} {l : List Th} (hl : G[k]? = some l) {w : Int} (hw : w ∈ takes (E : Int) l) : ∃ a : Nat, w = (a : Int) ∧ a ≤ i ∧ ∀ r, sn[a]? = some r → ∀ p : Nat, r[p]? ≠ some true := by
  unfold takes at hw
  obtain ⟨x, hx, rfl⟩ := List.mem_map.1 hw
  obtain ⟨hx1, hx2⟩ := List.mem_filter.1 hx
  obtain ⟨c, u, h1, h2, h3, h4, h5, h6⟩ := t.at_ k l x hl hx1
  unfold Th.ripe at hx2
  rw [decide_eq_true_iff, h2] at hx2
  refine ⟨c, h1, h4, fun r hr p hp => ?_⟩
  obtain ⟨q1, q2⟩ := h6 r p hr hp
  have hpl : p < pin.length := by rw [v.lp, ← v.lb]; exact (List.getElem?_eq_some_iff.1 q1).1
  have hq := List.getElem?_eq_getElem hpl
  have := q2 _ hq
  have := v.p1 p _ q1 hq
  omega
end
end Go.Proofs.Ytfcldnojmmhekaa
