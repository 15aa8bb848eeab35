/- One step, of ours and of the document's. -/
import Derived.Test.YtfcldnojmmhekaaEpTurnsF
namespace Go.Proofs.Ytfcldnojmmhekaa
set_option linter.unusedVariables false
set_option linter.unusedSimpArgs false
open Go.RowKit
/-- what a step does, on both sides -/
structure Both (n E k i : Nat) (pin : List Nat) (ss : List (Option Es)) (pd : List Bool) (s s' : Es) (E' : Nat) (pin' : List Nat) (isp : Bool) (r' : Rs) : Prop where
  does : s.does n (cellsL E pin) = (s', cellsL E' pin')
  doc : ∀ (base eb pb stb gb : Nat) (rs : List Rs) (hs : List Value) (G : List (List Th)) (W : World), RE base eb pb stb gb n E pin rs hs G W → rs[k]? = some ⟨true, s.adv, s.pos, s.seen⟩ →
    Calls Try.prog 25 #[.pointer (some ⟨eb, 0, none⟩), .int .i64 k] W fun e w' => e = .returned (.tuple #[.bool s'.done, .bool s'.won, .bool isp]) ∧ RE base eb pb stb gb n E' pin' (rs.set k r') hs G w' ∧ Upd (ReS eb pb stb) W w'
  go : s'.done = false → isp = false ∧ r' = ⟨true, s'.adv, s'.pos, s'.seen⟩ ∧ TV n E' pin' (ss.set k (some s')) pd
  fin : s'.done = true → TV n E' pin' (ss.set k none) (if isp then pd.set k true else pd)
  tg : ∀ sn G, TG E i pin pd sn G → TG E' i pin' pd sn G
  le : E' ≤ E + 1
theorem both {n E k : Nat} (i : Nat) {pin : List Nat} {ss : List (Option Es)} {pd : List Bool} {s : Es} (t : TV n E pin ss pd) (hk : ss[k]? = some (some s)) (hE : E ≤ 500) (hn : 1 ≤ n ∧ n ≤ 64) :
    ∃ s' E' pin' isp r', Both n E k i pin ss pd s s' E' pin' isp r' := by
  obtain ⟨hd, ⟨e, hse, hee⟩, ha, hp, hwon⟩ := t.sn k s hk
  have hkn : k < n := by rw [← t.ls]; exact (List.getElem?_eq_some_iff.1 hk).1
  have kp : k < pin.length := by rw [t.lp]; exact hkn
  have hpk : s.adv = false → pd[k]? ≠ some true := fun h1 h2 => by have := t.p1s k s h2 hk; rw [h1] at this; cases this
  have t' := t
  obtain ⟨wk, av, pos, seen, dn, wn⟩ := s
  simp only at hd hse ha hp hwon hpk
  subst hd hwon hse
  have hw : ∀ x : Nat, x ≤ 1000 → IntKind.u64.wrap ((x : Int) + 1) = ((x + 1 : Nat) : Int) := fun x hx => by rw [IntKind.wrap_u64]; omega
  cases av with
  | true =>
    have hpos := ha rfl
    clear ha hp hpk
    rcases Nat.eq_zero_or_pos pos with rfl | hpos0
    · refine ⟨⟨wk, true, 1, (E : Int), false, false⟩, E, pin, false, ⟨true, true, 1, (E : Int)⟩, ?_, fun base eb pb stb gb rs hs G W q hr => rdo_a0 q hr, fun _ => ⟨rfl, rfl, ?_⟩, fun h => (by cases h), fun _ _ h => h, by omega⟩
      · simp [Es.does, Es.advs, cells0]
      · exact t.go hk rfl rfl rfl rfl ⟨E, rfl, by omega⟩ ⟨fun _ => by simp only; omega, fun h => (by cases h)⟩ (fun _ _ j p hj => by simp only at hj; omega) (fun h => (by cases h))
    · by_cases hle : pos ≤ n
      · obtain ⟨j, rfl⟩ : ∃ j, pos = j + 1 := ⟨pos - 1, by omega⟩
        obtain ⟨x, hx⟩ : ∃ x, pin[j]? = some x := ⟨_, List.getElem?_eq_getElem (by rw [t.lp]; omega)⟩
        have hxE := t.hp j x hx
        refine ⟨⟨wk, true, j + 1 + 1, (e : Int), decide (x ≠ 0 ∧ x ≠ e + 1), false⟩, E, pin, false, ⟨!decide (x ≠ 0 ∧ x ≠ e + 1), true, j + 1 + 1, (e : Int)⟩, ?_, fun base eb pb stb gb rs hs G W q hr => rdo_a1 q hr j x rfl (by omega) hx (by simp only; omega) (by omega) _ rfl, fun h => ⟨rfl, ?_, ?_⟩, fun _ => ?_, fun _ _ h => h, by omega⟩
        · have hz : ¬ (j + 1 = 0) := by omega
          unfold Es.does
          simp only [if_true]
          unfold Es.advs
          simp only [hz, hle, if_true, if_false, cellsP' hx, hw e (by omega)]
          congr 2
          apply decide_eq_decide.2
          constructor
          · rintro ⟨h1, h2⟩; exact ⟨fun h => h1 (by omega), fun h => h2 (by omega)⟩
          · rintro ⟨h1, h2⟩; exact ⟨fun h => h1 (by omega), fun h => h2 (by omega)⟩
        · simp only at h; simp [h]
        · simp only at h
          refine t.go hk rfl h rfl rfl ⟨e, rfl, hee⟩ ⟨fun _ => by simp only; omega, fun h => (by cases h)⟩ (fun _ he j2 p hj hd1 hp1 => ?_) (fun h => (by cases h))
          simp only at he hj
          rcases Nat.lt_or_ge j2 j with h1 | h1
          · exact t.p2 k _ hk rfl he j2 p (by simp only; omega) hd1 hp1
          · obtain rfl : j2 = j := by omega
            obtain rfl : p = x := by rw [hx] at hp1; exact (Option.some.inj hp1).symm
            have hq := t.p1 j2 p hd1 hx
            have := of_decide_eq_false h
            have : p = e + 1 := Classical.byContradiction fun hne => this ⟨by omega, hne⟩
            omega
        · simp only [Bool.false_eq_true, if_false]; exact t.drop k
      · obtain rfl : pos = n + 1 := by omega
        by_cases hes : E = e
        · subst hes
          refine ⟨⟨wk, true, n + 1 + 1, (E : Int), true, true⟩, E + 1, pin, false, ⟨false, true, n + 1, (E : Int)⟩, ?_, fun base eb pb stb gb rs hs G W q hr => ?_, fun h => (by cases h), fun _ => ?_, fun _ _ h => h.win, by omega⟩
          · unfold Es.does
            simp only [if_true]
            unfold Es.advs
            simp only [show ¬ (n + 1 = 0) by omega, hle, if_false, cells0, if_true, hw E (by omega), cells_set0]
          · have := rdo_a2 q hr rfl (by omega) true (by simp)
            simpa using this
          · simp only [Bool.false_eq_true, if_false]; exact t.win hk rfl rfl rfl
        · refine ⟨⟨wk, true, n + 1 + 1, (e : Int), true, false⟩, E, pin, false, ⟨false, true, n + 1, (e : Int)⟩, ?_, fun base eb pb stb gb rs hs G W q hr => ?_, fun h => (by cases h), fun _ => ?_, fun _ _ h => h, by omega⟩
          · unfold Es.does
            simp only [if_true]
            unfold Es.advs
            simp only [show ¬ (n + 1 = 0) by omega, hle, if_false, cells0, show ¬ ((E : Int) = (e : Int)) by omega]
          · have := rdo_a2 q hr rfl (by omega) false (by simp [hes])
            simpa using this
          · simp only [Bool.false_eq_true, if_false]; exact t.drop k
  | false =>
    obtain ⟨hpos, hwk⟩ := hp rfl
    have hpk2 := hpk rfl
    subst hwk
    clear ha hp hpk
    have h3 : pos = 0 ∨ pos = 1 ∨ pos = 2 := by omega
    rcases h3 with rfl | rfl | rfl
    · refine ⟨⟨(k : Int), false, 1, (E : Int), false, false⟩, E, pin, false, ⟨true, false, 1, (E : Int)⟩, ?_, fun base eb pb stb gb rs hs G W q hr => rdo_p0 q hr, fun _ => ⟨rfl, rfl, ?_⟩, fun h => (by cases h), fun _ _ h => h, by omega⟩
      · simp [Es.does, Es.pins, cells0]
      · exact t.go hk rfl rfl rfl rfl ⟨E, rfl, by omega⟩ ⟨fun h => (by cases h), fun _ => by simp⟩ (fun h => (by cases h)) (fun _ h => (by simp at h))
    · refine ⟨⟨(k : Int), false, 2, (e : Int), false, false⟩, E, pin.set k (e + 1), false, ⟨true, false, 2, (e : Int)⟩, ?_, fun base eb pb stb gb rs hs G W q hr => rdo_p1 q hr (by omega), fun _ => ⟨rfl, rfl, ?_⟩, fun h => (by cases h), fun _ _ h => h.store k _ hpk2, by omega⟩
      · unfold Es.does
        simp only [Bool.false_eq_true, if_false]
        unfold Es.pins
        simp only [show ¬ (1 = 0) by omega, if_false, if_true, hw e (by omega), cells_setP kp]
      · exact t.store hk rfl rfl rfl hee _ rfl
    · by_cases hes : E = e
      · subst hes
        refine ⟨⟨(k : Int), false, 0, (E : Int), true, false⟩, E, pin, true, ⟨false, false, 2, (E : Int)⟩, ?_, fun base eb pb stb gb rs hs G W q hr => ?_, fun h => (by cases h), fun _ => ?_, fun _ _ h => h, by omega⟩
        · unfold Es.does
          simp only [Bool.false_eq_true, if_false]
          unfold Es.pins
          simp [cells0]
        · have := rdo_p2 q hr true (by simp)
          simpa using this
        · simp only [if_true]; exact t.done hk rfl rfl rfl
      · refine ⟨⟨(k : Int), false, 0, (e : Int), false, false⟩, E, pin, false, ⟨true, false, 0, (e : Int)⟩, ?_, fun base eb pb stb gb rs hs G W q hr => ?_, fun _ => ⟨rfl, rfl, ?_⟩, fun h => (by cases h), fun _ _ h => h, by omega⟩
        · unfold Es.does
          simp only [Bool.false_eq_true, if_false]
          unfold Es.pins
          have hei : ¬ ((E : Int) = (e : Int)) := by omega
          simp [cells0, hei]
        · have := rdo_p2 q hr false (by simp [hes])
          simpa using this
        · exact t.go hk rfl rfl rfl rfl ⟨e, rfl, hee⟩ ⟨fun h => (by cases h), fun _ => by simp⟩ (fun h => (by cases h)) (fun _ h => (by simp at h))
end Go.Proofs.Ytfcldnojmmhekaa
