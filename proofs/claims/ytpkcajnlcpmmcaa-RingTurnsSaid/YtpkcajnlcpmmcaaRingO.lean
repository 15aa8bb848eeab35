/- A ring with a Put and a Get in flight, plain. -/
import Derived.Test.YtpkcajnlcpmmcaaRingQ
namespace Go.Proofs.Ytpkcajnlcpmmcaa
set_option linter.unusedVariables false
set_option linter.unusedSimpArgs false
open Go.RowKit
def one (sp : Option Stp) : Nat := match sp with | none => 0 | some _ => 1
structure OInv (k : Nat) (r : Rg) (was : List Int) (nx hd : Nat) (sp sg : Option Stp) : Prop where
  n1 : 1 ≤ k
  rn : r.n = k
  len : r.L.length = k + 2
  g : r.got = nx
  h : r.had = hd
  c0 : celAt r.L 0 = nx
  c1 : celAt r.L 1 = hd
  le1 : nx ≤ hd
  le2 : hd ≤ nx + k
  big : hd ≤ 1000
  at_ : ∀ (j : Nat) x, nx ≤ j → j < hd → was[j]? = some x → celAt r.L (2 + (j : Int) % k) = x
  wl : was.length = hd + one sp
  pp : ∀ s, sp = some s → s.get = false ∧ s.done = false ∧ s.pos ≤ 2 ∧ was[hd]? = some s.v ∧ (1 ≤ s.pos → hd < nx + k) ∧ (s.pos = 2 → celAt r.L (2 + (hd : Int) % k) = s.v)
  gg : ∀ s, sg = some s → s.get = true ∧ s.done = false ∧ s.pos ≤ 2 ∧ (1 ≤ s.pos → nx < hd) ∧ (s.pos = 2 → was[nx]? = some s.v)
theorem mod_rng (k j : Nat) (h : 1 ≤ k) : 2 ≤ 2 + (j : Int) % k ∧ 2 + (j : Int) % k < ((k + 2 : Nat) : Int) := by
  have h3 := Int.emod_nonneg (j : Int) (show (k : Int) ≠ 0 by omega)
  have h4 := Int.emod_lt_of_pos (j : Int) (show (0 : Int) < k by omega)
  omega
theorem OInv.put {k : Nat} {r : Rg} {was : List Int} {nx hd : Nat} {sg : Option Stp} (o : OInv k r was nx hd none sg) (v : Int) : OInv k r (was ++ [v]) nx hd (some ⟨false, 0, v, 11, false⟩) sg := by
  have hw := o.wl
  simp only [one, Nat.add_zero] at hw
  refine ⟨o.n1, o.rn, o.len, o.g, o.h, o.c0, o.c1, o.le1, o.le2, o.big, fun j x h1 h2 hj => ?_, by simp [one, hw], fun s hs => ?_, fun s hs => ?_⟩
  · rw [List.getElem?_append_left (by omega)] at hj
    exact o.at_ j x h1 h2 hj
  · simp only [Option.some.injEq] at hs
    subst hs
    exact ⟨rfl, rfl, by simp, by rw [List.getElem?_append_right (by omega), hw]; simp, by simp, by simp⟩
  · obtain ⟨a1, a2, a3, a4, a5⟩ := o.gg s hs
    refine ⟨a1, a2, a3, a4, fun hp => ?_⟩
    have := a4 (by omega)
    rw [List.getElem?_append_left (by omega)]
    exact a5 hp
theorem OInv.get {k : Nat} {r : Rg} {was : List Int} {nx hd : Nat} {sp : Option Stp} (o : OInv k r was nx hd sp none) : OInv k r was nx hd sp (some ⟨true, 0, 0, 11, false⟩) := by
  refine ⟨o.n1, o.rn, o.len, o.g, o.h, o.c0, o.c1, o.le1, o.le2, o.big, o.at_, o.wl, o.pp, fun s hs => ?_⟩
  simp only [Option.some.injEq] at hs
  subst hs
  exact ⟨rfl, rfl, by simp, by simp, by simp⟩
theorem OInv.doPut {k : Nat} {r : Rg} {was : List Int} {nx hd : Nat} {s : Stp} {sg : Option Stp} (o : OInv k r was nx hd (some s) sg) (hb : hd + 1 ≤ 1000) :
    ((r.does s).2.done = true ∧ (r.does s).2.fin = 9 ∧ hd = nx + k ∧ OInv k (r.does s).1 (was.take hd) nx hd none sg) ∨
    ((r.does s).2.done = true ∧ (r.does s).2.fin = 0 ∧ OInv k (r.does s).1 was nx (hd + 1) none sg) ∨
    ((r.does s).2.done = false ∧ OInv k (r.does s).1 was nx hd (some (r.does s).2) sg) := by
  obtain ⟨a1, a2, a3, a4, a5, a6⟩ := o.pp s rfl
  have hw := o.wl
  simp only [one] at hw
  have hn1 := o.n1
  have hlen := o.len
  have hle1 := o.le1
  have hle2 := o.le2
  have hbig := o.big
  obtain ⟨gt, pos, v, fin, done⟩ := s
  simp only at a1 a2 a3 a4 a5 a6
  subst a1 a2
  have h3 : pos = 0 ∨ pos = 1 ∨ pos = 2 := by omega
  rcases h3 with rfl | rfl | rfl
  · by_cases hful : hd = nx + k
    · left
      have hwr : IntKind.u64.wrap (r.had - celAt r.L 0) = r.n := by
        rw [o.h, o.c0, wrap_sub' _ _ (by omega) (by omega), o.rn]; omega
      have hd1 : r.does ⟨false, 0, v, fin, false⟩ = (r, ⟨false, 1, v, 9, true⟩) := by simp [Rg.does, Rg.puts, Stp.up, hwr]
      rw [hd1]
      refine ⟨rfl, rfl, hful, o.n1, o.rn, o.len, o.g, o.h, o.c0, o.c1, o.le1, o.le2, o.big, fun j x h1 h2 hj => ?_, by simp [one]; omega, fun s hs => by simp at hs, fun s hs => ?_⟩
      · rw [List.getElem?_take, if_pos h2] at hj
        exact o.at_ j x h1 h2 hj
      · obtain ⟨b1, b2, b3, b4, b5⟩ := o.gg s hs
        refine ⟨b1, b2, b3, b4, fun hp => ?_⟩
        have := b4 (by omega)
        rw [List.getElem?_take, if_pos this]
        exact b5 hp
    · right; right
      have hwr : IntKind.u64.wrap (r.had - celAt r.L 0) ≠ r.n := by
        rw [o.h, o.c0, wrap_sub' _ _ (by omega) (by omega), o.rn]; omega
      have hd1 : r.does ⟨false, 0, v, fin, false⟩ = (r, ⟨false, 1, v, fin, false⟩) := by simp [Rg.does, Rg.puts, Stp.up, hwr]
      rw [hd1]
      refine ⟨rfl, o.n1, o.rn, o.len, o.g, o.h, o.c0, o.c1, o.le1, o.le2, o.big, o.at_, o.wl, fun s hs => ?_, o.gg⟩
      simp only [Option.some.injEq] at hs
      subst hs
      exact ⟨rfl, rfl, by simp, a4, fun _ => by omega, fun h => by simp at h⟩
  · right; right
    have hlt := a5 (by omega)
    have hd1 : r.does ⟨false, 1, v, fin, false⟩ = (⟨r.n, r.had, r.got, celSet r.L (r.slot r.had) v⟩, ⟨false, 2, v, fin, false⟩) := by simp [Rg.does, Rg.puts, Stp.up]
    have hsl : r.slot r.had = 2 + (hd : Int) % k := by unfold Rg.slot; rw [o.h, o.rn]
    have hrg := mod_rng k hd hn1
    rw [hd1, hsl]
    refine ⟨rfl, o.n1, o.rn, by simp only [celSet_length]; exact o.len, o.g, o.h, ?_, ?_, o.le1, o.le2, o.big, fun j x h1 h2 hj => ?_, o.wl, fun s hs => ?_, o.gg⟩
    · simp only; rw [celAt_set_ne _ _ _ _ (by omega)]; exact o.c0
    · simp only; rw [celAt_set_ne _ _ _ _ (by omega)]; exact o.c1
    · simp only
      have hne := mod_ne (n := k) (a := j) (b := hd) h2 (by omega)
      rw [celAt_set_ne _ _ _ _ (by omega)]
      exact o.at_ j x h1 h2 hj
    · simp only [Option.some.injEq] at hs
      subst hs
      exact ⟨rfl, rfl, by simp, a4, fun _ => hlt, fun _ => celAt_set_self _ _ _ ⟨by omega, by omega⟩⟩
  · right; left
    have hlt := a5 (by omega)
    have hcel := a6 rfl
    have hw2 : IntKind.u64.wrap (r.had + 1) = ((hd + 1 : Nat) : Int) := by
      rw [o.h, show (hd : Int) + 1 = ((hd + 1 : Nat) : Int) by omega, wrap_nat _ (by omega)]
    have hd1 : r.does ⟨false, 2, v, fin, false⟩ = (⟨r.n, ((hd + 1 : Nat) : Int), r.got, celSet r.L 1 ((hd + 1 : Nat) : Int)⟩, ⟨false, 3, v, 0, true⟩) := by
      simp only [Rg.does, Rg.puts, Stp.up, hw2]
      rfl
    rw [hd1]
    refine ⟨rfl, rfl, o.n1, o.rn, by simp only [celSet_length]; exact o.len, o.g, rfl, ?_, ?_, by omega, by omega, by omega, fun j x h1 h2 hj => ?_, by simp only [one]; omega, fun s hs => by simp at hs, fun s hs => ?_⟩
    · simp only; rw [celAt_set_ne _ _ _ _ (by omega)]; exact o.c0
    · simp only; rw [celAt_set_self _ _ _ ⟨by omega, by omega⟩]
    · simp only
      have hrj := mod_rng k j hn1
      rw [celAt_set_ne _ _ _ _ (by omega)]
      rcases Nat.lt_or_ge j hd with h | h
      · exact o.at_ j x h1 h hj
      · obtain rfl : j = hd := by omega
        rw [a4] at hj
        simp only [Option.some.injEq] at hj
        subst hj
        exact hcel
    · obtain ⟨b1, b2, b3, b4, b5⟩ := o.gg s hs
      exact ⟨b1, b2, b3, fun h => by have := b4 h; omega, b5⟩
theorem OInv.doGet {k : Nat} {r : Rg} {was : List Int} {nx hd : Nat} {s : Stp} {sp : Option Stp} (o : OInv k r was nx hd sp (some s)) :
    ((r.does s).2.done = true ∧ (r.does s).2.fin = 7 ∧ hd = nx ∧ OInv k (r.does s).1 was nx hd sp none) ∨
    ((r.does s).2.done = true ∧ (r.does s).2.fin = 0 ∧ nx < hd ∧ was[nx]? = some (r.does s).2.val ∧ OInv k (r.does s).1 was (nx + 1) hd sp none) ∨
    ((r.does s).2.done = false ∧ OInv k (r.does s).1 was nx hd sp (some (r.does s).2)) := by
  obtain ⟨a1, a2, a3, a4, a5⟩ := o.gg s rfl
  have hw := o.wl
  have hn1 := o.n1
  have hlen := o.len
  have hle1 := o.le1
  have hle2 := o.le2
  have hbig := o.big
  obtain ⟨gt, pos, v, fin, done⟩ := s
  simp only at a1 a2 a3 a4 a5
  subst a1 a2
  have h3 : pos = 0 ∨ pos = 1 ∨ pos = 2 := by omega
  rcases h3 with rfl | rfl | rfl
  · by_cases hem : hd = nx
    · left
      have hwr : celAt r.L 1 = r.got := by rw [o.c1, o.g, hem]
      have hd1 : r.does ⟨true, 0, v, fin, false⟩ = (r, ⟨true, 1, v, 7, true⟩) := by simp [Rg.does, Rg.gets, Stp.up, hwr]
      rw [hd1]
      exact ⟨rfl, rfl, hem, o.n1, o.rn, o.len, o.g, o.h, o.c0, o.c1, o.le1, o.le2, o.big, o.at_, o.wl, o.pp, fun s hs => by simp at hs⟩
    · right; right
      have hwr : celAt r.L 1 ≠ r.got := by rw [o.c1, o.g]; omega
      have hd1 : r.does ⟨true, 0, v, fin, false⟩ = (r, ⟨true, 1, v, fin, false⟩) := by simp [Rg.does, Rg.gets, Stp.up, hwr]
      rw [hd1]
      refine ⟨rfl, o.n1, o.rn, o.len, o.g, o.h, o.c0, o.c1, o.le1, o.le2, o.big, o.at_, o.wl, o.pp, fun s hs => ?_⟩
      simp only [Option.some.injEq] at hs
      subst hs
      exact ⟨rfl, rfl, by simp, fun _ => by omega, fun h => by simp at h⟩
  · right; right
    have hlt := a4 (by omega)
    obtain ⟨x, hx⟩ : ∃ x, was[nx]? = some x := ⟨_, List.getElem?_eq_getElem (by omega)⟩
    have hcx : celAt r.L (r.slot r.got) = x := by
      unfold Rg.slot
      rw [o.g, o.rn]
      exact o.at_ nx x (by omega) hlt hx
    have hd1 : r.does ⟨true, 1, v, fin, false⟩ = (r, ⟨true, 2, x, fin, false⟩) := by simp [Rg.does, Rg.gets, Stp.up, hcx]
    rw [hd1]
    refine ⟨rfl, o.n1, o.rn, o.len, o.g, o.h, o.c0, o.c1, o.le1, o.le2, o.big, o.at_, o.wl, o.pp, fun s hs => ?_⟩
    simp only [Option.some.injEq] at hs
    subst hs
    exact ⟨rfl, rfl, by simp, fun _ => hlt, fun _ => hx⟩
  · right; left
    have hlt := a4 (by omega)
    have hval := a5 rfl
    have hw2 : IntKind.u64.wrap (r.got + 1) = ((nx + 1 : Nat) : Int) := by
      rw [o.g, show (nx : Int) + 1 = ((nx + 1 : Nat) : Int) by omega, wrap_nat _ (by omega)]
    have hd1 : r.does ⟨true, 2, v, fin, false⟩ = (⟨r.n, r.had, ((nx + 1 : Nat) : Int), celSet r.L 0 ((nx + 1 : Nat) : Int)⟩, ⟨true, 3, v, 0, true⟩) := by
      simp only [Rg.does, Rg.gets, Stp.up, hw2]
      rfl
    rw [hd1]
    refine ⟨rfl, rfl, hlt, hval, o.n1, o.rn, by simp only [celSet_length]; exact o.len, rfl, o.h, ?_, ?_, by omega, by omega, o.big, fun j x h1 h2 hj => ?_, o.wl, fun s hs => ?_, fun s hs => by simp at hs⟩
    · simp only; rw [celAt_set_self _ _ _ ⟨by omega, by omega⟩]
    · simp only; rw [celAt_set_ne _ _ _ _ (by omega)]; exact o.c1
    · simp only
      have hrj := mod_rng k j hn1
      rw [celAt_set_ne _ _ _ _ (by omega)]
      exact o.at_ j x (by omega) h2 hj
    · obtain ⟨b1, b2, b3, b4, b5, b6⟩ := o.pp s hs
      refine ⟨b1, b2, b3, b4, fun h => by have := b5 h; omega, fun h => ?_⟩
      have hrj := mod_rng k hd hn1
      simp only
      rw [celAt_set_ne _ _ _ _ (by omega)]
      exact b6 h
theorem o_new (k : Nat) (h1 : 1 ≤ k) : OInv k ⟨k, 0, 0, List.replicate (k + 2) 0⟩ [] 0 0 none none := by
  refine ⟨h1, rfl, by simp, rfl, rfl, ?_, ?_, Nat.le_refl _, by omega, by omega, by simp, rfl, by simp, by simp⟩
  · simp [celAt, List.getD_eq_getElem?_getD, List.getElem?_replicate]
  · simp [celAt, List.getD_eq_getElem?_getD, List.getElem?_replicate]
end Go.Proofs.Ytpkcajnlcpmmcaa
