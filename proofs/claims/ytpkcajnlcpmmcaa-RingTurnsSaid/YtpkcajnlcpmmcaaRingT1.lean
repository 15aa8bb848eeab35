/- A ring beside the document's, plain. -/
import Derived.Test.YtpkcajnlcpmmcaaRingO
import Derived.Test.YtpkcajnlcpmmcaaRing4
namespace Go.Proofs.Ytpkcajnlcpmmcaa
set_option linter.unusedVariables false
set_option linter.unusedSimpArgs false
open Go.RowKit
/-- what waits -/
def allAt (L : List Int) (n nx : Nat) (d : Nat) : List Int := (List.range d).map fun j => celAt L (2 + ((nx + j : Nat) : Int) % n)
theorem allAt_succ (L : List Int) (n nx d : Nat) : allAt L n nx (d + 1) = allAt L n nx d ++ [celAt L (2 + ((nx + d : Nat) : Int) % n)] := by
  unfold allAt
  rw [List.range_succ, List.map_append]; rfl
/-- the cells: the two counts, the numbers -/
theorem cel0 (g d : Int) (M : List Int) : celAt (g :: d :: M) 0 = g := by unfold celAt; rw [if_pos ⟨by omega, by simp; omega⟩]; rfl
theorem cel1 (g d : Int) (M : List Int) : celAt (g :: d :: M) 1 = d := by unfold celAt; rw [if_pos ⟨by omega, by simp; omega⟩]; rfl
theorem cel2 (g d : Int) (M : List Int) (j : Nat) (hj : j < M.length) : celAt (g :: d :: M) (2 + (j : Int)) = M.getD j 0 := by
  unfold celAt
  rw [if_pos ⟨by omega, by simp; omega⟩]
  rw [show (2 + (j : Int)).toNat = j + 1 + 1 by omega]
  simp [List.getD_eq_getElem?_getD]
theorem celSet0 (g d v : Int) (M : List Int) : celSet (g :: d :: M) 0 v = v :: d :: M := by unfold celSet; rw [if_pos ⟨by omega, by simp; omega⟩]; rfl
theorem celSet1 (g d v : Int) (M : List Int) : celSet (g :: d :: M) 1 v = g :: v :: M := by unfold celSet; rw [if_pos ⟨by omega, by simp; omega⟩]; rfl
theorem celSet2 (g d v : Int) (M : List Int) (j : Nat) (hj : j < M.length) : celSet (g :: d :: M) (2 + (j : Int)) v = g :: d :: M.set j v := by
  unfold celSet
  rw [if_pos ⟨by omega, by simp; omega⟩, show (2 + (j : Int)).toNat = j + 1 + 1 by omega]
  rfl
theorem does_fin {r : Rg} {s : Stp} (hd : s.done = false) (h11 : s.fin = 11) (h : (r.does s).2.done = false) : (r.does s).2.fin = 11 := by
  unfold Rg.does Rg.gets Rg.puts at h ⊢
  obtain ⟨gt, pos, v, fin, done⟩ := s
  simp only at hd h11
  subst hd h11
  cases gt
  · simp only [Bool.false_eq_true, if_false] at h ⊢
    by_cases h0 : pos = 0
    · simp only [h0, if_true] at h ⊢
      split at h
      · simp [Stp.up] at h
      · rename_i hx; rw [if_neg hx]; rfl
    · simp only [h0, if_false] at h ⊢
      by_cases h1 : pos = 1
      · simp only [h1, if_true]; rfl
      · simp only [h1, if_false] at h; simp [Stp.up] at h
  · simp only [if_true] at h ⊢
    by_cases h0 : pos = 0
    · simp only [h0, if_true] at h ⊢
      split at h
      · simp [Stp.up] at h
      · rename_i hx; rw [if_neg hx]; rfl
    · simp only [h0, if_false] at h ⊢
      by_cases h1 : pos = 1
      · simp only [h1, if_true]; rfl
      · simp only [h1, if_false] at h; simp [Stp.up] at h
theorem does_get {r : Rg} {s : Stp} : (r.does s).2.get = s.get := by
  unfold Rg.does Rg.gets Rg.puts Stp.up
  repeat' split
  all_goals rfl
theorem does_n {r : Rg} {s : Stp} : (r.does s).1.n = r.n := by
  unfold Rg.does Rg.gets Rg.puts
  repeat' split
  all_goals rfl
/-- a step that isn't done yet -/
def live (x : Option Stp) : Option Stp := match x with | none => none | some s => if s.done then none else some s
theorem live_not {s : Stp} (h : s.done = false) : live (some s) = some s := by simp [live, h]
theorem live_done {s : Stp} (h : s.done = true) : live (some s) = none := by simp [live, h]
/-- what holds of the counts -/
structure TI (k : Nat) (r : Rg) (nx hd : Nat) (ps gs : Option Stp) : Prop where
  ex : ∃ was, OInv k r was nx hd (live ps) (live gs)
  pg : ∀ s, ps = some s → s.get = false
  gg : ∀ s, gs = some s → s.get = true
  pf : ∀ s, ps = some s → inr .u64 s.v ∧ (s.done = false → s.fin = 11 ∧ s.pos ≤ 2)
  gf : ∀ s, gs = some s → inr .u64 s.v ∧ (s.done = false → s.fin = 11 ∧ s.pos ≤ 2)
section
variable {k : Nat} {r : Rg} {nx hd : Nat} {ps gs : Option Stp}
theorem TI.new (k : Nat) (h1 : 1 ≤ k) : TI k ⟨k, 0, 0, List.replicate (k + 2) 0⟩ 0 0 none none :=
  ⟨⟨[], o_new k h1⟩, by simp, by simp, by simp, by simp⟩
theorem TI.put (t : TI k r nx hd ps gs) (hl : live ps = none) (v : Int) (hv : inr .u64 v) : TI k r nx hd (some ⟨false, 0, v, 11, false⟩) gs := by
  obtain ⟨was, o⟩ := t.ex
  rw [hl] at o
  exact ⟨⟨_, o.put v⟩, fun s h => by cases h; rfl, t.gg, fun s h => by cases h; exact ⟨hv, fun _ => ⟨rfl, by simp⟩⟩, t.gf⟩
theorem TI.get (t : TI k r nx hd ps gs) (hl : live gs = none) : TI k r nx hd ps (some ⟨true, 0, 0, 11, false⟩) := by
  obtain ⟨was, o⟩ := t.ex
  rw [hl] at o
  exact ⟨⟨_, o.get⟩, t.pg, fun s h => by cases h; rfl, t.pf, fun s h => by cases h; exact ⟨(show inr .u64 (0 : Int) from u64_inr (by omega)), fun _ => ⟨rfl, by simp⟩⟩⟩
theorem TI.doP {s : Stp} (t : TI k r nx hd (some s) gs) (hn : s.done = false) (hb : hd + 1 ≤ 1000) (hv : inr .u64 (r.does s).2.v) : ∃ hd', hd' ≤ hd + 1 ∧ TI k (r.does s).1 nx hd' (some (r.does s).2) gs := by
  obtain ⟨was, o⟩ := t.ex
  rw [live_not hn] at o
  obtain ⟨h1, h2⟩ := (t.pf s rfl).2 hn
  have hp := does_pos r s
  have hpf : ∀ s', some (r.does s).2 = some s' → inr .u64 s'.v ∧ (s'.done = false → s'.fin = 11 ∧ s'.pos ≤ 2) := fun s' e => by
    simp only [Option.some.injEq] at e
    subst e
    refine ⟨hv, fun hd' => ⟨does_fin hn h1 hd', ?_⟩⟩
    rcases Nat.lt_or_ge s.pos 2 with h | h
    · omega
    · rw [does_end r s (by omega)] at hd'; cases hd'
  have hpg : ∀ s', some (r.does s).2 = some s' → s'.get = false := fun s' e => by
    simp only [Option.some.injEq] at e; subst e; rw [does_get]; exact t.pg s rfl
  rcases o.doPut hb with ⟨h3, _, _, o2⟩ | ⟨h3, _, o2⟩ | ⟨h3, o2⟩
  · exact ⟨hd, by omega, ⟨⟨_, by rw [live_done h3]; exact o2⟩, hpg, t.gg, hpf, t.gf⟩⟩
  · exact ⟨hd + 1, by omega, ⟨⟨_, by rw [live_done h3]; exact o2⟩, hpg, t.gg, hpf, t.gf⟩⟩
  · exact ⟨hd, by omega, ⟨⟨_, by rw [live_not h3]; exact o2⟩, hpg, t.gg, hpf, t.gf⟩⟩
theorem TI.doG {s : Stp} (t : TI k r nx hd ps (some s)) (hn : s.done = false) (hv : inr .u64 (r.does s).2.v) : ∃ nx', TI k (r.does s).1 nx' hd ps (some (r.does s).2) := by
  obtain ⟨was, o⟩ := t.ex
  rw [live_not hn] at o
  obtain ⟨h1, h2⟩ := (t.gf s rfl).2 hn
  have hp := does_pos r s
  have hpf : ∀ s', some (r.does s).2 = some s' → inr .u64 s'.v ∧ (s'.done = false → s'.fin = 11 ∧ s'.pos ≤ 2) := fun s' e => by
    simp only [Option.some.injEq] at e
    subst e
    refine ⟨hv, fun hd' => ⟨does_fin hn h1 hd', ?_⟩⟩
    rcases Nat.lt_or_ge s.pos 2 with h | h
    · omega
    · rw [does_end r s (by omega)] at hd'; cases hd'
  have hpg : ∀ s', some (r.does s).2 = some s' → s'.get = true := fun s' e => by
    simp only [Option.some.injEq] at e; subst e; rw [does_get]; exact t.gg s rfl
  rcases o.doGet with ⟨h3, _, _, o2⟩ | ⟨h3, _, _, _, o2⟩ | ⟨h3, o2⟩
  · exact ⟨nx, ⟨⟨_, by rw [live_done h3]; exact o2⟩, t.pg, hpg, t.pf, hpf⟩⟩
  · exact ⟨nx + 1, ⟨⟨_, by rw [live_done h3]; exact o2⟩, t.pg, hpg, t.pf, hpf⟩⟩
  · exact ⟨nx, ⟨⟨_, by rw [live_not h3]; exact o2⟩, t.pg, hpg, t.pf, hpf⟩⟩
end
end Go.Proofs.Ytpkcajnlcpmmcaa
